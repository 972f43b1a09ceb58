/- Plain laws of paths: place by place, from the last number on. -/
import Derived.Test.YtkjoamindolonaaDoorUMath3
set_option linter.unusedSimpArgs false
set_option linter.unusedVariables false
namespace Um

/-- number i of a path of L + 1 numbers -/
def placeOk (L i : Nat) (x : Int) : Prop := 0 ≤ x ∧ (0 < i → 1 ≤ x) ∧ (0 < i → i = L → 2 ≤ x) ∧ (L = 0 → 1 ≤ x)

theorem tailOk_place : ∀ l : List Int, l ≠ [] → (tailOk l ↔ ∀ i, i < l.length → (1 ≤ l.getD i 0 ∧ (i + 1 = l.length → 2 ≤ l.getD i 0)))
  | [], h => absurd rfl h
  | [x], _ => by
    constructor
    · intro h i hi
      have : i = 0 := by simp at hi; exact hi
      subst this
      simp [tailOk] at h ⊢; omega
    · intro h
      have := h 0 (by simp)
      simp [tailOk] at this ⊢; omega
  | x :: y :: l, _ => by
    have ih := tailOk_place (y :: l) (by simp)
    show (1 ≤ x ∧ tailOk (y :: l)) ↔ _
    rw [ih]
    constructor
    · rintro ⟨h1, h2⟩ i hi
      cases i with
      | zero => exact ⟨h1, fun e => by simp at e⟩
      | succ i =>
        have := h2 i (by simpa using hi)
        exact ⟨by simpa using this.1, fun e => by have := this.2 (by simpa using e); simpa using this⟩
    · intro h
      refine ⟨(h 0 (by simp)).1, fun i hi => ?_⟩
      have := h (i + 1) (by simpa using hi)
      exact ⟨by simpa using this.1, fun e => by have := this.2 (by simpa using e); simpa using this⟩

theorem pathB_place (zs : List Int) (L : Nat) (hl : zs.length = L + 1) : pathB zs = true ↔ ∀ i, i < L + 1 → placeOk L i (zs.getD i 0) := by
  rw [pathB_iff]
  match zs, hl with
  | [x], hl =>
    have h0 : L = 0 := by simpa using hl
    subst h0
    constructor
    · intro h i hi
      have : i = 0 := by omega
      subst this
      simp [canon] at h
      simp [placeOk]; omega
    · intro h
      have := (h 0 (by omega)).2.2.2 rfl
      simpa [canon] using this
  | x :: y :: l, hl =>
    have hL : L = (y :: l).length := by simpa using hl.symm
    show (0 ≤ x ∧ tailOk (y :: l)) ↔ _
    rw [tailOk_place (y :: l) (by simp)]
    constructor
    · rintro ⟨h1, h2⟩ i hi
      cases i with
      | zero => exact ⟨h1, fun h => absurd h (by omega), fun h => absurd h (by omega), fun h => by simp [hL] at h⟩
      | succ i =>
        have := h2 i (by omega)
        have e : (x :: y :: l).getD (i + 1) 0 = (y :: l).getD i 0 := by simp
        rw [e]
        exact ⟨by omega, fun _ => this.1, fun _ h => this.2 (by omega), fun h => by simp [hL] at h⟩
    · intro h
      refine ⟨(h 0 (by omega)).1, fun i hi => ?_⟩
      have := h (i + 1) (by omega)
      have e : (x :: y :: l).getD (i + 1) 0 = (y :: l).getD i 0 := by simp
      rw [e] at this
      exact ⟨this.2.1 (by omega), fun h => this.2.2.1 (by omega) (by omega)⟩

theorem tail_drop : ∀ (l : List Int) (k : Nat), tailOk l → k < l.length → tailOk (l.drop k)
  | [], _, h, _ => by simp [tailOk] at h
  | [x], k, h, hk => by
    have : k = 0 := by simp at hk; exact hk
    subst this; exact h
  | x :: y :: l, k, h, hk => by
    cases k with
    | zero => exact h
    | succ k => exact tail_drop (y :: l) k h.2 (by simpa using hk)

theorem tail_mono : ∀ (l : List Int) (k : Nat), tailOk l → k < l.length → (ev (l.drop k)).1 ≤ (ev l).1
  | [], _, h, _ => by simp [tailOk] at h
  | [x], k, h, hk => by
    have : k = 0 := by simp at hk; exact hk
    subst this; exact Int.le_refl _
  | x :: y :: l, k, h, hk => by
    cases k with
    | zero => exact Int.le_refl _
    | succ k =>
      have ih := tail_mono (y :: l) k h.2 (by simpa using hk)
      have he := tailOk_ev (y :: l) h.2
      have hx := h.1
      have : 1 * (ev (y :: l)).1 ≤ x * (ev (y :: l)).1 := Int.mul_le_mul_of_nonneg_right hx (by omega)
      show (ev ((y :: l).drop k)).1 ≤ x * (ev (y :: l)).1 + (ev (y :: l)).2
      omega

/-- what is left of a path, behind its first number -/
theorem canon_drop (zs : List Int) (h : canon zs) (k : Nat) (h1 : 1 ≤ k) (hk : k < zs.length) : 0 < (ev (zs.drop k)).2 ∧ 0 < (ev (zs.drop k)).1 ∧ (ev (zs.drop k)).1 ≤ (ev zs).2 := by
  match zs, h with
  | [x], _ => simp at hk; omega
  | x :: y :: l, h =>
    obtain ⟨j, rfl⟩ : ∃ j, k = j + 1 := ⟨k - 1, by omega⟩
    have h2 := tail_mono (y :: l) j h.2 (by simpa using hk)
    have h3 := tailOk_ev _ (tail_drop (y :: l) j h.2 (by simpa using hk))
    show 0 < (ev ((y :: l).drop j)).2 ∧ 0 < (ev ((y :: l).drop j)).1 ∧ (ev ((y :: l).drop j)).1 ≤ (ev (y :: l)).1
    omega

theorem drop_ev (zs : List Int) (k : Nat) (hk : k < zs.length) : ev (zs.drop k) = (zs.getD k 0 * (ev (zs.drop (k + 1))).1 + (ev (zs.drop (k + 1))).2, (ev (zs.drop (k + 1))).1) := by
  have : zs.drop k = zs.getD k 0 :: zs.drop (k + 1) := by
    rw [List.drop_eq_getElem_cons hk, List.getD_eq_getElem?_getD, List.getElem?_eq_getElem hk]; rfl
  rw [this]; rfl

def fits (zs : List Int) : Prop := (ev zs).1 ≤ 1000000000 ∧ (ev zs).2 ≤ 1000000000

/-- a number that is too great -/
theorem over_num (zs : List Int) (h : canon zs) (k : Nat) (hk : k < zs.length) (hx : 1000000000 < zs.getD k 0) : ¬ fits zs := by
  have hd := drop_ev zs k hk
  have hp : 1 ≤ (ev (zs.drop (k + 1))).1 ∧ 0 ≤ (ev (zs.drop (k + 1))).2 := by
    by_cases e : k + 1 < zs.length
    · have := canon_drop zs h (k + 1) (by omega) e; omega
    · rw [List.drop_eq_nil_of_le (by omega)]; simp [ev]
  have hge : zs.getD k 0 ≤ (ev (zs.drop k)).1 := by
    rw [hd]
    have : zs.getD k 0 * 1 ≤ zs.getD k 0 * (ev (zs.drop (k + 1))).1 := Int.mul_le_mul_of_nonneg_left hp.1 (by omega)
    show _ ≤ _ + _
    omega
  rintro ⟨f1, f2⟩
  by_cases e : k = 0
  · subst e
    rw [List.drop_zero] at hge
    omega
  · have := (canon_drop zs h k (by omega) hk).2.2
    omega

/-- a fraction that is too great -/
theorem over_frac (zs : List Int) (h : canon zs) (k : Nat) (hk : k < zs.length) (hx : 1000000000 < (ev (zs.drop k)).1) : ¬ fits zs := by
  rintro ⟨f1, f2⟩
  by_cases e : k = 0
  · subst e
    rw [List.drop_zero] at hx
    omega
  · have := (canon_drop zs h k (by omega) hk).2.2
    omega

end Um
