/- UMath UBase EBase EN1 EN2 EN3 URange -/
import Derived.Test.YtlbjnkopbabcnaaGreatDoorRows
import Derived.WalkKit
import Derived.WalkSpells
import Derived.WalkLawsBesides
import Derived.Lib.Hide
import Derived.Shelf.Abstract
import Derived.Deep.QuietTactic
import Derived.BigQuiet
import Derived.Deep.RegionHeld3
import Derived.RangeFuncFrom
import Derived.RangeFuncNested
import Derived.RangeFuncCalls
import Derived.RangeFuncLeaves
import Derived.OwnWalkIn
import Derived.TacticsInMore
import Derived.LoopNIn
import Derived.LoopIn

section
set_option linter.unusedSimpArgs false
set_option linter.unusedVariables false
namespace Um

/-- the path of the simplest fraction from a / b to c / d -/
def sp : Nat → Int → Int → Int → Int → List Int
  | 0, _, _, _, _ => []
  | k + 1, a, b, c, d =>
    if a % b = 0 then [a / b]
    else if (a / b + 1) * d ≤ c then [a / b + 1]
    else a / b :: sp k d (c - a / b * d) b (a % b)

/-- the fraction of a path -/
def ev : List Int → Int × Int
  | [] => (1, 0)
  | x :: l => (x * (ev l).1 + (ev l).2, (ev l).1)

def Good (a b c d : Int) (l : List Int) : Prop :=
  0 < (ev l).1 ∧ 0 < (ev l).2 ∧ a * (ev l).2 ≤ (ev l).1 * b ∧ (ev l).1 * d ≤ c * (ev l).2 ∧
  ∀ x y, 0 < x → 0 < y → a * y ≤ x * b → x * d ≤ c * y → (ev l).2 ≤ y ∧ (ev l).1 ≤ x

theorem lt_of_mul_lt {a b c : Int} (hb : 0 < b) (h : a * b < c * b) : a < c := by
  by_cases h1 : a < c
  · exact h1
  · have h1 : c ≤ a := by omega
    have := Int.mul_le_mul_of_nonneg_right h1 (Int.le_of_lt hb); omega

theorem le_of_mul_le {a b c : Int} (hb : 0 < b) (h : a * b ≤ c * b) : a ≤ c := by
  by_cases h1 : c < a
  · have := Int.mul_lt_mul_of_pos_right h1 hb; omega
  · omega

theorem gcd_step (p q : Int) (hp : 0 ≤ p) (hq : 0 < q) : Int.gcd q (p % q) = Int.gcd p q := by
  obtain ⟨m, rfl⟩ := Int.eq_ofNat_of_zero_le hp
  obtain ⟨n, rfl⟩ := Int.eq_ofNat_of_zero_le (Int.le_of_lt hq)
  show Nat.gcd n (m % n) = Nat.gcd m n
  rw [Nat.gcd_comm m n, Nat.gcd_rec n m, Nat.gcd_comm]

/-- the place of the first element that p holds of, or -1 -/
def idx {α : Type} (p : α → Bool) : List α → Int
  | [] => -1
  | x :: l => if p x then 0 else if idx p l < 0 then -1 else idx p l + 1

theorem idx_any {α : Type} (p : α → Bool) (l : List α) : decide (0 ≤ idx p l) = l.any p := by
  induction l with
  | nil => rfl
  | cons x l ih =>
    simp only [idx, List.any_cons, ← ih]
    by_cases h : p x <;> simp [h]
    by_cases h2 : idx p l < 0 <;> simp [h2] <;> omega

theorem idx_at {α : Type} (p : α → Bool) (k : Nat) : ∀ (l : List α) (x : α), (∀ i y, i < k → l[i]? = some y → p y = false) → l[k]? = some x → p x = true → idx p l = k := by
  induction k with
  | zero =>
    intro l x _ hx hp
    cases l with
    | nil => simp at hx
    | cons y l => simp at hx; subst hx; simp [idx, hp]
  | succ k ih =>
    intro l x h hx hp
    cases l with
    | nil => simp at hx
    | cons y l =>
      have h0 := h 0 y (by omega) rfl
      have := ih l x (fun i z hi hz => h (i + 1) z (by omega) (by simpa using hz)) (by simpa using hx) hp
      simp only [idx, h0, this]
      simp
      omega

theorem idx_none {α : Type} (p : α → Bool) (l : List α) (h : ∀ x ∈ l, p x = false) : idx p l = -1 := by
  induction l with
  | nil => rfl
  | cons x l ih =>
    have := ih (fun y hy => h y (List.mem_cons_of_mem _ hy))
    simp [idx, h x (List.mem_cons_self), this]

theorem sp_good : ∀ (k : Nat) (a b c d : Int), 0 < a → 0 < b → 0 < c → 0 < d → a * d ≤ c * b → b + d ≤ k → Good a b c d (sp k a b c d) := by
  intro k
  induction k with
  | zero => intro a b c d ha hb hc hd _ hk; omega
  | succ k ih =>
    intro a b c d ha hb hc hd hle hk
    have hdm := Int.mul_ediv_add_emod a b
    have hr0 := Int.emod_nonneg a (b := b) (by omega)
    have hr1 := Int.emod_lt_of_pos a hb
    have hw0 : 0 ≤ a / b := Int.ediv_nonneg (by omega) (by omega)
    unfold sp
    generalize hw : a / b = w at *
    generalize hr : a % b = r at *
    have hac : a = w * b + r := by rw [Int.mul_comm w b]; omega
    split
    · rename_i h0
      subst h0
      have hwp : 0 < w := by
        by_cases h : 0 < w
        · exact h
        · have : w = 0 := by omega
          subst this; omega
      have hwd : w * d ≤ c := by
        apply le_of_mul_le hb
        have : w * d * b = a * d := by rw [hac]; simp only [Int.add_zero, Int.mul_assoc, Int.mul_comm, Int.mul_left_comm]
        omega
      refine ⟨?_, ?_, ?_, ?_, ?_⟩ <;> simp only [ev, Int.mul_one, Int.add_zero]
      · exact hwp
      · omega
      · omega
      · exact hwd
      · intro x y hx hy h1 _
        refine ⟨by omega, ?_⟩
        apply le_of_mul_le hb
        have : a * 1 ≤ a * y := Int.mul_le_mul_of_nonneg_left (by omega) (by omega)
        omega
    · rename_i h0
      split
      · rename_i h1
        refine ⟨?_, ?_, ?_, ?_, ?_⟩ <;> simp only [ev, Int.mul_one, Int.add_zero]
        · omega
        · omega
        · rw [Int.add_mul]; omega
        · exact h1
        · intro x y hx hy h2 _
          refine ⟨by omega, ?_⟩
          have : a * 1 ≤ a * y := Int.mul_le_mul_of_nonneg_left (by omega) (by omega)
          have : w < x := lt_of_mul_lt hb (by omega)
          omega
      · rename_i h1
        have hrp : 0 < r := by omega
        have hwd : w * d < c := by
          apply lt_of_mul_lt hb
          have e : a * d = w * d * b + r * d := by rw [hac]; simp only [Int.add_mul, Int.mul_add, Int.mul_assoc, Int.mul_comm, Int.mul_left_comm]
          have : 0 < r * d := Int.mul_pos hrp hd
          omega
        have hlt : c < w * d + d := by rw [Int.add_mul] at h1; omega
        have key : d * r ≤ b * (c - w * d) := by
          have e : a * d = b * (w * d) + d * r := by rw [hac]; simp only [Int.add_mul, Int.mul_add, Int.mul_assoc, Int.mul_comm, Int.mul_left_comm]
          rw [Int.mul_sub]; rw [Int.mul_comm c b] at hle; omega
        obtain ⟨g1, g2, g3, g4, g5⟩ := ih d (c - w * d) b r hd (by omega) hb hrp key (by omega)
        generalize sp k d (c - w * d) b r = l at *
        generalize hn : (ev l).1 = n at *
        generalize hm : (ev l).2 = m at *
        have e1 : a * n = w * n * b + n * r := by rw [hac]; simp only [Int.add_mul, Int.mul_add, Int.mul_assoc, Int.mul_comm, Int.mul_left_comm]
        refine ⟨?_, ?_, ?_, ?_, ?_⟩ <;> simp only [ev, hn, hm]
        · have := Int.mul_nonneg hw0 (Int.le_of_lt g1); omega
        · exact g1
        · rw [Int.add_mul, e1]; rw [Int.mul_comm b m] at g4; omega
        · rw [Int.mul_sub] at g3
          rw [Int.add_mul]
          have e2 : n * (w * d) = w * n * d := by simp only [Int.mul_assoc, Int.mul_comm, Int.mul_left_comm]
          rw [Int.mul_comm d m] at g3; rw [Int.mul_comm c n]; omega
        · intro x y hx hy h2 h3
          have hwy : w * y < x := by
            apply lt_of_mul_lt hb
            have e3 : a * y = w * y * b + r * y := by rw [hac]; simp only [Int.add_mul, Int.mul_add, Int.mul_assoc, Int.mul_comm, Int.mul_left_comm]
            have : 0 < r * y := Int.mul_pos hrp hy
            omega
          have := g5 y (x - w * y) hy (by omega) (by
            rw [Int.mul_sub, Int.mul_sub]
            have e4 : d * (w * y) = y * (w * d) := by simp only [Int.mul_assoc, Int.mul_comm, Int.mul_left_comm]
            rw [Int.mul_comm d x, Int.mul_comm y c]; omega) (by
            rw [Int.mul_sub]
            have e3 : a * y = b * (w * y) + y * r := by rw [hac]; simp only [Int.add_mul, Int.mul_add, Int.mul_assoc, Int.mul_comm, Int.mul_left_comm]
            rw [Int.mul_comm b x]; omega)
          refine ⟨this.2, ?_⟩
          have : w * n ≤ w * y := Int.mul_le_mul_of_nonneg_left this.2 hw0
          omega

/-- a step on a path: both numbers of a fraction, and of the one before it -/
abbrev St := Int × Int × Int × Int
def on (s : St) (n : Int) : St := (n * s.1 + s.2.2.1, n * s.2.1 + s.2.2.2, s.1, s.2.1)
def fw (s : St) : List Int → St
  | [] => s
  | n :: l => fw (on s n) l
def first : St := (1, 0, 0, 1)

theorem fw_ev (l : List Int) : ∀ s : St, (fw s l).1 = s.1 * (ev l).1 + s.2.2.1 * (ev l).2 ∧ (fw s l).2.1 = s.2.1 * (ev l).1 + s.2.2.2 * (ev l).2 := by
  induction l with
  | nil => intro s; simp [fw, ev]
  | cons n l ih =>
    intro s
    simp only [fw, ev, ih, on]
    simp only [Int.add_mul, Int.mul_add, Int.mul_assoc, Int.mul_comm, Int.mul_left_comm]
    omega

theorem fw_first (l : List Int) : (fw first l).1 = (ev l).1 ∧ (fw first l).2.1 = (ev l).2 := by
  have := fw_ev l first
  simp [first] at this
  exact this

/-- the determinant of a step: 1 or -1 -/
def det (s : St) : Int := s.1 * s.2.2.2 - s.2.2.1 * s.2.1
theorem det_on (s : St) (n : Int) : det (on s n) = - det s := by
  simp only [det, on, Int.add_mul, Int.mul_add, Int.mul_assoc, Int.mul_comm, Int.mul_left_comm]
  omega
theorem det_fw (l : List Int) : ∀ s, det s = 1 ∨ det s = -1 → det (fw s l) = 1 ∨ det (fw s l) = -1 := by
  induction l with
  | nil => intro s h; exact h
  | cons n l ih => intro s h; exact ih _ (by rw [det_on]; omega)
theorem det_first (l : List Int) : det (fw first l) = 1 ∨ det (fw first l) = -1 := det_fw l first (Or.inl (by decide))

theorem gcd_of_det {p q u v : Int} (h : p * v - u * q = 1 ∨ p * v - u * q = -1) : Int.gcd p q = 1 := by
  have h1 : (Int.gcd p q : Int) ∣ p * v - u * q := Int.dvd_sub (Int.dvd_trans (Int.gcd_dvd_left ..) (Int.dvd_mul_right ..)) (Int.dvd_trans (Int.gcd_dvd_right ..) (Int.dvd_mul_left ..))
  have h2 : (Int.gcd p q : Int) ∣ 1 := by
    rcases h with h | h
    · rwa [h] at h1
    · rw [h] at h1; simpa using h1
  have := Int.le_of_dvd (by decide) h2
  have h0 : Int.gcd p q ≠ 0 := by
    intro h0
    rw [h0] at h2
    simp at h2
  omega

theorem ev_gcd (l : List Int) : Int.gcd (ev l).1 (ev l).2 = 1 := by
  have := det_first l
  rw [← (fw_first l).1, ← (fw_first l).2]
  exact gcd_of_det this

/-- numbers from 1 on, the last one from 2 on -/
def tailOk : List Int → Prop
  | [] => False
  | [x] => 2 ≤ x
  | x :: y :: l => 1 ≤ x ∧ tailOk (y :: l)
/-- the numbers of a path -/
def canon : List Int → Prop
  | [] => False
  | [x] => 1 ≤ x
  | x :: y :: l => 0 ≤ x ∧ tailOk (y :: l)

theorem tailOk_ev : ∀ l, tailOk l → 0 < (ev l).2 ∧ (ev l).2 < (ev l).1
  | [], h => by simp [tailOk] at h
  | [x], h => by simp [tailOk] at h; simp [ev]; omega
  | x :: y :: l, h => by
    have ih := tailOk_ev (y :: l) h.2
    have hx := h.1
    have : 1 * (ev (y :: l)).1 ≤ x * (ev (y :: l)).1 := Int.mul_le_mul_of_nonneg_right hx (by omega)
    show 0 < (ev (y :: l)).1 ∧ (ev (y :: l)).1 < x * (ev (y :: l)).1 + (ev (y :: l)).2
    omega

theorem canon_ev : ∀ l, canon l → 0 < (ev l).1 ∧ 0 < (ev l).2
  | [], h => by simp [canon] at h
  | [x], h => by simp [canon] at h; simp [ev]; omega
  | x :: y :: l, h => by
    have ih := tailOk_ev (y :: l) h.2
    have hx := h.1
    have : 0 * (ev (y :: l)).1 ≤ x * (ev (y :: l)).1 := Int.mul_le_mul_of_nonneg_right hx (by omega)
    show 0 < x * (ev (y :: l)).1 + (ev (y :: l)).2 ∧ 0 < (ev (y :: l)).1
    omega

/-- the path of a fraction -/
def eu : Nat → Int → Int → List Int
  | 0, _, _ => []
  | k + 1, n, d => if d = 0 then [] else n / d :: eu k d (n % d)

theorem eu_zero (k : Nat) (n : Int) : eu k n 0 = [] := by cases k <;> simp [eu]

theorem div_of (x n m : Int) (h0 : 0 ≤ m) (h1 : m < n) : (x * n + m) / n = x ∧ (x * n + m) % n = m := by
  constructor
  · rw [Int.add_comm, Int.add_mul_ediv_right _ _ (by omega), Int.ediv_eq_zero_of_lt h0 h1]; omega
  · rw [Int.add_comm, Int.add_mul_emod_self_right, Int.emod_eq_of_lt h0 h1]

theorem eu_tail : ∀ (l : List Int) (k : Nat), tailOk l → l.length ≤ k → eu (k + 1) (ev l).1 (ev l).2 = l
  | [], _, h, _ => by simp [tailOk] at h
  | [x], k, _, hk => by
    obtain ⟨k, rfl⟩ : ∃ j, k = j + 1 := ⟨k - 1, by simp at hk; omega⟩
    simp [ev, eu, eu_zero]
  | x :: y :: l, k, h, hk => by
    obtain ⟨k, rfl⟩ : ∃ j, k = j + 1 := ⟨k - 1, by simp at hk; omega⟩
    have he := tailOk_ev (y :: l) h.2
    have ih := eu_tail (y :: l) k h.2 (by simp at hk ⊢; omega)
    obtain ⟨d1, d2⟩ := div_of x (ev (y :: l)).1 (ev (y :: l)).2 (by omega) (by omega)
    show eu (k + 1 + 1) (x * (ev (y :: l)).1 + (ev (y :: l)).2) (ev (y :: l)).1 = _
    rw [eu, if_neg (by omega), d1, d2, ih]

theorem eu_canon : ∀ (l : List Int) (k : Nat), canon l → l.length ≤ k → eu (k + 1) (ev l).1 (ev l).2 = l
  | [], _, h, _ => by simp [canon] at h
  | [x], k, _, hk => by
    obtain ⟨k, rfl⟩ : ∃ j, k = j + 1 := ⟨k - 1, by simp at hk; omega⟩
    simp [ev, eu, eu_zero]
  | x :: y :: l, k, h, hk => by
    obtain ⟨k, rfl⟩ : ∃ j, k = j + 1 := ⟨k - 1, by simp at hk; omega⟩
    have he := tailOk_ev (y :: l) h.2
    have ih := eu_tail (y :: l) k h.2 (by simp at hk ⊢; omega)
    obtain ⟨d1, d2⟩ := div_of x (ev (y :: l)).1 (ev (y :: l)).2 (by omega) (by omega)
    show eu (k + 1 + 1) (x * (ev (y :: l)).1 + (ev (y :: l)).2) (ev (y :: l)).1 = _
    rw [eu, if_neg (by omega), d1, d2, ih]
theorem eu_ev : ∀ (k : Nat) (n d : Int), 0 ≤ n → 0 ≤ d → Int.gcd n d = 1 → d < k → ev (eu k n d) = (n, d) := by
  intro k
  induction k with
  | zero => intro n d _ hd _ hk; omega
  | succ k ih =>
    intro n d hn hd hg hk
    rw [eu]
    by_cases h0 : d = 0
    · subst h0
      rw [if_pos rfl]
      simp at hg
      simp [ev]; omega
    · rw [if_neg h0]
      have h1 := Int.emod_nonneg n (b := d) h0
      have h2 := Int.emod_lt_of_pos n (b := d) (by omega)
      have := ih d (n % d) (by omega) h1 (by rw [gcd_step n d hn (by omega)]; exact hg) (by omega)
      have h3 := Int.mul_ediv_add_emod n d
      simp only [ev, this]
      rw [Int.mul_comm (n / d) d, h3]

theorem eu_tailOk : ∀ (k : Nat) (n d : Int), d < n → 1 ≤ d → Int.gcd n d = 1 → d < k → tailOk (eu k n d) := by
  intro k
  induction k with
  | zero => intro n d _ hd _ hk; omega
  | succ k ih =>
    intro n d hn hd hg hk
    have h1 := Int.emod_nonneg n (b := d) (by omega)
    have h2 := Int.emod_lt_of_pos n (b := d) (by omega)
    have h3 := Int.mul_ediv_add_emod n d
    have hq : 1 ≤ n / d := (Int.le_ediv_iff_mul_le (by omega)).2 (by omega)
    rw [eu, if_neg (by omega)]
    have hgs := gcd_step n d (by omega) (by omega)
    by_cases h0 : n % d = 0
    · rw [h0, eu_zero]
      rw [h0] at hgs
      simp at hgs
      have : d = 1 := by omega
      subst this
      simp [tailOk]
      omega
    · have := ih d (n % d) h2 (by omega) (by omega) (by omega)
      cases he : eu k d (n % d) with
      | nil => rw [he] at this; exact this.elim
      | cons y l => rw [he] at this; exact ⟨hq, this⟩

theorem eu_canonical (k : Nat) (n d : Int) (hn : 1 ≤ n) (hd : 1 ≤ d) (hg : Int.gcd n d = 1) (hk : d < k) : canon (eu k n d) := by
  obtain ⟨k, rfl⟩ : ∃ j, k = j + 1 := ⟨k - 1, by omega⟩
  have h1 := Int.emod_nonneg n (b := d) (by omega)
  have h2 := Int.emod_lt_of_pos n (b := d) (by omega)
  have h3 := Int.mul_ediv_add_emod n d
  have hq : 0 ≤ n / d := Int.ediv_nonneg (by omega) (by omega)
  rw [eu, if_neg (by omega)]
  have hgs := gcd_step n d (by omega) (by omega)
  by_cases h0 : n % d = 0
  · rw [h0, eu_zero]
    rw [h0] at hgs
    simp at hgs
    have : d = 1 := by omega
    subst this
    simp [canon]
    omega
  · have := eu_tailOk k d (n % d) h2 (by omega) (by omega) (by omega)
    cases he : eu k d (n % d) with
    | nil => rw [he] at this; exact this.elim
    | cons y l => rw [he] at this; exact ⟨hq, this⟩

theorem eu_ne (k : Nat) (n d : Int) (hd : 1 ≤ d) : 1 ≤ (eu (k + 1) n d).length := by
  rw [eu, if_neg (by omega)]; simp

theorem tail_len : ∀ l, tailOk l → (2 ^ ((l.length + 1) / 2) : Int) ≤ (ev l).1
  | [], h => by simp [tailOk] at h
  | [x], h => by simp [tailOk] at h; simp [ev]; omega
  | [x, y], h => by
    simp [tailOk] at h
    have : 1 * 2 ≤ x * y := Int.mul_le_mul h.1 h.2 (by omega) (by omega)
    simp [ev]; omega
  | x :: y :: z :: l, h => by
    have h2 := h.2
    have ih := tail_len (z :: l) h2.2
    have e1 := tailOk_ev (z :: l) h2.2
    have m1 : 1 * (ev (y :: z :: l)).1 ≤ x * (ev (y :: z :: l)).1 := Int.mul_le_mul_of_nonneg_right h.1 (by have := tailOk_ev _ h2; omega)
    have m2 : 1 * (ev (z :: l)).1 ≤ y * (ev (z :: l)).1 := Int.mul_le_mul_of_nonneg_right h2.1 (by omega)
    have e3 : (ev (x :: y :: z :: l)).1 = x * (ev (y :: z :: l)).1 + (ev (z :: l)).1 := rfl
    have e4 : (ev (y :: z :: l)).1 = y * (ev (z :: l)).1 + (ev (z :: l)).2 := rfl
    have e5 : ((x :: y :: z :: l).length + 1) / 2 = ((z :: l).length + 1) / 2 + 1 := by simp; omega
    rw [e5, Int.pow_succ]
    omega

theorem pow_lt_inv {m : Nat} (h : (2 ^ m : Int) ≤ 1000000000) : m < 30 := by
  by_cases hm : m < 30
  · exact hm
  · have h1 : (2 : Int) ^ 30 ≤ 2 ^ m := by
      have : (2 : Nat) ^ 30 ≤ 2 ^ m := Nat.pow_le_pow_right (by decide) (by omega)
      exact_mod_cast this
    have h2 : (2 : Int) ^ 30 = 1073741824 := by decide
    omega

theorem tail_len60 (l : List Int) (h : tailOk l) (hb : (ev l).1 ≤ 1000000000) : l.length ≤ 59 := by
  have := pow_lt_inv (Int.le_trans (tail_len l h) hb)
  omega

theorem canon_len (l : List Int) (h : canon l) (hb : (ev l).2 ≤ 1000000000) : l.length ≤ 60 := by
  match l, h with
  | [x], _ => simp
  | x :: y :: l, h => have := tail_len60 (y :: l) h.2 hb; simp at this ⊢; omega

/-- the path of the simplest fraction is one -/
theorem sp_tailOk : ∀ (k : Nat) (a b c d : Int), 0 < b → 0 < d → b < a → a * d ≤ c * b → b + d ≤ k → tailOk (sp k a b c d) := by
  intro k
  induction k with
  | zero => intro a b c d hb hd _ _ hk; omega
  | succ k ih =>
    intro a b c d hb hd hab hle hk
    have hdm := Int.mul_ediv_add_emod a b
    have hr0 := Int.emod_nonneg a (b := b) (by omega)
    have hr1 := Int.emod_lt_of_pos a hb
    have hw : 1 ≤ a / b := (Int.le_ediv_iff_mul_le hb).2 (by omega)
    unfold sp
    generalize a / b = w at *
    generalize a % b = r at *
    have hac : a = w * b + r := by rw [Int.mul_comm w b]; omega
    split
    · rename_i h0
      simp [tailOk]
      by_cases h1 : w = 1
      · subst h1; omega
      · omega
    · rename_i h0
      split
      · simp [tailOk]; omega
      · rename_i h1
        have hrp : 0 < r := by omega
        have hwd : w * d < c := by
          apply lt_of_mul_lt hb
          have e : a * d = w * d * b + r * d := by rw [hac]; simp only [Int.add_mul, Int.mul_add, Int.mul_assoc, Int.mul_comm, Int.mul_left_comm]
          have : 0 < r * d := Int.mul_pos hrp hd
          omega
        have hlt : c < w * d + d := by rw [Int.add_mul] at h1; omega
        have key : d * r ≤ b * (c - w * d) := by
          have e : a * d = b * (w * d) + d * r := by rw [hac]; simp only [Int.add_mul, Int.mul_add, Int.mul_assoc, Int.mul_comm, Int.mul_left_comm]
          rw [Int.mul_sub]; rw [Int.mul_comm c b] at hle; omega
        have := ih d (c - w * d) b r (by omega) hrp (by omega) key (by omega)
        cases he : sp k d (c - w * d) b r with
        | nil => rw [he] at this; exact this.elim
        | cons y l => rw [he] at this; exact ⟨hw, this⟩

theorem sp_canon : ∀ (k : Nat) (a b c d : Int), 0 < a → 0 < b → 0 < d → a * d ≤ c * b → b + d ≤ k → canon (sp k a b c d) := by
  intro k a b c d ha hb hd hle hk
  obtain ⟨k, rfl⟩ : ∃ j, k = j + 1 := ⟨k - 1, by omega⟩
  have hdm := Int.mul_ediv_add_emod a b
  have hr0 := Int.emod_nonneg a (b := b) (by omega)
  have hr1 := Int.emod_lt_of_pos a hb
  have hw : 0 ≤ a / b := Int.ediv_nonneg (by omega) (by omega)
  unfold sp
  generalize a / b = w at *
  generalize a % b = r at *
  have hac : a = w * b + r := by rw [Int.mul_comm w b]; omega
  split
  · rename_i h0
    simp [canon]
    by_cases h1 : w = 0
    · subst h1; omega
    · omega
  · rename_i h0
    split
    · simp [canon]; omega
    · rename_i h1
      have hrp : 0 < r := by omega
      have hwd : w * d < c := by
        apply lt_of_mul_lt hb
        have e : a * d = w * d * b + r * d := by rw [hac]; simp only [Int.add_mul, Int.mul_add, Int.mul_assoc, Int.mul_comm, Int.mul_left_comm]
        have : 0 < r * d := Int.mul_pos hrp hd
        omega
      have hlt : c < w * d + d := by rw [Int.add_mul] at h1; omega
      have key : d * r ≤ b * (c - w * d) := by
        have e : a * d = b * (w * d) + d * r := by rw [hac]; simp only [Int.add_mul, Int.mul_add, Int.mul_assoc, Int.mul_comm, Int.mul_left_comm]
        rw [Int.mul_sub]; rw [Int.mul_comm c b] at hle; omega
      have := sp_tailOk k d (c - w * d) b r (by omega) hrp (by omega) key (by omega)
      cases he : sp k d (c - w * d) b r with
      | nil => rw [he] at this; exact this.elim
      | cons y l => rw [he] at this; exact ⟨hw, this⟩

/-- no path of a fraction in the span is shorter -/
theorem sp_short : ∀ (k : Nat) (a b c d : Int) (k' : Nat) (x y : Int), 0 < b → 0 < d → b + d ≤ k → 0 < a → a * d ≤ c * b →
    0 < x → 0 < y → a * y ≤ x * b → x * d ≤ c * y → y < k' → (sp k a b c d).length ≤ (eu k' x y).length := by
  intro k
  induction k with
  | zero => intro a b c d _ _ _ hb hd hk; omega
  | succ k ih =>
    intro a b c d k' x y hb hd hk ha hle hx hy h2 h3 hk'
    obtain ⟨k', rfl⟩ : ∃ j, k' = j + 1 := ⟨k' - 1, by omega⟩
    have hdm := Int.mul_ediv_add_emod a b
    have hr0 := Int.emod_nonneg a (b := b) (by omega)
    have hr1 := Int.emod_lt_of_pos a hb
    unfold sp
    generalize a / b = w at *
    generalize a % b = r at *
    have hac : a = w * b + r := by rw [Int.mul_comm w b]; omega
    split
    · exact eu_ne k' x y hy
    · rename_i h0
      split
      · exact eu_ne k' x y hy
      · rename_i h1
        have hrp : 0 < r := by omega
        have hwd : w * d < c := by
          apply lt_of_mul_lt hb
          have e : a * d = w * d * b + r * d := by rw [hac]; simp only [Int.add_mul, Int.mul_add, Int.mul_assoc, Int.mul_comm, Int.mul_left_comm]
          have : 0 < r * d := Int.mul_pos hrp hd
          omega
        have hlt : c < w * d + d := by rw [Int.add_mul] at h1; omega
        have key : d * r ≤ b * (c - w * d) := by
          have e : a * d = b * (w * d) + d * r := by rw [hac]; simp only [Int.add_mul, Int.mul_add, Int.mul_assoc, Int.mul_comm, Int.mul_left_comm]
          rw [Int.mul_sub]; rw [Int.mul_comm c b] at hle; omega
        have hwy : w * y < x := by
          apply lt_of_mul_lt hb
          have e3 : a * y = w * y * b + r * y := by rw [hac]; simp only [Int.add_mul, Int.mul_add, Int.mul_assoc, Int.mul_comm, Int.mul_left_comm]
          have : 0 < r * y := Int.mul_pos hrp hy
          omega
        have hwy2 : x < w * y + y := by
          apply lt_of_mul_lt hd
          have e3 : (w * y + y) * d = y * (w * d + d) := by simp only [Int.add_mul, Int.mul_add, Int.mul_assoc, Int.mul_comm, Int.mul_left_comm]
          have : y * c < y * (w * d + d) := Int.mul_lt_mul_of_pos_left hlt hy
          rw [Int.mul_comm c y] at h3
          omega
        obtain ⟨d1, d2⟩ := div_of w y (x - w * y) (by omega) (by omega)
        have hxe : w * y + (x - w * y) = x := by omega
        rw [hxe] at d1 d2
        have := ih d (c - w * d) b r k' y (x - w * y) (by omega) hrp (by omega) hd key hy (by omega) (by
            rw [Int.mul_sub, Int.mul_sub]
            have e4 : d * (w * y) = y * (w * d) := by simp only [Int.mul_assoc, Int.mul_comm, Int.mul_left_comm]
            rw [Int.mul_comm d x, Int.mul_comm y c]; omega) (by
            rw [Int.mul_sub]
            have e3 : a * y = b * (w * y) + y * r := by rw [hac]; simp only [Int.add_mul, Int.mul_add, Int.mul_assoc, Int.mul_comm, Int.mul_left_comm]
            rw [Int.mul_comm b x]; omega) (by omega)
        rw [eu, if_neg (by omega), d1, d2]
        simpa using this
/-- the greatest number of a fraction -/
def Mx : Int := 1000000000

/-- both numbers of a step are within the limit -/
def inl (s : St) : Bool := decide (0 ≤ s.1 ∧ s.1 ≤ 1000000000 ∧ 0 ≤ s.2.1 ∧ s.2.1 ≤ 1000000000)

/-- the steps that a path yields -/
def stepsL (s : St) : List Int → List St
  | [] => []
  | n :: l => if 1000000000 < n then [] else if inl (on s n) = true then on s n :: stepsL (on s n) l else []

theorem ev_pos : ∀ l : List Int, (∀ x ∈ l, 1 ≤ x) → 1 ≤ (ev l).1 ∧ 0 ≤ (ev l).2 := by
  intro l
  induction l with
  | nil => intro _; simp [ev]
  | cons x l ih =>
    intro h
    have h1 := ih (fun y hy => h y (List.mem_cons_of_mem _ hy))
    have hx := h x (List.mem_cons_self)
    have : 1 * (ev l).1 ≤ x * (ev l).1 := Int.mul_le_mul_of_nonneg_right hx (by omega)
    simp only [ev]; omega

theorem fw_ge (l : List Int) : ∀ s : St, (∀ x ∈ l, 1 ≤ x) → 0 ≤ s.1 → 0 ≤ s.2.1 → 0 ≤ s.2.2.1 → 0 ≤ s.2.2.2 → s.1 ≤ (fw s l).1 ∧ s.2.1 ≤ (fw s l).2.1 := by
  intro s hl h1 h2 h3 h4
  obtain ⟨e1, e2⟩ := fw_ev l s
  obtain ⟨p1, p2⟩ := ev_pos l hl
  have a1 : s.1 * 1 ≤ s.1 * (ev l).1 := Int.mul_le_mul_of_nonneg_left p1 h1
  have a2 : s.2.1 * 1 ≤ s.2.1 * (ev l).1 := Int.mul_le_mul_of_nonneg_left p1 h2
  have a3 := Int.mul_nonneg h3 p2
  have a4 := Int.mul_nonneg h4 p2
  omega

theorem stepsL_all (l : List Int) : ∀ s : St, (∀ x ∈ l, 1 ≤ x) → 0 ≤ s.1 → 1 ≤ s.2.1 → 0 ≤ s.2.2.1 → 0 ≤ s.2.2.2 → (fw s l).1 ≤ 1000000000 → (fw s l).2.1 ≤ 1000000000 →
    (stepsL s l).length = l.length ∧ (stepsL s l).getLastD s = fw s l := by
  induction l with
  | nil => intro s _ _ _ _ _ _ _; simp [stepsL, fw]
  | cons n l ih =>
    intro s hl h1 h2 h3 h4 hf1 hf2
    have hn := hl n (List.mem_cons_self)
    have hl' : ∀ x ∈ l, 1 ≤ x := fun y hy => hl y (List.mem_cons_of_mem _ hy)
    have o1 : 0 ≤ (on s n).1 := by have := Int.mul_nonneg (by omega : 0 ≤ n) h1; simp only [on]; omega
    have m2 : n * 1 ≤ n * s.2.1 := Int.mul_le_mul_of_nonneg_left h2 (by omega)
    have o2 : n ≤ (on s n).2.1 := by simp only [on]; omega
    obtain ⟨g1, g2⟩ := fw_ge l (on s n) hl' o1 (by omega) h1 (by have : (on s n).2.2.2 = s.2.1 := rfl; omega)
    have e : fw s (n :: l) = fw (on s n) l := rfl
    rw [e] at hf1 hf2 ⊢
    have hin : inl (on s n) = true := by simp only [inl, decide_eq_true_eq]; omega
    obtain ⟨i1, i2⟩ := ih (on s n) hl' o1 (by omega) h1 (by have : (on s n).2.2.2 = s.2.1 := rfl; omega) hf1 hf2
    rw [stepsL, if_neg (by omega), if_pos hin]
    refine ⟨by simp [i1], ?_⟩
    rw [List.getLastD_cons]
    exact i2

theorem stepsL_le (l : List Int) : ∀ s : St, (stepsL s l).length ≤ l.length := by
  induction l with
  | nil => intro s; simp [stepsL]
  | cons n l ih =>
    intro s
    rw [stepsL]
    split
    · simp
    · split
      · have := ih (on s n); simp; omega
      · simp

theorem stepsL_in (l : List Int) : ∀ s : St, (stepsL s l).length = l.length → l ≠ [] → (fw s l).1 ≤ 1000000000 ∧ (fw s l).2.1 ≤ 1000000000 ∧ (stepsL s l).getLastD s = fw s l := by
  induction l with
  | nil => intro s _ h; exact absurd rfl h
  | cons n l ih =>
    intro s h _
    rw [stepsL] at h ⊢
    split at h
    · simp at h
    · rename_i hn
      split at h
      · rename_i hin
        rw [if_neg hn, if_pos hin, List.getLastD_cons]
        have e : fw s (n :: l) = fw (on s n) l := rfl
        rw [e]
        cases l with
        | nil =>
          simp only [inl, decide_eq_true_eq] at hin
          simp [stepsL, fw]; omega
        | cons m l => exact ih (on s n) (by simpa using h) (by simp)
      · simp at h

/-- all steps of a path with numbers from 1 on (the first one from 0 on) are within the limit just if its fraction is -/
theorem steps_first (l : List Int) (hne : l ≠ []) (h0 : ∀ x, l.head? = some x → 0 ≤ x) (h1 : ∀ x ∈ l.tail, 1 ≤ x) :
    (stepsL first l).length = l.length ↔ (ev l).1 ≤ 1000000000 ∧ (ev l).2 ≤ 1000000000 := by
  obtain ⟨f1, f2⟩ := fw_first l
  constructor
  · intro h
    obtain ⟨a, b, _⟩ := stepsL_in l first h hne
    omega
  · rintro ⟨a, b⟩
    cases l with
    | nil => exact absurd rfl hne
    | cons x l =>
      have hx := h0 x rfl
      have e : on first x = (x, 1, 1, 0) := by simp [on, first]
      have e2 : fw first (x :: l) = fw (x, 1, 1, 0) l := by rw [fw, e]
      rw [e2] at f1 f2
      obtain ⟨g1, g2⟩ := fw_ge l (x, 1, 1, 0) h1 hx (by simp) (by simp) (by simp)
      have hin : inl (x, 1, 1, 0) = true := by simp only [inl, decide_eq_true_eq]; simp at g1; omega
      rw [stepsL, e, if_neg (by simp at g1; omega), if_pos hin]
      have := (stepsL_all l (x, 1, 1, 0) h1 hx (by simp) (by simp) (by simp) (by omega) (by omega)).1
      simp [this]

/-- the last step of a path whose fraction is within the limit -/
theorem last_first (l : List Int) (hne : l ≠ []) (h0 : ∀ x, l.head? = some x → 0 ≤ x) (h1 : ∀ x ∈ l.tail, 1 ≤ x) (a : (ev l).1 ≤ 1000000000) (b : (ev l).2 ≤ 1000000000) :
    (stepsL first l).getLastD first = fw first l :=
  (stepsL_in l first ((steps_first l hne h0 h1).2 ⟨a, b⟩) hne).2.2

theorem tailOk_ge : ∀ l, tailOk l → ∀ x ∈ l, 1 ≤ x
  | [], h => by simp [tailOk] at h
  | [x], h => by simp [tailOk] at h; intro y hy; simp at hy; omega
  | x :: y :: l, h => by
    intro z hz
    rcases List.mem_cons.1 hz with rfl | hz
    · exact h.1
    · exact tailOk_ge (y :: l) h.2 z hz

theorem canon_ge (l : List Int) (h : canon l) : l ≠ [] ∧ (∀ x, l.head? = some x → 0 ≤ x) ∧ ∀ x ∈ l.tail, 1 ≤ x := by
  match l, h with
  | [x], h => simp [canon] at h; simp; omega
  | x :: y :: l, h => exact ⟨by simp, fun z hz => by simp at hz; have := h.1; omega, fun z hz => tailOk_ge _ h.2 z hz⟩

/-- numbers can be a path -/
def tailB : List Int → Bool
  | [] => false
  | [x] => decide (2 ≤ x)
  | x :: y :: l => decide (1 ≤ x) && tailB (y :: l)
def pathB : List Int → Bool
  | [] => false
  | [x] => decide (1 ≤ x)
  | x :: y :: l => decide (0 ≤ x) && tailB (y :: l)
theorem tailB_iff : ∀ l, tailB l = true ↔ tailOk l
  | [] => by simp [tailB, tailOk]
  | [x] => by simp [tailB, tailOk]
  | x :: y :: l => by simp only [tailB, tailOk, Bool.and_eq_true, decide_eq_true_eq, tailB_iff (y :: l)]
theorem pathB_iff : ∀ l, pathB l = true ↔ canon l
  | [] => by simp [pathB, canon]
  | [x] => by simp [pathB, canon]
  | x :: y :: l => by simp only [pathB, canon, Bool.and_eq_true, decide_eq_true_eq, tailB_iff (y :: l)]

/-- the fraction of a path, and the error -/
def follow (l : List Int) : (Int × Int) × Int :=
  if l.length = 0 ∨ 64 < l.length then ((0, 0), 6)
  else if pathB l = false then ((0, 0), 2)
  else if (ev l).1 ≤ 1000000000 ∧ (ev l).2 ≤ 1000000000 then (ev l, 0)
  else ((0, 0), 4)

/-- the least fraction above n / d with a Den of at most k: the first one of them -/
def nxt (n d : Int) : Nat → Int × Int
  | 0 => (0, 0)
  | 1 => (n / d + 1, 1)
  | k + 2 => if (n * (k + 2) / d + 1) * (nxt n d (k + 1)).2 < (nxt n d (k + 1)).1 * (k + 2) then (n * (k + 2) / d + 1, (k + 2 : Nat)) else nxt n d (k + 1)

/-- the simplest fraction of a span -/
structure Simp (a b c d n m : Int) : Prop where
  n0 : 0 < n
  m0 : 0 < m
  lo : a * m ≤ n * b
  hi : n * d ≤ c * m
  min : ∀ x y, 0 < x → 0 < y → a * y ≤ x * b → x * d ≤ c * y → m ≤ y ∧ n ≤ x

theorem sp_simp (k : Nat) (a b c d : Int) (ha : 0 < a) (hb : 0 < b) (hc : 0 < c) (hd : 0 < d) (h : a * d ≤ c * b) (hk : b + d ≤ k) : Simp a b c d (ev (sp k a b c d)).1 (ev (sp k a b c d)).2 := by
  obtain ⟨h1, h2, h3, h4, h5⟩ := sp_good k a b c d ha hb hc hd h hk
  exact ⟨h1, h2, h3, h4, h5⟩

theorem Simp.uniq {a b c d n m n' m' : Int} (h : Simp a b c d n m) (h' : Simp a b c d n' m') : n = n' ∧ m = m' := by
  have h1 := h.min n' m' h'.n0 h'.m0 h'.lo h'.hi
  have h2 := h'.min n m h.n0 h.m0 h.lo h.hi
  omega

theorem Simp.turn {a b c d n m : Int} (h : Simp a b c d n m) : Simp d c b a m n := by
  refine ⟨h.m0, h.n0, ?_, ?_, ?_⟩
  · have := h.hi; rw [Int.mul_comm d n, Int.mul_comm m c]; exact this
  · have := h.lo; rw [Int.mul_comm m a, Int.mul_comm b n]; exact this
  · intro x y hx hy h1 h2
    have := h.min y x hy hx (by rw [Int.mul_comm a x, Int.mul_comm y b]; exact h2) (by rw [Int.mul_comm y d, Int.mul_comm c x]; exact h1)
    omega

theorem Simp.add {a b c d n m t : Int} (h : Simp a b c d n m) (ha : 0 < a) (hb : 0 < b) (ht : 0 ≤ t) : Simp (a + t * b) b (c + t * d) d (n + t * m) m := by
  have h3 := h.lo
  have h4 := h.hi
  have hm := Int.mul_nonneg ht (Int.le_of_lt h.m0)
  have hn := h.n0
  refine ⟨by omega, h.m0, ?_, ?_, ?_⟩
  · simp only [Int.add_mul, Int.mul_add, Int.mul_assoc, Int.mul_comm, Int.mul_left_comm] at *; omega
  · simp only [Int.add_mul, Int.mul_add, Int.mul_assoc, Int.mul_comm, Int.mul_left_comm] at *; omega
  · intro x y hx hy h1 h2
    have e1 : (x - t * y) * b = x * b - t * b * y := by simp only [Int.sub_mul, Int.mul_sub, Int.mul_assoc, Int.mul_comm, Int.mul_left_comm]
    have e2 : (x - t * y) * d = x * d - t * d * y := by simp only [Int.sub_mul, Int.mul_sub, Int.mul_assoc, Int.mul_comm, Int.mul_left_comm]
    rw [Int.add_mul] at h1 h2
    have hay := Int.mul_pos ha hy
    have hp : 0 < x - t * y := by
      by_cases hp : 0 < x - t * y
      · exact hp
      · have : (x - t * y) * b ≤ 0 * b := Int.mul_le_mul_of_nonneg_right (by omega) (by omega)
        omega
    have := h.min (x - t * y) y hp hy (by omega) (by omega)
    have h7 := Int.mul_le_mul_of_nonneg_left this.1 ht
    omega

/-- both numbers of the step before, and what is left of the last one, are from 0 on -/
theorem fw_parts (l : List Int) : ∀ s : St, (∀ x ∈ l, 1 ≤ x) → 0 ≤ s.2.2.1 → 0 ≤ s.2.2.2 → s.2.2.1 ≤ s.1 → s.2.2.2 ≤ s.2.1 →
    0 ≤ (fw s l).2.2.1 ∧ 0 ≤ (fw s l).2.2.2 ∧ (fw s l).2.2.1 ≤ (fw s l).1 ∧ (fw s l).2.2.2 ≤ (fw s l).2.1 := by
  induction l with
  | nil => intro s _ h1 h2 h3 h4; exact ⟨h1, h2, h3, h4⟩
  | cons n l ih =>
    intro s hl h1 h2 h3 h4
    have hn := hl n (List.mem_cons_self)
    have m1 : 1 * s.1 ≤ n * s.1 := Int.mul_le_mul_of_nonneg_right hn (by omega)
    have m2 : 1 * s.2.1 ≤ n * s.2.1 := Int.mul_le_mul_of_nonneg_right hn (by omega)
    exact ih (on s n) (fun y hy => hl y (List.mem_cons_of_mem _ hy)) (by simp only [on]; omega) (by simp only [on]; omega) (by simp only [on]; omega) (by simp only [on]; omega)

theorem canon_parts (l : List Int) (h : canon l) : 0 ≤ (fw first l).2.2.1 ∧ 0 ≤ (fw first l).2.2.2 ∧ (fw first l).2.2.1 ≤ (fw first l).1 ∧ (fw first l).2.2.2 ≤ (fw first l).2.1 := by
  match l, h with
  | [x], h => simp [canon] at h; simp [fw, on, first]; omega
  | x :: y :: l, h =>
    have hx := h.1
    have hl := tailOk_ge (y :: l) h.2
    have hy := hl y (List.mem_cons_self)
    have e : fw first (x :: y :: l) = fw (y * x + 1, y * 1 + 0, x, 1) l := by simp [fw, on, first]
    rw [e]
    have : 1 * x ≤ y * x := Int.mul_le_mul_of_nonneg_right hy hx
    exact fw_parts l _ (fun z hz => hl z (List.mem_cons_of_mem _ hz)) hx (by simp) (by simp only; omega) (by simp only; omega)

/-- a right proof: two neighbours, one below and one above the span -/
def ProofOk (a b c d l1 l2 r1 r2 : Int) : Prop := 0 ≤ l1 ∧ 1 ≤ l2 ∧ 1 ≤ r1 ∧ 0 ≤ r2 ∧ l1 * b < a * l2 ∧ c * r2 < r1 * d ∧ l2 * r1 - l1 * r2 = 1

/-- no right proof has a greater bound than the Den of the simplest fraction, nor than that of any fraction in the span -/
theorem proof_bound {a b c d l1 l2 r1 r2 n m : Int} (h : ProofOk a b c d l1 l2 r1 r2) (hb : 0 < b) (hd : 0 < d) (hn : 0 < n) (hm : 0 < m) (hlo : a * m ≤ n * b) (hhi : n * d ≤ c * m) : l2 + r2 ≤ m := by
  obtain ⟨h1, h2, h3, h4, h5, h6, h7⟩ := h
  have k1 : l1 * m < l2 * n := by
    apply lt_of_mul_lt hb
    have e1 : l1 * m * b = l1 * b * m := by simp only [Int.mul_assoc, Int.mul_comm, Int.mul_left_comm]
    have e2 : l2 * n * b = l2 * (n * b) := by simp only [Int.mul_assoc, Int.mul_comm, Int.mul_left_comm]
    have e3 : l1 * b * m < a * l2 * m := Int.mul_lt_mul_of_pos_right h5 hm
    have e4 : l2 * (a * m) ≤ l2 * (n * b) := Int.mul_le_mul_of_nonneg_left hlo (by omega)
    have e5 : a * l2 * m = l2 * (a * m) := by simp only [Int.mul_assoc, Int.mul_comm, Int.mul_left_comm]
    omega
  have k2 : n * r2 < r1 * m := by
    apply lt_of_mul_lt hd
    have e1 : n * r2 * d = r2 * (n * d) := by simp only [Int.mul_assoc, Int.mul_comm, Int.mul_left_comm]
    have e2 : r1 * m * d = r1 * d * m := by simp only [Int.mul_assoc, Int.mul_comm, Int.mul_left_comm]
    have e3 : c * r2 * m < r1 * d * m := Int.mul_lt_mul_of_pos_right h6 hm
    have e4 : r2 * (n * d) ≤ r2 * (c * m) := Int.mul_le_mul_of_nonneg_left hhi h4
    have e5 : c * r2 * m = r2 * (c * m) := by simp only [Int.mul_assoc, Int.mul_comm, Int.mul_left_comm]
    omega
  have e : m = l2 * (r1 * m - n * r2) + r2 * (l2 * n - l1 * m) := by
    have : m * (l2 * r1 - l1 * r2) = l2 * (r1 * m - n * r2) + r2 * (l2 * n - l1 * m) := by
      simp only [Int.mul_sub, Int.mul_assoc, Int.mul_comm, Int.mul_left_comm]; omega
    rw [h7] at this; omega
  have p1 : l2 * 1 ≤ l2 * (r1 * m - n * r2) := Int.mul_le_mul_of_nonneg_left (by omega) (by omega)
  have p2 : r2 * 1 ≤ r2 * (l2 * n - l1 * m) := Int.mul_le_mul_of_nonneg_left (by omega) h4
  omega

/-- two neighbours of which the simplest fraction is made prove it -/
theorem parts_proof {a b c d n m l1 l2 r1 r2 : Int} (h : Simp a b c d n m) (ha : 0 < a) (hb : 0 < b) (hc : 0 < c) (hd : 0 < d) (h1 : 0 ≤ l1) (h2 : 0 ≤ l2) (h3 : 0 ≤ r1) (h4 : 0 ≤ r2)
    (hn : l1 + r1 = n) (hm : l2 + r2 = m) (hdet : l2 * r1 - l1 * r2 = 1) : ProofOk a b c d l1 l2 r1 r2 := by
  have hn0 := h.n0
  have hm0 := h.m0
  have hl2 : 1 ≤ l2 := by
    by_cases hz : l2 = 0
    · subst hz
      have := Int.mul_nonneg h1 h4
      omega
    · omega
  have hr1 : 1 ≤ r1 := by
    by_cases hz : r1 = 0
    · subst hz
      have := Int.mul_nonneg h1 h4
      omega
    · omega
  subst hn hm
  have lo := h.lo
  have hi := h.hi
  refine ⟨h1, hl2, hr1, h4, ?_, ?_, hdet⟩
  · by_cases hlt : l1 * b < a * l2
    · exact hlt
    · have hge : a * l2 ≤ l1 * b := by omega
      have hpos := Int.mul_pos ha (by omega : 0 < l2)
      have hl1 : 0 < l1 := by
        by_cases hz : l1 = 0
        · subst hz; omega
        · omega
      have hin : l1 * d ≤ c * l2 := by
        apply le_of_mul_le (by omega : 0 < l2 + r2)
        have e1 : l1 * d * (l2 + r2) = d * (l1 * l2 + l1 * r2) := by simp only [Int.mul_add, Int.mul_assoc, Int.mul_comm, Int.mul_left_comm]
        have e2 : d * (l2 * (l1 + r1)) = l2 * ((l1 + r1) * d) := by simp only [Int.mul_assoc, Int.mul_comm, Int.mul_left_comm]
        have e3 : l2 * ((l1 + r1) * d) ≤ l2 * (c * (l2 + r2)) := Int.mul_le_mul_of_nonneg_left hi (by omega)
        have e4 : l2 * (c * (l2 + r2)) = c * l2 * (l2 + r2) := by simp only [Int.mul_assoc, Int.mul_comm, Int.mul_left_comm]
        have e5 : l1 * l2 + l1 * r2 ≤ l2 * (l1 + r1) := by rw [Int.mul_add, Int.mul_comm l1 l2]; omega
        have e6 := Int.mul_le_mul_of_nonneg_left e5 (Int.le_of_lt hd)
        omega
      have := h.min l1 l2 hl1 (by omega) hge hin
      omega
  · by_cases hlt : c * r2 < r1 * d
    · exact hlt
    · have hge : r1 * d ≤ c * r2 := by omega
      have hpos := Int.mul_pos (by omega : 0 < r1) hd
      have hr2 : 0 < r2 := by
        by_cases hz : r2 = 0
        · subst hz; omega
        · omega
      have hin : a * r2 ≤ r1 * b := by
        apply le_of_mul_le (by omega : 0 < l2 + r2)
        have e1 : a * r2 * (l2 + r2) = r2 * (a * (l2 + r2)) := by simp only [Int.mul_assoc, Int.mul_comm, Int.mul_left_comm]
        have e3 : r2 * (a * (l2 + r2)) ≤ r2 * ((l1 + r1) * b) := Int.mul_le_mul_of_nonneg_left lo (by omega)
        have e4 : r2 * ((l1 + r1) * b) = b * (r2 * (l1 + r1)) := by simp only [Int.mul_assoc, Int.mul_comm, Int.mul_left_comm]
        have e5 : r2 * (l1 + r1) ≤ r1 * (l2 + r2) := by rw [Int.mul_add, Int.mul_add, Int.mul_comm r2 l1, Int.mul_comm r2 r1, Int.mul_comm r1 l2]; omega
        have e6 := Int.mul_le_mul_of_nonneg_left e5 (Int.le_of_lt hb)
        have e7 : b * (r1 * (l2 + r2)) = r1 * b * (l2 + r2) := by simp only [Int.mul_assoc, Int.mul_comm, Int.mul_left_comm]
        omega
      have := h.min r1 r2 (by omega) hr2 hin hge
      omega

/-- what nxt has found -/
structure Nx (n d : Int) (k : Nat) (x y : Int) : Prop where
  y1 : 1 ≤ y
  yk : y ≤ k
  x1 : 1 ≤ x
  gt : n * y < x * d
  min : ∀ j m : Int, 1 ≤ j → j ≤ k → n * j < m * d → x * j ≤ m * y
  fst : ∀ j m : Int, 1 ≤ j → j < y → n * j < m * d → x * j < m * y

theorem div_gt (n j d : Int) (hd : 0 < d) (hn : 0 ≤ n * j) : n * j < (n * j / d + 1) * d ∧ 1 ≤ n * j / d + 1 ∧ ∀ m, n * j < m * d → n * j / d + 1 ≤ m := by
  have h1 := Int.mul_ediv_add_emod (n * j) d
  have h2 := Int.emod_nonneg (n * j) (b := d) (by omega)
  have h3 := Int.emod_lt_of_pos (n * j) hd
  have h4 : 0 ≤ n * j / d := Int.ediv_nonneg hn (by omega)
  refine ⟨?_, by omega, fun m hm => ?_⟩
  · rw [Int.add_mul, Int.mul_comm (n * j / d) d]; omega
  · have : n * j / d < m := Int.ediv_lt_of_lt_mul hd hm
    omega

theorem nxt_nx (n d : Int) (hn : 1 ≤ n) (hd : 1 ≤ d) : ∀ k : Nat, 1 ≤ k → Nx n d k (nxt n d k).1 (nxt n d k).2 := by
  intro k
  induction k with
  | zero => intro h; omega
  | succ k ih =>
    intro _
    cases k with
    | zero =>
      obtain ⟨g1, g2, g3⟩ := div_gt n 1 d (by omega) (by omega)
      rw [Int.mul_one] at g1 g2 g3
      refine ⟨by simp [nxt], by simp [nxt], by simpa [nxt] using g2, by simpa [nxt] using g1, ?_, ?_⟩
      · intro j m h1 h2 h3
        have : j = 1 := by omega
        subst this
        rw [Int.mul_one] at h3
        have := g3 m h3
        simp [nxt]; omega
      · intro j m h1 h2; simp [nxt] at h2; omega
    | succ k =>
      have ih := ih (by omega)
      have hnk : 0 ≤ n * ((k : Int) + 2) := Int.mul_nonneg (by omega) (by omega)
      obtain ⟨g1, g2, g3⟩ := div_gt n ((k : Int) + 2) d (by omega) hnk
      rw [nxt]
      generalize hx : (nxt n d (k + 1)).1 = x at *
      generalize hy : (nxt n d (k + 1)).2 = y at *
      generalize hc : n * ((k : Int) + 2) / d + 1 = c at *
      have hy1 := ih.y1
      have hyk := ih.yk
      split
      · rename_i hlt
        refine ⟨by simp only; omega, by simp only; omega, g2, by simpa using g1, ?_, ?_⟩
        · intro j m h1 h2 h3
          simp only
          by_cases hj : j = (k : Int) + 2
          · subst hj
            have := Int.mul_le_mul_of_nonneg_right (g3 m h3) (by omega : (0 : Int) ≤ (k : Int) + 2)
            have e : ((k + 2 : Nat) : Int) = (k : Int) + 2 := by omega
            rw [e]; exact this
          · have hm := ih.min j m h1 (by omega) h3
            apply le_of_mul_le (by omega : 0 < y)
            have a1 : c * y * j ≤ x * ((k : Int) + 2) * j := Int.mul_le_mul_of_nonneg_right (by omega) (by omega)
            have a2 : x * j * ((k : Int) + 2) ≤ m * y * ((k : Int) + 2) := Int.mul_le_mul_of_nonneg_right hm (by omega)
            have e : ((k + 2 : Nat) : Int) = (k : Int) + 2 := by omega
            have e1 : c * j * y = c * y * j := by simp only [Int.mul_assoc, Int.mul_comm, Int.mul_left_comm]
            have e2 : x * ((k : Int) + 2) * j = x * j * ((k : Int) + 2) := by simp only [Int.mul_assoc, Int.mul_comm, Int.mul_left_comm]
            have e3 : m * ((k : Int) + 2) * y = m * y * ((k : Int) + 2) := by simp only [Int.mul_assoc, Int.mul_comm, Int.mul_left_comm]
            rw [e]; omega
        · intro j m h1 h2 h3
          simp only at h2 ⊢
          have hm := ih.min j m h1 (by omega) h3
          apply lt_of_mul_lt (by omega : 0 < y)
          have a1 : c * y * j < x * ((k : Int) + 2) * j := Int.mul_lt_mul_of_pos_right hlt (by omega)
          have a2 : x * j * ((k : Int) + 2) ≤ m * y * ((k : Int) + 2) := Int.mul_le_mul_of_nonneg_right hm (by omega)
          have e : ((k + 2 : Nat) : Int) = (k : Int) + 2 := by omega
          have e1 : c * j * y = c * y * j := by simp only [Int.mul_assoc, Int.mul_comm, Int.mul_left_comm]
          have e2 : x * ((k : Int) + 2) * j = x * j * ((k : Int) + 2) := by simp only [Int.mul_assoc, Int.mul_comm, Int.mul_left_comm]
          have e3 : m * ((k : Int) + 2) * y = m * y * ((k : Int) + 2) := by simp only [Int.mul_assoc, Int.mul_comm, Int.mul_left_comm]
          rw [e]; omega
      · rename_i hlt
        rw [hx, hy]
        refine ⟨ih.y1, by omega, ih.x1, ih.gt, ?_, ih.fst⟩
        intro j m h1 h2 h3
        by_cases hj : j = (k : Int) + 2
        · subst hj
          have := Int.mul_le_mul_of_nonneg_right (g3 m h3) (by omega : (0 : Int) ≤ y)
          omega
        · exact ih.min j m h1 (by omega) h3

theorem Nx.gcd {n d x y : Int} {k : Nat} (h : Nx n d k x y) (hd : 1 ≤ d) : Int.gcd x y = 1 := by
  have hy := h.y1
  have hx := h.x1
  obtain ⟨x', hx'⟩ := Int.gcd_dvd_left x y
  obtain ⟨y', hy'⟩ := Int.gcd_dvd_right x y
  generalize hg : Int.gcd x y = g at *
  have hg0 : (0 : Int) < g := by
    by_cases h0 : g = 0
    · subst h0; simp at hx'; omega
    · omega
  by_cases hg1 : g = 1
  · exact hg1
  · have hy0 : 1 ≤ y' := by
      by_cases h1 : 1 ≤ y'
      · exact h1
      · have : (g : Int) * y' ≤ g * 0 := Int.mul_le_mul_of_nonneg_left (by omega) (by omega)
        omega
    have hlt : y' < y := by
      have : 2 * y' ≤ g * y' := Int.mul_le_mul_of_nonneg_right (by omega) (by omega)
      omega
    have hgt : n * y' < x' * d := by
      apply lt_of_mul_lt hg0
      have := h.gt
      have e1 : n * y' * g = n * y := by rw [hy']; simp only [Int.mul_assoc, Int.mul_comm, Int.mul_left_comm]
      have e2 : x' * d * g = x * d := by rw [hx']; simp only [Int.mul_assoc, Int.mul_comm, Int.mul_left_comm]
      omega
    have := h.fst y' x' hy0 hlt hgt
    have e : x * y' = x' * y := by rw [hy', hx']; simp only [Int.mul_assoc, Int.mul_comm, Int.mul_left_comm]
    omega

theorem bezout {n d : Int} (hn : 1 ≤ n) (hd : 1 ≤ d) (hg : Int.gcd n d = 1) : ∃ u v : Int, d * u - n * v = 1 := by
  have he := eu_ev (d.toNat + 1) n d (by omega) (by omega) hg (by omega)
  have hdet := det_first (eu (d.toNat + 1) n d)
  obtain ⟨f1, f2⟩ := fw_first (eu (d.toNat + 1) n d)
  rw [he] at f1 f2
  simp only at f1 f2
  unfold det at hdet
  rw [f1, f2] at hdet
  generalize (fw first (eu (d.toNat + 1) n d)).2.2.1 = p at *
  generalize (fw first (eu (d.toNat + 1) n d)).2.2.2 = q at *
  rcases hdet with h | h
  · exact ⟨-p, -q, by rw [Int.mul_neg, Int.mul_neg, Int.mul_comm d p]; omega⟩
  · exact ⟨p, q, by rw [Int.mul_comm d p]; omega⟩

/-- a fraction and its neighbour -/
theorem Nx.det {n d x y : Int} {k : Nat} (h : Nx n d k x y) (hn : 1 ≤ n) (hd : 1 ≤ d) (hg : Int.gcd n d = 1) (hk : d ≤ k) : d * x - n * y = 1 := by
  obtain ⟨u0, v0, h0⟩ := bezout hn hd hg
  have t1 := Int.mul_ediv_add_emod ((k : Int) - v0) d
  have t2 := Int.emod_nonneg ((k : Int) - v0) (b := d) (by omega)
  have t3 := Int.emod_lt_of_pos ((k : Int) - v0) (by omega : 0 < d)
  generalize ((k : Int) - v0) / d = t at *
  generalize ((k : Int) - v0) % d = r at *
  obtain ⟨v, hv⟩ : ∃ v, v = v0 + d * t := ⟨_, rfl⟩
  obtain ⟨u, hu⟩ : ∃ u, u = u0 + n * t := ⟨_, rfl⟩
  have huv : d * u - n * v = 1 := by
    rw [hu, hv]; simp only [Int.mul_add, Int.mul_assoc, Int.mul_comm, Int.mul_left_comm] at *; omega
  have hv1 : 1 ≤ v := by omega
  have hvk : v ≤ k := by omega
  have hy1 := h.y1
  have hx1 := h.x1
  have hyk := h.yk
  have hgt := h.gt
  have hgu : n * v < u * d := by rw [Int.mul_comm u d]; omega
  have hle := h.min v u hv1 hvk hgu
  have hdx : 1 ≤ d * x - n * y := by rw [Int.mul_comm d x]; omega
  by_cases hlt : x * v < u * y
  · have e : y = d * (u * y - x * v) + v * (d * x - n * y) := by
      have : y * (d * u - n * v) = d * (u * y - x * v) + v * (d * x - n * y) := by
        simp only [Int.mul_sub, Int.mul_assoc, Int.mul_comm, Int.mul_left_comm]; omega
      rw [huv] at this; omega
    have p1 : d * 1 ≤ d * (u * y - x * v) := Int.mul_le_mul_of_nonneg_left (by omega) (by omega)
    have p2 : v * 1 ≤ v * (d * x - n * y) := Int.mul_le_mul_of_nonneg_left hdx (by omega)
    omega
  · have heq : x * v = u * y := by omega
    have e1 : y = v * (d * x - n * y) := by
      have : y * (d * u - n * v) = d * (u * y - x * v) + v * (d * x - n * y) := by
        simp only [Int.mul_sub, Int.mul_assoc, Int.mul_comm, Int.mul_left_comm]; omega
      rw [huv, heq] at this; simp at this; omega
    have e2 : x = u * (d * x - n * y) := by
      have : x * (d * u - n * v) = n * (u * y - x * v) + u * (d * x - n * y) := by
        simp only [Int.mul_sub, Int.mul_assoc, Int.mul_comm, Int.mul_left_comm]; omega
      rw [huv, heq] at this; simp at this; omega
    have hgc := h.gcd hd
    generalize d * x - n * y = z at *
    have h1 : z ∣ x := ⟨u, by rw [Int.mul_comm z u]; exact e2⟩
    have h2 : z ∣ y := ⟨v, by rw [Int.mul_comm z v]; exact e1⟩
    have h3 := Int.dvd_coe_gcd h1 h2
    rw [hgc] at h3
    have := Int.le_of_dvd (by decide) h3
    omega

end Um
end

/- Small words for walks: what is kept below a block, blocks that are known whole, slices that read as lists. -/
section
namespace Go.Proofs.YtlbjnkopbabcnaaGreatDoor
open Go.RowKit Go.Shelf

theorem ret_int {k : IntKind} {a b : Int} (h : a = b) : Ending.returned (.int k a) = .returned (.int k b) := by rw [h]
theorem ret_bool {a b : Bool} (h : a = b) : Ending.returned (.bool a) = .returned (.bool b) := by rw [h]

theorem bdrewN {B : Nat} {a w : World} (h : Below B a w) (n : Nat) : Below B a (w.drewN n) := ⟨h.os, h.tape, h.output, h.size, h.block⟩
theorem bstep {w W w1 : World} (h : Below w.heap.size w W) (hb : Below W.heap.size W w1) : Below w.heap.size w w1 := h.trans (hb.mono h.size)
theorem balloc {w W : World} (h : Below w.heap.size w W) (o : Obj) : Below w.heap.size w (W.alloc o) := h.alloc h.size o
theorem bset {w W : World} (h : Below w.heap.size w W) {p : Addr} (hp : w.heap.size ≤ p.block) (u : Value) : Below w.heap.size w (W.setCell p u) := h.setCell hp u

/-- block g is known whole, and can be written -/
def Cs (w : World) (g : Nat) (cs : Array Value) : Prop := g < w.heap.size ∧ (∀ i, w.cell? ⟨g, i, none⟩ = cs[i]?) ∧ (∀ i, w.frozen? ⟨g, i, none⟩ = false)

theorem Cs.c {w : World} {g : Nat} {cs : Array Value} (h : Cs w g cs) : ∀ i, w.cell? ⟨g, i, none⟩ = cs[i]? := h.2.1
theorem Cs.f {w : World} {g : Nat} {cs : Array Value} (h : Cs w g cs) : ∀ i, w.frozen? ⟨g, i, none⟩ = false := h.2.2
theorem Cs.lt {w : World} {g : Nat} {cs : Array Value} (h : Cs w g cs) : g < w.heap.size := h.1
theorem Cs.new (w : World) (H : Nat) (cs : Array Value) (t : TypeId) (hH : w.heap.size = H) : Cs (w.alloc (.cells cs t)) H cs := by
  subst hH
  exact ⟨by simp, fun i => by simp, fun i => by simp⟩
theorem Cs.keep {W w1 : World} {g : Nat} {cs : Array Value} (h : Cs W g cs) (hb : Below W.heap.size W w1) : Cs w1 g cs :=
  ⟨Nat.lt_of_lt_of_le h.1 hb.size, fun i => (hb.cell (p := ⟨g, i, none⟩) h.1).trans (h.2.1 i), fun i => (hb.frozen (p := ⟨g, i, none⟩) h.1).trans (h.2.2 i)⟩
theorem Cs.alloc {w : World} {g : Nat} {cs : Array Value} (h : Cs w g cs) (o : Obj) : Cs (w.alloc o) g cs := h.keep (balloc (Below.refl _ _) o)
theorem Cs.drew {w : World} {g : Nat} {cs : Array Value} (h : Cs w g cs) : Cs w.drew g cs := h
theorem Cs.drewN {w : World} {g : Nat} {cs : Array Value} (h : Cs w g cs) (n : Nat) : Cs (w.drewN n) g cs := h
theorem Cs.set {w : World} {g : Nat} {cs : Array Value} (h : Cs w g cs) (k : Nat) (v : Value) (hk : k < cs.size) : Cs (w.setCell ⟨g, k, none⟩ v) g (cs.setIfInBounds k v) := by
  refine ⟨by simpa [World.setCell] using h.1, fun i => ?_, fun i => by rw [World.frozen?_setCell]; exact h.f i⟩
  by_cases hi : i = k
  · subst hi
    rw [World.cell?_setCell_same' _ _ _ (by rw [h.c]; simp [hk])]
    simp [hk]
  · rw [World.cell?_setCell_other _ _ _ _ (by intro e; injection e with _ e; exact hi e.symm), h.c, Array.getElem?_setIfInBounds_ne (by omega)]
theorem Cs.other {w : World} {g : Nat} {cs : Array Value} (h : Cs w g cs) {p : Addr} (hp : g ≠ p.block) (v : Value) : Cs (w.setCell p v) g cs :=
  ⟨by simpa [World.setCell] using h.1, fun i => by rw [World.cell?_setCell_other _ _ _ _ (by intro e; apply hp; rw [e])]; exact h.c i, fun i => by rw [World.frozen?_setCell]; exact h.f i⟩

theorem Cs.set2 {w : World} {g : Nat} {a b : Value} (h : Cs w g #[a, b]) (x y : Value) : Cs ((w.setCell ⟨g, 0, none⟩ x).setCell ⟨g, 1, none⟩ y) g #[x, y] :=
  (h.set 0 x (by simp)).set 1 y (by simp)
theorem Cs.set4 {w : World} {g : Nat} {a b c d : Value} (h : Cs w g #[a, b, c, d]) (x y z u : Value) :
    Cs ((((w.setCell ⟨g, 0, none⟩ x).setCell ⟨g, 1, none⟩ y).setCell ⟨g, 2, none⟩ z).setCell ⟨g, 3, none⟩ u) g #[x, y, z, u] :=
  (((h.set 0 x (by simp)).set 1 y (by simp)).set 2 z (by simp)).set 3 u (by simp)
theorem Cs.other2 {w : World} {g g' : Nat} {cs : Array Value} (h : Cs w g cs) (hg : g ≠ g') (x y : Value) : Cs ((w.setCell ⟨g', 0, none⟩ x).setCell ⟨g', 1, none⟩ y) g cs :=
  (h.other (p := ⟨g', 0, none⟩) hg x).other (p := ⟨g', 1, none⟩) hg y
theorem Cs.other4 {w : World} {g g' : Nat} {cs : Array Value} (h : Cs w g cs) (hg : g ≠ g') (x y z u : Value) :
    Cs ((((w.setCell ⟨g', 0, none⟩ x).setCell ⟨g', 1, none⟩ y).setCell ⟨g', 2, none⟩ z).setCell ⟨g', 3, none⟩ u) g cs :=
  (((h.other (p := ⟨g', 0, none⟩) hg x).other (p := ⟨g', 1, none⟩) hg y).other (p := ⟨g', 2, none⟩) hg z).other (p := ⟨g', 3, none⟩) hg u
theorem bset2 {w W : World} {g : Nat} (h : Below w.heap.size w W) (hg : w.heap.size ≤ g) (x y : Value) : Below w.heap.size w ((W.setCell ⟨g, 0, none⟩ x).setCell ⟨g, 1, none⟩ y) :=
  bset (bset h (p := ⟨g, 0, none⟩) hg x) (p := ⟨g, 1, none⟩) hg y
theorem bset4 {w W : World} {g : Nat} (h : Below w.heap.size w W) (hg : w.heap.size ≤ g) (x y z u : Value) :
    Below w.heap.size w ((((W.setCell ⟨g, 0, none⟩ x).setCell ⟨g, 1, none⟩ y).setCell ⟨g, 2, none⟩ z).setCell ⟨g, 3, none⟩ u) :=
  bset (bset (bset2 h hg x y) (p := ⟨g, 2, none⟩) hg z) (p := ⟨g, 3, none⟩) hg u

/-- a slice value that reads as a list of numbers -/
def Ints (w : World) (A : Option Addr) (n : Nat) (zs : List Int) : Prop :=
  zs.length = n ∧ (0 < n → ∃ b off, A = some ⟨b, off, none⟩ ∧ b < w.heap.size ∧ ∀ i, i < n → w.cell? ⟨b, off + i, none⟩ = some (.int .i64 (zs.getD i 0)))

theorem Ints.below {w w' : World} {A : Option Addr} {n : Nat} {zs : List Int} (h : Ints w A n zs) (hb : Below w.heap.size w w') : Ints w' A n zs := by
  refine ⟨h.1, fun hn => ?_⟩
  obtain ⟨b, off, rfl, hlt, hc⟩ := h.2 hn
  exact ⟨b, off, rfl, Nat.lt_of_lt_of_le hlt hb.size, fun i hi => (hb.cell (p := ⟨b, off + i, none⟩) hlt).trans (hc i hi)⟩

theorem Ints.new (w : World) (H : Nat) (zs : List Int) (t : TypeId) (hH : w.heap.size = H) : Ints (w.alloc (.cells (zs.map (Value.int .i64)).toArray t)) (some ⟨H, 0, none⟩) zs.length zs := by
  subst hH
  refine ⟨rfl, fun _ => ⟨w.heap.size, 0, rfl, by simp, fun i hi => ?_⟩⟩
  simp [hi]

/-- a block's cells, by what is known (the tactic is the argument's own) -/
theorem csA {w : World} {g : Nat} {cs : Array Value} (h : Cs w g cs := by repeat (first | with_reducible assumption | (with_reducible refine Cs.new _ _ _ _ ?_; first | rfl | (simp; done)) | with_reducible refine Cs.alloc ?_ _ | with_reducible refine Cs.drewN ?_ _ | with_reducible refine Cs.drew ?_ | with_reducible refine Cs.set4 ?_ _ _ _ _ | (with_reducible refine Cs.other4 ?_ ?_ _ _ _ _; rotate_left; focus (first | assumption | omega | (simp; done) | (simp; omega))) | with_reducible refine Cs.set2 ?_ _ _ | (with_reducible refine Cs.other2 ?_ ?_ _ _; rotate_left; focus (first | assumption | omega | (simp; done) | (simp; omega))) | (with_reducible refine Cs.other ?_ ?_ _; rotate_left; focus (first | assumption | omega | (simp; done) | (simp; omega))) | with_reducible refine Cs.keep ?_ (by assumption) | assumption)) : Cs w g cs := h
/-- a world that is above another one, by what is known -/
theorem blA {B : Nat} {w W : World} (h : Below B w W := by repeat (first | with_reducible exact Below.refl _ _ | with_reducible assumption | with_reducible refine balloc ?_ _ | with_reducible refine bdrewN ?_ _ | with_reducible refine Below.drew ?_ | (with_reducible refine bset ?_ ?_ _; rotate_left; focus (first | assumption | omega | (simp; done) | (simp; omega))) | with_reducible refine bstep ?_ (by assumption) | assumption)) : Below B w W := h

end Go.Proofs.YtlbjnkopbabcnaaGreatDoor
end

/- Small words for lists of numbers. -/
section
namespace Go.Proofs.YtlbjnkopbabcnaaGreatDoor
open Go.RowKit Go.Shelf

theorem Ints.alloc {w : World} {A : Option Addr} {n : Nat} {zs : List Int} (h : Ints w A n zs) (o : Obj) : Ints (w.alloc o) A n zs := h.below (balloc (Below.refl _ _) o)
theorem Ints.drewN {w : World} {A : Option Addr} {n : Nat} {zs : List Int} (h : Ints w A n zs) (k : Nat) : Ints (w.drewN k) A n zs := h
theorem Ints.drew {w : World} {A : Option Addr} {n : Nat} {zs : List Int} (h : Ints w A n zs) : Ints w.drew A n zs := h
theorem Ints.new1 (w : World) (H : Nat) (x : Int) (t : TypeId) (hH : w.heap.size = H) : Ints (w.alloc (.cells #[.int .i64 x] t)) (some ⟨H, 0, none⟩) 1 [x] := Ints.new w H [x] t hH
theorem Ints.new2 (w : World) (H : Nat) (x y : Int) (t : TypeId) (hH : w.heap.size = H) : Ints (w.alloc (.cells #[.int .i64 x, .int .i64 y] t)) (some ⟨H, 0, none⟩) 2 [x, y] := Ints.new w H [x, y] t hH
theorem Ints.nil (w : World) (A : Option Addr) : Ints w A 0 [] := ⟨rfl, fun h => absurd h (by omega)⟩
theorem Ints.cell0 {w : World} {b o n : Nat} {zs : List Int} (h : Ints w (some ⟨b, o, none⟩) n zs) (k : Nat) (hk : k < n) : w.cell? ⟨b, o + k, none⟩ = some (.int .i64 (zs.getD k 0)) := by
  obtain ⟨b', o', e, _, hc⟩ := h.2 (by omega)
  injection e with e
  injection e with e1 e2
  subst e1 e2
  exact hc k hk

theorem Ints.tl {w : World} {b o n : Nat} {zs : List Int} (h : Ints w (some ⟨b, o, none⟩) n zs) (hn : 1 ≤ n) : Ints w (some ⟨b, o + 1, none⟩) (n - 1) zs.tail := by
  refine ⟨by rw [List.length_tail, h.1], fun _ => ?_⟩
  obtain ⟨b', o', e, hlt, hc⟩ := h.2 (by omega)
  injection e with e
  injection e with e1 e2
  subst e1 e2
  refine ⟨b, o + 1, rfl, hlt, fun i hi => ?_⟩
  have := hc (i + 1) (by omega)
  rw [show o + 1 + i = o + (i + 1) by omega, this]
  simp [List.getD_eq_getElem?_getD]
/-- a list of numbers, by what is known -/
theorem intsA {w : World} {A : Option Addr} {n : Nat} {zs : List Int} (h : Ints w A n zs := by repeat (first | with_reducible assumption | (with_reducible refine Ints.new1 _ _ _ _ ?_; first | rfl | (simp; done)) | (with_reducible refine Ints.new2 _ _ _ _ _ ?_; first | rfl | (simp; done)) | with_reducible refine Ints.alloc ?_ _ | with_reducible refine Ints.drewN ?_ _ | with_reducible refine Ints.drew ?_ | with_reducible refine Ints.below ?_ (by assumption) | assumption)) : Ints w A n zs := h

end Go.Proofs.YtlbjnkopbabcnaaGreatDoor
end

/- A law for a long region that draws its order, and is yet all but in a row: one check of the row of operations (by masks, once), then the operations one by one, with no list of what has come up in sight. -/
section
namespace Go.Proofs.YtlbjnkopbabcnaaGreatDoor
open Go
set_option linter.unusedSimpArgs false
set_option linter.unusedVariables false

/-- A step: operation i is taken first; operation i is the only one that may come up; i and j may come up. Behind it the mask of what has come up. -/
inductive Stp
  | t (i m : Nat)
  | o (i m : Nat)
  | b (i j mi mj m : Nat)

def nth {α : Type} : List α → Nat → Option α
  | [], _ => none
  | x :: _, 0 => some x
  | _ :: l, n + 1 => nth l n
theorem nth_eq {α : Type} : ∀ (l : List α) (i : Nat), nth l i = l[i]?
  | [], i => by simp [nth]
  | x :: l, 0 => by simp [nth]
  | x :: l, n + 1 => by simp [nth, nth_eq l n]
theorem nth_ops {ops : Array Oper} {i : Nat} {o : Oper} (h : nth ops.toList i = some o) : ops[i]? = some o := by
  rw [nth_eq] at h; simpa using h

def rdy (md : Region.Mode) : List Oper → Nat → Nat → List Nat
  | [], _, _ => []
  | o :: r, k, m => bif !m.testBit k && o.after.all (fun e => !Region.binds md e || m.testBit e.on) then k :: rdy md r (k + 1) m else rdy md r (k + 1) m
def fre (md : Region.Mode) (ops : Array Oper) (oi : Oper) (i : Nat) : List Oper → Nat → Nat → Bool
  | [], _, _ => true
  | oj :: r, k, m => (Nat.beq k i || m.testBit k || oj.after.any (fun e => Region.binds md e && Nat.beq e.on i) || oi.apart ops oj) && fre md ops oi i r (k + 1) m
def freAt (md : Region.Mode) (ops : Array Oper) (i m : Nat) : Bool :=
  match nth ops.toList i with
  | none => false
  | some oi => fre md ops oi i ops.toList 0 m
def hasN : List Nat → Nat → Bool
  | [], _ => false
  | x :: l, i => Nat.beq x i || hasN l i
theorem hasN_mem : ∀ (l : List Nat) (i : Nat), hasN l i = true → i ∈ l
  | [], i, h => by simp [hasN] at h
  | x :: l, i, h => by
    simp only [hasN, Bool.or_eq_true] at h
    rcases h with h | h
    · rw [Nat.eq_of_beq_eq_true h]; simp
    · exact List.mem_cons_of_mem _ (hasN_mem l i h)
def one1 : List Nat → Nat → Bool
  | [x], i => Nat.beq x i
  | _, _ => false
theorem one1_eq {l : List Nat} {i : Nat} (h : one1 l i = true) : l = [i] := by
  match l, h with
  | [x], h => rw [Nat.eq_of_beq_eq_true h]
def two2 : List Nat → Nat → Nat → Bool
  | [x, y], i, j => Nat.beq x i && Nat.beq y j
  | _, _, _ => false
theorem two2_eq {l : List Nat} {i j : Nat} (h : two2 l i j = true) : l = [i, j] := by
  match l, h with
  | [x, y], h => simp only [two2, Bool.and_eq_true] at h; rw [Nat.eq_of_beq_eq_true h.1, Nat.eq_of_beq_eq_true h.2]
def emp : List Nat → Bool
  | [] => true
  | _ => false
theorem emp_eq {l : List Nat} (h : emp l = true) : l = [] := by
  match l, h with
  | [], _ => rfl

/-- The check of the whole row. -/
def plan (md : Region.Mode) (ops : Array Oper) : List Stp → Nat → Bool
  | [], m => emp (rdy md ops.toList 0 m)
  | .t i m' :: r, m => hasN (rdy md ops.toList 0 m) i && freAt md ops i m && Nat.beq m' (m ||| 1 <<< i) && plan md ops r m'
  | .o i m' :: r, m => one1 (rdy md ops.toList 0 m) i && Nat.beq m' (m ||| 1 <<< i) && plan md ops r m'
  | .b i j mi mj m' :: r, m => two2 (rdy md ops.toList 0 m) i j && Nat.beq mi (m ||| 1 <<< i) && Nat.beq mj (m ||| 1 <<< j) &&
      one1 (rdy md ops.toList 0 mi) j && one1 (rdy md ops.toList 0 mj) i && Nat.beq m' (mi ||| 1 <<< j) && plan md ops r m'
def lng : List Stp → Nat
  | [] => 0
  | .t _ _ :: r => lng r + 1
  | .o _ _ :: r => lng r + 1
  | .b _ _ _ _ _ :: r => lng r + 2

/-- The list of what has come up is that of the mask. -/
structure Msk (n : Nat) (l : Array Bool) (m : Nat) : Prop where
  size : l.size = n
  bit : ∀ i, i < n → l[i]? = some (m.testBit i)
  hi : ∀ i, n ≤ i → m.testBit i = false
theorem Msk.getD {n : Nat} {l : Array Bool} {m : Nat} (h : Msk n l m) (i : Nat) (d : Bool) (hi : i < n) : l.getD i d = m.testBit i := by
  have := h.bit i hi
  rw [Array.getD_eq_getD_getElem?, this]; rfl
theorem Msk.getF {n : Nat} {l : Array Bool} {m : Nat} (h : Msk n l m) (i : Nat) : l.getD i false = m.testBit i := by
  rcases Nat.lt_or_ge i n with hi | hi
  · exact h.getD i _ hi
  · rw [h.hi i hi, Array.getD_eq_getD_getElem?, Array.getElem?_eq_none (by have := h.size; omega)]; rfl
theorem bit1 (q : Nat) : Nat.testBit 1 (q + 1) = false := by
  rw [Nat.testBit_succ]; simp
theorem Msk.set {n : Nat} {l : Array Bool} {m : Nat} (h : Msk n l m) (i : Nat) (hi : i < n) : Msk n (l.setIfInBounds i true) (m ||| 1 <<< i) := by
  refine ⟨by simp [h.size], fun j hj => ?_, fun j hj => ?_⟩
  · rw [Array.getElem?_setIfInBounds, Nat.testBit_or]
    by_cases hij : i = j
    · subst hij; simp [h.size, hi, Nat.testBit_shiftLeft]
    · rw [if_neg hij, h.bit j hj]
      have : (1 <<< i).testBit j = false := by
        rw [Nat.testBit_shiftLeft]
        rcases Nat.lt_or_ge j i with h' | h'
        · simp; omega
        · have : j - i ≠ 0 := by omega
          obtain ⟨q, hq⟩ : ∃ q, j - i = q + 1 := ⟨j - i - 1, by omega⟩
          rw [hq, bit1, Bool.and_false]
      rw [this, Bool.or_false]
  · rw [Nat.testBit_or, h.hi j hj, Nat.testBit_shiftLeft]
    obtain ⟨q, hq⟩ : ∃ q, j - i = q + 1 := ⟨j - i - 1, by omega⟩
    rw [hq, bit1, Bool.and_false, Bool.or_false]
theorem Msk.zero (n : Nat) : Msk n (Array.replicate n false) 0 := ⟨by simp, fun i hi => by simp [hi], fun i _ => by simp⟩

theorem rdy_eq {md : Region.Mode} {ops : Array Oper} {l : Array Bool} {m : Nat} (h : Msk ops.size l m) : Region.ready md ops l = rdy md ops.toList 0 m := by
  have H : ∀ (L : List Oper) (k : Nat), k + L.length ≤ ops.size → (∀ i, i < L.length → ops[k + i]? = L[i]?) →
      (List.range' k L.length).filter (fun i => !l.getD i true && ((ops[i]?).map (·.after.all fun e => !Region.binds md e || l.getD e.on false)).getD false) = rdy md L k m := by
    intro L
    induction L with
    | nil => intro k _ _; rfl
    | cons o r ih =>
      intro k hk hL
      rw [List.length_cons, List.range'_succ, List.filter_cons]
      have h0 : ops[k]? = some o := by have := hL 0 (by simp); simpa using this
      have ihr := ih (k + 1) (by simp only [List.length_cons] at hk; omega) (fun i hi => by
        have := hL (i + 1) (by simp; omega)
        rw [List.getElem?_cons_succ] at this
        rw [← this]; congr 1; omega)
      rw [ihr, h0, Option.map_some, Option.getD_some, h.getD k true (by simp only [List.length_cons] at hk; omega)]
      have he : (o.after.all fun e => !Region.binds md e || l.getD e.on false) = (o.after.all fun e => !Region.binds md e || m.testBit e.on) := by
        congr 1; funext e; rw [h.getF]
      rw [he, rdy]
      cases hc : (!m.testBit k && o.after.all fun e => !Region.binds md e || m.testBit e.on) <;> simp [hc]
  have := H ops.toList 0 (by simp) (fun i hi => by simp)
  unfold Region.ready
  rw [List.range_eq_range']
  simpa using this

theorem fre_spec {md : Region.Mode} {ops : Array Oper} {oi : Oper} {i m : Nat} : ∀ (L : List Oper) (k : Nat), fre md ops oi i L k m = true → ∀ j oj, L[j]? = some oj →
    (Nat.beq (k + j) i || m.testBit (k + j) || oj.after.any (fun e => Region.binds md e && Nat.beq e.on i) || oi.apart ops oj) = true
  | [], k, _, j, oj, hj => by simp at hj
  | o :: r, k, h, j, oj, hj => by
    simp only [fre, Bool.and_eq_true] at h
    cases j with
    | zero => simp only [List.getElem?_cons_zero, Option.some.injEq] at hj; subst hj; exact h.1
    | succ j =>
      rw [List.getElem?_cons_succ] at hj
      have := fre_spec r (k + 1) h.2 j oj hj
      rw [show k + 1 + j = k + (j + 1) by omega] at this
      exact this

section
variable {P : Program} {ops : Array Oper} {Q : Exit → Act → World → Prop} {md : Region.Mode} {S : World → Prop}

/-- The operations in a row. -/
def wpSeq (P : Program) (ops : Array Oper) (Q : Exit → Act → World → Prop) (S : World → Prop) : List Stp → Act → World → Prop
  | [], a, w => Q .normal a w
  | .t i _ :: r, a, w => ∃ o v, nth ops.toList i = some o ∧ YieldsIf P ops S o v a ∧ wpSeq P ops Q S r (a.put o.dst v) w
  | .o i _ :: r, a, w => wpOp P ops Q i (fun a' w' => S w' ∧ wpSeq P ops Q S r a' w') a w
  | .b i j _ _ _ :: r, a, w =>
    wpOp P ops Q i (fun a' w' => S w' ∧ wpOp P ops Q j (fun a' w' => S w' ∧ wpSeq P ops Q S r a' w') a' w') a w ∧
    wpOp P ops Q j (fun a' w' => S w' ∧ wpOp P ops Q i (fun a' w' => S w' ∧ wpSeq P ops Q S r a' w') a' w') a w

theorem lt_of_rdy {m i : Nat} {l : Array Bool} (h : Msk ops.size l m) (hi : i ∈ rdy md ops.toList 0 m) : i < ops.size := by
  rw [← rdy_eq h] at hi
  exact (Array.getElem?_eq_some_iff.1 (mem_ready.1 hi).2.choose_spec.1).1

theorem wpAnyH_seq (hns : Region.noSelect ops = true) (hQ : ∀ c a d v w, Q (.panic c) (a.put d v) w → Q (.panic c) a w) :
    ∀ (sts : List Stp) (m : Nat) (l : Array Bool) (fuel : Nat) (a : Act) (w : World), Msk ops.size l m → plan md ops sts m = true → lng sts ≤ fuel → S w →
      wpSeq P ops Q S sts a w → wpAnyH P md ops Q S fuel l a w
  | [], m, l, fuel, a, w, hm, hp, _, _, h => by
    have := emp_eq (show emp (rdy md ops.toList 0 m) = true from hp)
    exact wpAnyH_done (by rw [rdy_eq hm, this]) h fuel
  | .t i m' :: r, m, l, fuel, a, w, hm, hp, hl, hS, h => by
    simp only [plan, Bool.and_eq_true] at hp
    obtain ⟨⟨⟨h1, h2⟩, h3⟩, h4⟩ := hp
    obtain ⟨o, v, ho, hy, h⟩ := h
    have hmem := hasN_mem _ _ h1
    have hlt := lt_of_rdy hm hmem
    obtain ⟨f, rfl⟩ : ∃ f, fuel = f + 1 := ⟨fuel - 1, by simp only [lng] at hl; omega⟩
    simp only [lng] at hl
    have h2' : fre md ops o i ops.toList 0 m = true := by unfold freAt at h2; rw [ho] at h2; exact h2
    have hms := hm.set i hlt
    rw [← Nat.eq_of_beq_eq_true h3] at hms
    refine wpAnyH_first (nth_ops ho) (Region.noSelect_spec hns) (fun c a w => hQ c a o.dst v w) f l a w (fun j oj hj hne hun hno => ?_) (by rw [rdy_eq hm]; exact hmem) hy hS
      (wpAnyH_seq hns hQ r m' _ f _ w hms h4 (by omega) hS h)
    have hjl := (Array.getElem?_eq_some_iff.1 hj).1
    have hs := fre_spec ops.toList 0 h2' j oj (by simpa using hj)
    rw [Nat.zero_add] at hs
    rw [hm.getD j true hjl] at hun
    simp only [Bool.or_eq_true] at hs
    rcases hs with ((hs | hs) | hs) | hs
    · exact absurd (Nat.eq_of_beq_eq_true hs) hne
    · rw [hun] at hs; cases hs
    · obtain ⟨e, he, hb⟩ := Array.any_eq_true'.1 hs
      simp only [Bool.and_eq_true] at hb
      exact absurd (Nat.eq_of_beq_eq_true hb.2) (hno e he hb.1)
    · exact hs
  | .o i m' :: r, m, l, fuel, a, w, hm, hp, hl, hS, h => by
    simp only [plan, Bool.and_eq_true] at hp
    obtain ⟨⟨h1, h3⟩, h4⟩ := hp
    have h1 := one1_eq h1
    have hlt := lt_of_rdy (md := md) hm (i := i) (by rw [h1]; simp)
    obtain ⟨f, rfl⟩ : ∃ f, fuel = f + 1 := ⟨fuel - 1, by simp only [lng] at hl; omega⟩
    simp only [lng] at hl
    have hms := hm.set i hlt
    rw [← Nat.eq_of_beq_eq_true h3] at hms
    refine wpAnyH_all (rs := [i]) (by rw [rdy_eq hm, h1]) (by simp) (fun k hk => ?_)
    obtain rfl : k = i := by simpa using hk
    exact wpOp_mono (fun a' w' h' => ⟨h'.1, wpAnyH_seq hns hQ r m' _ f a' w' hms h4 (by omega) h'.1 h'.2⟩) h
  | .b i j mi mj m' :: r, m, l, fuel, a, w, hm, hp, hl, hS, h => by
    simp only [plan, Bool.and_eq_true] at hp
    obtain ⟨⟨⟨⟨⟨⟨h1, h2⟩, h3⟩, h4⟩, h5⟩, h6⟩, h7⟩ := hp
    have h1 := two2_eq h1
    have hlti := lt_of_rdy (md := md) hm (i := i) (by rw [h1]; simp)
    have hltj := lt_of_rdy (md := md) hm (i := j) (by rw [h1]; simp)
    obtain ⟨f, rfl⟩ : ∃ f, fuel = f + 2 := ⟨fuel - 2, by simp only [lng] at hl; omega⟩
    simp only [lng] at hl
    have hmi := hm.set i hlti
    have hmj := hm.set j hltj
    have hmij := hmi.set j hltj
    have hmji := hmj.set i hlti
    rw [show (m ||| 1 <<< j) ||| 1 <<< i = (m ||| 1 <<< i) ||| 1 <<< j by rw [Nat.or_assoc, Nat.or_assoc, Nat.or_comm (1 <<< j)]] at hmji
    rw [← Nat.eq_of_beq_eq_true h2] at hmi hmij hmji
    rw [← Nat.eq_of_beq_eq_true h6] at hmij hmji
    rw [← Nat.eq_of_beq_eq_true h3] at hmj
    refine wpAnyH_all (rs := [i, j]) (by rw [rdy_eq hm, h1]) (by simp) (fun k hk => ?_)
    rcases (show k = i ∨ k = j by simpa using hk) with rfl | rfl
    · refine wpOp_mono (fun a' w' h' => ⟨h'.1, ?_⟩) h.1
      refine wpAnyH_all (rs := [j]) (by rw [rdy_eq hmi, one1_eq h4]) (by simp) (fun q hq => ?_)
      obtain rfl : q = j := by simpa using hq
      exact wpOp_mono (fun a' w' h' => ⟨h'.1, wpAnyH_seq hns hQ r m' _ f a' w' hmij h7 (by omega) h'.1 h'.2⟩) h'.2
    · refine wpOp_mono (fun a' w' h' => ⟨h'.1, ?_⟩) h.2
      refine wpAnyH_all (rs := [i]) (by rw [rdy_eq hmj, one1_eq h5]) (by simp) (fun q hq => ?_)
      obtain rfl : q = i := by simpa using hq
      exact wpOp_mono (fun a' w' h' => ⟨h'.1, wpAnyH_seq hns hQ r m' _ f a' w' hmji h7 (by omega) h'.1 h'.2⟩) h'.2

/-- The beginning. -/
theorem wp_region_seq {id : Nat} {a : Act} {w : World} (sts : List Stp) (hm : P.follows .mixedOrders = true) (hns : Region.noSelect ops = true) (hp : plan .any ops sts 0 = true)
    (hl : Nat.ble (lng sts) ops.size = true) (hQ : ∀ c a d v w, Q (.panic c) (a.put d v) w → Q (.panic c) a w) (hS : S w.drew) (h : S w.drew → wpSeq P ops Q S sts a w.drew) :
    (Code.region id ops true).wp P Q a w :=
  wp_region_held_drew hm hS fun h' => wpAnyH_seq hns hQ sts 0 _ _ _ _ (Msk.zero _) hp (Nat.le_of_ble_eq_true hl) h' (h h')

/-- An operation is taken first. -/
theorem seq_take {i m' : Nat} {r : List Stp} {o : Oper} {v : Value} {a : Act} {w : World} (ho : nth ops.toList i = some o) (hw : Region.wanted o (yielded ops a.tmps) = true)
    (hv : ∀ w, S w → (execOp a.eval o).run P w = .ok (.value v) w) (h : wpSeq P ops Q S r (a.put o.dst v) w) : wpSeq P ops Q S (.t i m' :: r) a w :=
  ⟨o, v, ho, .inl ⟨hw, hv⟩, h⟩
/-- An operation is carried out. -/
theorem seq_one {i m' : Nat} {r : List Stp} {o : Oper} {a : Act} {w : World} (ho : nth ops.toList i = some o)
    (h : ∀ K' : Act → World → Prop, Shut (∀ a w, S w → (S w → wpSeq P ops Q S r a w) → K' a w) → if Region.wanted o (yielded ops a.tmps) = true then Oper.wp P o a w K' Q else K' (a.put o.dst undef) w) :
    wpSeq P ops Q S (.o i m' :: r) a w :=
  wpOp_step (nth_ops ho) (fun K' hK => h K' (fun a w hS hW => hK a w ⟨hS, hW hS⟩))
/-- One of two is carried out, then the other. -/
theorem seq_two {i j mi mj m' : Nat} {r : List Stp} {o p : Oper} {a : Act} {w : World} (ho : nth ops.toList i = some o) (hp : nth ops.toList j = some p)
    (h1 : ∀ K' : Act → World → Prop, Shut (∀ a w, S w → (S w → wpSeq P ops Q S (.o j 0 :: r) a w) → K' a w) → if Region.wanted o (yielded ops a.tmps) = true then Oper.wp P o a w K' Q else K' (a.put o.dst undef) w)
    (h2 : ∀ K' : Act → World → Prop, Shut (∀ a w, S w → (S w → wpSeq P ops Q S (.o i 0 :: r) a w) → K' a w) → if Region.wanted p (yielded ops a.tmps) = true then Oper.wp P p a w K' Q else K' (a.put p.dst undef) w) :
    wpSeq P ops Q S (.b i j mi mj m' :: r) a w :=
  ⟨wpOp_step (nth_ops ho) (fun K' hK => h1 K' (fun a w hS hW => hK a w ⟨hS, hW hS⟩)), wpOp_step (nth_ops hp) (fun K' hK => h2 K' (fun a w hS hW => hK a w ⟨hS, hW hS⟩))⟩
/-- All have come up. -/
theorem seq_done {a : Act} {w : World} (h : Q .normal a w) : wpSeq P ops Q S [] a w := h
end

end Go.Proofs.YtlbjnkopbabcnaaGreatDoor
end

/- A law for a region that draws its order: pure operations ahead in a row, the others in whatever order, by an invariant: each of them is walked once, whatever has come up before it. -/
section
namespace Go.Proofs.YtlbjnkopbabcnaaGreatDoor
open Go
set_option linter.unusedSimpArgs false
set_option linter.unusedVariables false

def puts (a : Act) : List Nat → List Value → Act
  | d :: ds, v :: vs => puts (a.put (some d) v) ds vs
  | _, _ => a
theorem put_self (a : Act) (d : Nat) : ∃ v, a.put (some d) v = a := by
  refine ⟨a.tmps.getD d undef, ?_⟩
  show ({ a with tmps := _ } : Act) = a
  have : a.tmps.setIfInBounds d (a.tmps.getD d undef) = a.tmps := by
    apply Array.ext
    · simp
    · intro i h1 h2
      rw [Array.getElem_setIfInBounds]
      split
      · rename_i h; subst h
        simp [Array.getD_eq_getD_getElem?, h2]
      · rfl
  rw [this]
theorem puts_self (a : Act) : ∀ ds : List Nat, ∃ vs, vs.length = ds.length ∧ puts a ds vs = a
  | [] => ⟨[], rfl, rfl⟩
  | d :: ds => by
    obtain ⟨vs, h1, h2⟩ := puts_self a ds
    obtain ⟨v, hv⟩ := put_self a d
    exact ⟨v :: vs, by simp [h1], by rw [puts, hv, h2]⟩

/-- all of these have come up -/
def allB (d : Nat → Bool) : List Nat → Prop
  | [] => True
  | j :: r => d j = true ∧ allB d r
def noB (d : Nat → Bool) : List Nat → Prop
  | [] => True
  | j :: r => d j = false ∧ noB d r
def addB (d : Nat → Bool) (i : Nat) : Nat → Bool := fun j => Nat.beq i j || d j

/-- each of these may come up behind those of its own list -/
def wpFree (P : Program) (ops : Array Oper) (Q : Exit → Act → World → Prop) (I : (Nat → Bool) → Act → World → Prop) : List (Nat × List Nat) → Prop
  | [] => True
  | x :: r => (∀ d a w, I d a w → d x.1 = false → allB d x.2 → wpOp P ops Q x.1 (fun a' w' => I (addB d x.1) a' w') a w) ∧ wpFree P ops Q I r

def fsts : List (Nat × List Nat) → List Nat
  | [] => []
  | x :: r => x.1 :: fsts r
theorem allB_iff {d : Nat → Bool} : ∀ {l : List Nat}, allB d l ↔ ∀ j ∈ l, d j = true
  | [] => by simp [allB]
  | j :: r => by simp [allB, allB_iff (l := r)]
theorem noB_iff {d : Nat → Bool} : ∀ {l : List Nat}, noB d l ↔ ∀ j ∈ l, d j = false
  | [] => by simp [noB]
  | j :: r => by simp [noB, noB_iff (l := r)]
theorem fsts_mem : ∀ {l : List (Nat × List Nat)} {i : Nat}, i ∈ fsts l → ∃ D, (i, D) ∈ l
  | [], i, h => by simp [fsts] at h
  | x :: r, i, h => by
    rcases List.mem_cons.1 h with h | h
    · exact ⟨x.2, by rw [h]; simp⟩
    · obtain ⟨D, hD⟩ := fsts_mem h; exact ⟨D, List.mem_cons_of_mem _ hD⟩
theorem wpFree_mem {P : Program} {ops : Array Oper} {Q : Exit → Act → World → Prop} {I : (Nat → Bool) → Act → World → Prop} : ∀ {l : List (Nat × List Nat)} {x}, wpFree P ops Q I l → x ∈ l →
    ∀ d a w, I d a w → d x.1 = false → allB d x.2 → wpOp P ops Q x.1 (fun a' w' => I (addB d x.1) a' w') a w
  | [], x, _, h => by simp at h
  | y :: r, x, h, hx => by
    rcases List.mem_cons.1 hx with rfl | hx
    · exact h.1
    · exact wpFree_mem h.2 hx

/-- how many have not come up -/
def open_ (d : Nat → Bool) : List Nat → Nat
  | [] => 0
  | j :: r => (if d j = true then 0 else 1) + open_ d r
theorem open_le (d : Nat → Bool) (i : Nat) : ∀ l, open_ (addB d i) l ≤ open_ d l
  | [] => Nat.le_refl _
  | j :: r => by
    have := open_le d i r
    simp only [open_, addB]
    by_cases h : d j = true
    · simp [h]; exact this
    · simp [h]; split <;> omega
theorem open_lt (d : Nat → Bool) (i : Nat) (hd : d i = false) : ∀ l, i ∈ l → open_ (addB d i) l < open_ d l
  | [], h => by simp at h
  | j :: r, h => by
    have := open_le d i r
    simp only [open_]
    rcases List.mem_cons.1 h with rfl | h
    · have e : addB d i i = true := by simp [addB]
      rw [e]; simp [hd]; omega
    · have := open_lt d i hd r h
      by_cases h : d j = true
      · have e : addB d i j = true := by simp [addB, h]
        simp [h, e]; exact this
      · simp [h]; split <;> omega

/-- The check: the operations that are left are those of the list, each behind those of its own list. -/
def deps (md : Region.Mode) (ops : Array Oper) : List (Nat × List Nat) → Bool
  | [] => true
  | x :: r => (match nth ops.toList x.1 with | none => false | some o => x.2.all fun j => o.after.any fun e => Region.binds md e && Nat.beq e.on j) && deps md ops r
def rest (n : Nat) (m : Nat) (l : List Nat) : Bool := (List.range n).all fun k => m.testBit k || hasN l k
theorem deps_mem {md : Region.Mode} {ops : Array Oper} : ∀ {l : List (Nat × List Nat)} {x}, deps md ops l = true → x ∈ l → ∃ o, nth ops.toList x.1 = some o ∧ ∀ j ∈ x.2, ∃ e ∈ o.after, Region.binds md e = true ∧ e.on = j
  | [], x, _, h => by simp at h
  | y :: r, x, h, hx => by
    simp only [deps, Bool.and_eq_true] at h
    rcases List.mem_cons.1 hx with rfl | hx
    · cases ho : nth ops.toList x.1 with
      | none => rw [ho] at h; simp at h
      | some o =>
        rw [ho] at h
        refine ⟨o, rfl, fun j hj => ?_⟩
        have := List.all_eq_true.1 h.1 j hj
        obtain ⟨e, he, hb⟩ := Array.any_eq_true'.1 this
        simp only [Bool.and_eq_true] at hb
        exact ⟨e, he, hb.1, Nat.eq_of_beq_eq_true hb.2⟩
    · exact deps_mem h.2 hx

/-- nothing of the list waits for something that is behind it -/
def topo (md : Region.Mode) (ops : Array Oper) (m : Nat) : List Nat → List Nat → Bool
  | _, [] => true
  | seen, i :: r => (match nth ops.toList i with | none => false | some o => o.after.all fun e => !Region.binds md e || m.testBit e.on || hasN seen e.on) && topo md ops m (i :: seen) r
theorem topo_all {md : Region.Mode} {ops : Array Oper} {e m : Nat} {l : Array Bool} (hm : Msk ops.size l m) (he : ∀ k, k < ops.size → e.testBit k = true → m.testBit k = true) (hr : rdy md ops.toList 0 m = []) (hes : ∀ k, e.testBit k = true → k < ops.size) :
    ∀ (L seen : List Nat), topo md ops e seen L = true → (∀ j ∈ seen, m.testBit j = true) → ∀ j ∈ L, m.testBit j = true
  | [], _, _, _, j, hj => by simp at hj
  | i :: r, seen, ht, hs, j, hj => by
    simp only [topo, Bool.and_eq_true] at ht
    have hi : m.testBit i = true := by
      cases ho : nth ops.toList i with
      | none => rw [ho] at ht; simp at ht
      | some o =>
        rw [ho] at ht
        cases hb : m.testBit i with
        | true => rfl
        | false =>
          exfalso
          have hoi := nth_ops ho
          have hlt := (Array.getElem?_eq_some_iff.1 hoi).1
          have : i ∈ Region.ready md ops l := by
            refine mem_ready.2 ⟨by rw [hm.getD i true hlt, hb], o, hoi, fun x hx hbx => ?_⟩
            have := Array.all_eq_true'.1 ht.1 x hx
            simp only [Bool.or_eq_true, hbx] at this
            rw [hm.getF]
            rcases this with (h | h) | h
            · simp at h
            · exact he _ (hes _ h) h
            · exact hs _ (hasN_mem _ _ h)
          rw [rdy_eq hm, hr] at this
          simp at this
    rcases List.mem_cons.1 hj with rfl | hj
    · exact hi
    · exact topo_all hm he hr hes r (i :: seen) ht.2 (fun q hq => (List.mem_cons.1 hq).elim (fun h => h ▸ hi) (hs q)) j hj

def planT (md : Region.Mode) (ops : Array Oper) : List (Nat × Nat) → Nat → Nat → Bool
  | [], m, e => Nat.beq m e
  | (i, m') :: r, m, e => hasN (rdy md ops.toList 0 m) i && freAt md ops i m && Nat.beq m' (m ||| 1 <<< i) && planT md ops r m' e

section
variable {P : Program} {ops : Array Oper} {Q : Exit → Act → World → Prop} {md : Region.Mode} {S : World → Prop}

theorem wpAnyH_free {I : (Nat → Bool) → Act → World → Prop} {late : List (Nat × List Nat)} {e : Nat} (hI : ∀ d a w, I d a w → S w) (hd : deps md ops late = true) (hr : rest ops.size e (fsts late) = true) (ht : topo md ops e [] (fsts late) = true) (hes : ∀ k, e.testBit k = true → k < ops.size)
    (hst : wpFree P ops Q I late) (hend : ∀ d a w, allB d (fsts late) → I d a w → Q .normal a w) :
    ∀ (fuel m : Nat) (l : Array Bool) (a : Act) (w : World), Msk ops.size l m → (∀ k, k < ops.size → e.testBit k = true → m.testBit k = true) → open_ (fun j => m.testBit j) (fsts late) ≤ fuel → I (fun j => m.testBit j) a w →
      wpAnyH P md ops Q S fuel l a w := by
  intro fuel
  induction fuel with
  | zero =>
    intro m l a w hm he ho hi
    have hall : ∀ j ∈ fsts late, m.testBit j = true := by
      have : ∀ L, open_ (fun j => m.testBit j) L ≤ 0 → ∀ j ∈ L, m.testBit j = true := by
        intro L
        induction L with
        | nil => intro _ j hj; simp at hj
        | cons x r ih =>
          intro h j hj
          simp only [open_] at h
          rcases List.mem_cons.1 hj with rfl | hj
          · by_cases hx : m.testBit j = true
            · exact hx
            · simp [hx] at h
          · exact ih (by omega) j hj
      exact this _ ho
    refine wpAnyH_done ?_ (hend _ _ _ (allB_iff.2 hall) hi) 0
    rw [rdy_eq hm]
    cases hrd : rdy md ops.toList 0 m with
    | nil => rfl
    | cons i r =>
      exfalso
      have hmem : i ∈ rdy md ops.toList 0 m := by rw [hrd]; simp
      have hlt := lt_of_rdy hm hmem
      rw [← rdy_eq hm] at hmem
      have h1 := (mem_ready.1 hmem).1
      rw [hm.getD i true hlt] at h1
      have := List.all_eq_true.1 hr i (by simpa using hlt)
      simp only [Bool.or_eq_true] at this
      rcases this with h | h
      · rw [he i hlt h] at h1; simp at h1
      · rw [hall i (hasN_mem _ _ h)] at h1; simp at h1
  | succ f ih =>
    intro m l a w hm he ho hi
    cases hrd : rdy md ops.toList 0 m with
    | nil =>
      -- nothing more may come up: then all has come up
      exact wpAnyH_done (by rw [rdy_eq hm, hrd]) (hend _ _ _ (allB_iff.2 (topo_all hm he hrd hes _ [] ht (by simp))) hi) _
    | cons i0 r0 =>
      refine wpAnyH_all (rs := i0 :: r0) (by rw [rdy_eq hm, hrd]) (by simp) (fun k hk => ?_)
      have hmem : k ∈ rdy md ops.toList 0 m := by rw [hrd]; exact hk
      have hlt := lt_of_rdy hm hmem
      rw [← rdy_eq hm] at hmem
      obtain ⟨h1, o, ho', hdep⟩ := mem_ready.1 hmem
      rw [hm.getD k true hlt] at h1
      have h1' : m.testBit k = false := by simpa using h1
      have := List.all_eq_true.1 hr k (by simpa using hlt)
      simp only [Bool.or_eq_true] at this
      rcases this with h | h
      · rw [he k hlt h] at h1'; cases h1'
      · have hkm := hasN_mem _ _ h
        obtain ⟨D, hD⟩ := fsts_mem hkm
        obtain ⟨o2, ho2, hj⟩ := deps_mem hd hD
        have hoo : o2 = o := by have := nth_ops ho2; rw [ho'] at this; injection this with this; exact this.symm
        subst hoo
        refine wpOp_mono (fun a' w' h' => ⟨hI _ _ _ h', ?_⟩) (wpFree_mem hst hD _ a w hi h1' (allB_iff.2 fun j hjD => ?_))
        · have hms := hm.set k hlt
          have hfun : addB (fun j => m.testBit j) k = fun j => (m ||| 1 <<< k).testBit j := by
            funext j
            unfold addB
            rw [Nat.testBit_or, Nat.testBit_shiftLeft]
            by_cases hkj : k = j
            · subst hkj; simp
            · have h0 : Nat.beq k j = false := by
                cases hq : Nat.beq k j with
                | false => rfl
                | true => exact absurd (Nat.eq_of_beq_eq_true hq) hkj
              rw [h0, Bool.false_or]
              have : (decide (j ≥ k) && Nat.testBit 1 (j - k)) = false := by
                rcases Nat.lt_or_ge j k with h' | h'
                · simp; omega
                · obtain ⟨q, hq⟩ : ∃ q, j - k = q + 1 := ⟨j - k - 1, by omega⟩
                  rw [hq, bit1, Bool.and_false]
              rw [this, Bool.or_false]
          have hlt' := open_lt (fun j => m.testBit j) k h1' (fsts late) hkm
          have h'' : I (fun j => (m ||| 1 <<< k).testBit j) a' w' := by rw [← hfun]; exact h'
          rw [hfun] at hlt'
          exact ih (m ||| 1 <<< k) _ a' w' hms (fun q hq hb => by rw [Nat.testBit_or, he q hq hb, Bool.true_or]) (by omega) h''
        · obtain ⟨e', he', hb', rfl⟩ := hj j hjD
          have := hdep e' he' hb'
          rwa [hm.getF] at this

theorem open_len (d : Nat → Bool) : ∀ l, open_ d l ≤ l.length
  | [] => Nat.le_refl _
  | j :: r => by have := open_len d r; simp only [open_, List.length_cons]; split <;> omega

/-- The pure operations ahead, in a row. -/
def wpTk (P : Program) (ops : Array Oper) (S : World → Prop) (R : Act → World → Prop) : List (Nat × Nat) → Act → World → Prop
  | [], a, w => R a w
  | (i, _) :: r, a, w => ∃ o v, nth ops.toList i = some o ∧ YieldsIf P ops S o v a ∧ wpTk P ops S R r (a.put o.dst v) w
theorem wpAnyH_tk (hns : Region.noSelect ops = true) (hQ : ∀ c a d v w, Q (.panic c) (a.put d v) w → Q (.panic c) a w) {e k : Nat} {R : Act → World → Prop}
    (hR : ∀ l fuel a w, Msk ops.size l e → k ≤ fuel → S w → R a w → wpAnyH P md ops Q S fuel l a w) :
    ∀ (sts : List (Nat × Nat)) (m : Nat) (l : Array Bool) (fuel : Nat) (a : Act) (w : World), Msk ops.size l m → planT md ops sts m e = true → sts.length + k ≤ fuel → S w →
      wpTk P ops S R sts a w → wpAnyH P md ops Q S fuel l a w
  | [], m, l, fuel, a, w, hm, hp, hl, hS, h => by
    have := Nat.eq_of_beq_eq_true (show Nat.beq m e = true from hp)
    subst this
    exact hR l fuel a w hm (by simpa using hl) hS h
  | (i, m') :: r, m, l, fuel, a, w, hm, hp, hl, hS, h => by
    simp only [planT, Bool.and_eq_true] at hp
    obtain ⟨⟨⟨h1, h2⟩, h3⟩, h4⟩ := hp
    obtain ⟨o, v, ho, hy, h⟩ := h
    have hmem := hasN_mem _ _ h1
    have hlt := lt_of_rdy hm hmem
    simp only [List.length_cons] at hl
    obtain ⟨f, rfl⟩ : ∃ f, fuel = f + 1 := ⟨fuel - 1, by omega⟩
    have h2' : fre md ops o i ops.toList 0 m = true := by unfold freAt at h2; rw [ho] at h2; exact h2
    have hms := hm.set i hlt
    rw [← Nat.eq_of_beq_eq_true h3] at hms
    refine wpAnyH_first (nth_ops ho) (Region.noSelect_spec hns) (fun c a w => hQ c a o.dst v w) f l a w (fun j oj hj hne hun hno => ?_) (by rw [rdy_eq hm]; exact hmem) hy hS
      (wpAnyH_tk hns hQ hR r m' _ f _ w hms h4 (by omega) hS h)
    have hjl := (Array.getElem?_eq_some_iff.1 hj).1
    have hs := fre_spec ops.toList 0 h2' j oj (by simpa using hj)
    rw [Nat.zero_add] at hs
    rw [hm.getD j true hjl] at hun
    simp only [Bool.or_eq_true] at hs
    rcases hs with ((hs | hs) | hs) | hs
    · exact absurd (Nat.eq_of_beq_eq_true hs) hne
    · rw [hun] at hs; cases hs
    · obtain ⟨e, he, hb⟩ := Array.any_eq_true'.1 hs
      simp only [Bool.and_eq_true] at hb
      exact absurd (Nat.eq_of_beq_eq_true hb.2) (hno e he hb.1)
    · exact hs

/-- The frames of the free part: these slots hold something. -/
def Fr (a0 : Act) (ds : List Nat) (J : (Nat → Bool) → List Value → World → Prop) (d : Nat → Bool) (a : Act) (w : World) : Prop := ∃ vs, a = puts a0 ds vs ∧ J d vs w
/-- The free part, from a frame on. -/
def wpFr (P : Program) (ops : Array Oper) (Q : Exit → Act → World → Prop) (S : World → Prop) (late : List (Nat × List Nat)) (a0 : Act) (w0 : World) : Prop :=
  ∃ (ds : List Nat) (J : (Nat → Bool) → List Value → World → Prop), (∀ d vs w, J d vs w → S w) ∧ (∀ d vs, vs.length = ds.length → noB d (fsts late) → J d vs w0) ∧
    wpFree P ops Q (Fr a0 ds J) late ∧ ∀ d vs w, allB d (fsts late) → J d vs w → Q .normal (puts a0 ds vs) w

/-- all the checks of a region, at once -/
def chk (ops : Array Oper) (sts : List (Nat × Nat)) (e : Nat) (late : List (Nat × List Nat)) : Bool :=
  Region.noSelect ops && planT .any ops sts 0 e && deps .any ops late && rest ops.size e (fsts late) && topo .any ops e [] (fsts late) && (fsts late).all (fun j => !e.testBit j) && Nat.ble (sts.length + (fsts late).length) ops.size &&
    Nat.ble (e.log2 + 1) ops.size
/-- The beginning. -/
theorem wp_region_free {id : Nat} {a : Act} {w : World} (sts : List (Nat × Nat)) (e : Nat) (late : List (Nat × List Nat)) (hm : P.follows .mixedOrders = true) (hc : chk ops sts e late = true)
    (hQ : ∀ c a d v w, Q (.panic c) (a.put d v) w → Q (.panic c) a w) (hS : S w.drew) (h : S w.drew → wpTk P ops S (wpFr P ops Q S late) sts a w.drew) :
    (Code.region id ops true).wp P Q a w := by
  simp only [chk, Bool.and_eq_true] at hc
  obtain ⟨⟨⟨⟨⟨⟨⟨h1, h2⟩, h3⟩, h4⟩, h5⟩, h6⟩, h7⟩, h8⟩ := hc
  have h8 := Nat.le_of_ble_eq_true h8
  have hes : ∀ k, e.testBit k = true → k < ops.size := fun k hk => by
    have : e ≠ 0 := by rintro rfl; simp at hk
    have h9 : e < 2 ^ (e.log2 + 1) := Nat.lt_log2_self
    rcases Nat.lt_or_ge k (e.log2 + 1) with h | h
    · omega
    · have : e.testBit k = false := Nat.testBit_lt_two_pow (Nat.lt_of_lt_of_le h9 (Nat.pow_le_pow_right (by omega) h))
      rw [this] at hk; cases hk
  refine wp_region_held_drew hm hS fun h' => wpAnyH_tk h1 hQ (e := e) (k := (fsts late).length) (R := wpFr P ops Q S late) ?_ sts 0 _ _ _ _ (Msk.zero _) h2 (Nat.le_of_ble_eq_true h7) h' (h h')
  rintro l fuel a0 w0 hml hk hS0 ⟨ds, J, j1, j2, j3, j4⟩
  have hno : noB (fun j => e.testBit j) (fsts late) := noB_iff.2 fun j hj => by have := List.all_eq_true.1 h6 j hj; simpa using this
  obtain ⟨vs, hv1, hv2⟩ := puts_self a0 ds
  refine wpAnyH_free (I := Fr a0 ds J) (e := e) ?_ h3 h4 h5 hes j3 ?_ fuel e l a0 w0 hml (fun _ _ h => h) (Nat.le_trans (open_len _ _) hk) ⟨vs, hv2.symm, j2 _ vs hv1 hno⟩
  · rintro d a w ⟨vs, -, hj⟩; exact j1 _ _ _ hj
  · rintro d a w hd ⟨vs, rfl, hj⟩; exact j4 _ _ _ hd hj

/-- An operation is taken first. -/
theorem free_take {i m' : Nat} {r : List (Nat × Nat)} {R : Act → World → Prop} {o : Oper} {v : Value} {a : Act} {w : World} (ho : nth ops.toList i = some o) (hw : Region.wanted o (yielded ops a.tmps) = true)
    (hv : ∀ w, S w → (execOp a.eval o).run P w = .ok (.value v) w) (h : wpTk P ops S R r (a.put o.dst v) w) : wpTk P ops S R ((i, m') :: r) a w :=
  ⟨o, v, ho, .inl ⟨hw, hv⟩, h⟩
/-- The free part: the slots, the invariant; it holds at the beginning; each operation keeps it; the end. -/
theorem free_part {late : List (Nat × List Nat)} {a0 : Act} {w0 : World} (ds : List Nat) (J : (Nat → Bool) → List Value → World → Prop) (hJ : ∀ d vs w, J d vs w → S w) (h0 : ∀ d vs, vs.length = ds.length → noB d (fsts late) → J d vs w0)
    (hs : wpFree P ops Q (Fr a0 ds J) late) (he : ∀ d vs w, allB d (fsts late) → J d vs w → Q .normal (puts a0 ds vs) w) : wpTk P ops S (wpFr P ops Q S late) [] a0 w0 :=
  ⟨ds, J, hJ, h0, hs, he⟩
/-- One operation of the free part. -/
theorem free_step {i : Nat} {D : List Nat} {r : List (Nat × List Nat)} {a0 : Act} {ds : List Nat} {J : (Nat → Bool) → List Value → World → Prop} {o : Oper} (ho : nth ops.toList i = some o)
    (h : ∀ d vs w, J d vs w → d i = false → allB d D → ∀ K' : Act → World → Prop, Shut (∀ a' w', Fr a0 ds J (addB d i) a' w' → K' a' w') →
      if Region.wanted o (yielded ops (puts a0 ds vs).tmps) = true then Oper.wp P o (puts a0 ds vs) w K' Q else K' ((puts a0 ds vs).put o.dst undef) w)
    (hr : wpFree P ops Q (Fr a0 ds J) r) : wpFree P ops Q (Fr a0 ds J) ((i, D) :: r) :=
  ⟨fun d a w ⟨vs, ha, hj⟩ hd hD => by subst ha; exact wpOp_step (nth_ops ho) (fun K' hK => h d vs w hj hd hD K' hK), hr⟩
theorem free_done {a0 : Act} {ds : List Nat} {J : (Nat → Bool) → List Value → World → Prop} : wpFree P ops Q (Fr a0 ds J) [] := trivial
end

end Go.Proofs.YtlbjnkopbabcnaaGreatDoor
end

/- Fresh blocks of two numbers that a region makes and fills in whatever order (for XEN2's law). -/
section
namespace Go.Proofs.YtlbjnkopbabcnaaGreatDoor
open Go.RowKit Go.Shelf
set_option linter.unusedSimpArgs false
set_option linter.unusedVariables false

/-- a fresh block, if it is made; filled, if it is filled -/
def Mk2 (B : Nat) (W : World) (dn fl : Bool) (v : Value) (x y : Int) : Prop :=
  (dn = true → ∃ g a b, v = .pointer (some ⟨g, 0, none⟩) ∧ B ≤ g ∧ Cs W g #[a, b] ∧ (fl = true → a = .int .i64 x ∧ b = .int .i64 y)) ∧ (dn = false → fl = false)
variable {B : Nat} {W W' : World} {dn fl : Bool} {v : Value} {x y : Int} {g : Nat}
theorem Mk2.no (h1 : dn = false) (h2 : fl = false) : Mk2 B W dn fl v x y := ⟨fun h => Bool.noConfusion (h1.symm.trans h), fun _ => h2⟩
theorem Mk2.below (h : Mk2 B W dn fl v x y) (hb : Below W.heap.size W W') : Mk2 B W' dn fl v x y :=
  ⟨fun hd => by obtain ⟨g, a, b, e1, e2, e3, e4⟩ := h.1 hd; exact ⟨g, a, b, e1, e2, e3.keep hb, e4⟩, h.2⟩
theorem Mk2.alloc (h : Mk2 B W dn fl v x y) (o : Obj) : Mk2 B (W.alloc o) dn fl v x y := h.below (balloc (Below.refl _ _) o)
theorem Mk2.new {a b : Value} {t : TypeId} (h : Mk2 B W dn fl v x y) (hd : dn = false) (hB : B ≤ W.heap.size) : Mk2 B (W.alloc (.cells #[a, b] t)) true fl (.pointer (some ⟨W.heap.size, 0, none⟩)) x y :=
  ⟨fun _ => ⟨W.heap.size, a, b, rfl, hB, Cs.new W _ _ _ rfl, fun hf => by rw [h.2 hd] at hf; cases hf⟩, fun h => by cases h⟩
theorem Mk2.ne (h : Mk2 B W dn fl v x y) (hd : dn = true) : v ≠ .pointer (some ⟨W.heap.size, 0, none⟩) := by
  obtain ⟨g, a, b, rfl, -, e3, -⟩ := h.1 hd
  intro e
  injection e with e; injection e with e; injection e with e
  have := e3.lt; omega
theorem Mk2.set (h : Mk2 B W dn fl (.pointer (some ⟨g, 0, none⟩)) x y) (hd : dn = true) : Mk2 B ((W.setCell ⟨g, 0, none⟩ (.int .i64 x)).setCell ⟨g, 1, none⟩ (.int .i64 y)) dn true (.pointer (some ⟨g, 0, none⟩)) x y := by
  refine ⟨fun _ => ?_, fun h => by rw [hd] at h; cases h⟩
  obtain ⟨g', a, b, e1, e2, e3, e4⟩ := h.1 hd
  injection e1 with e1; injection e1 with e1; injection e1 with e1
  subst e1
  exact ⟨g, _, _, rfl, e2, e3.set2 _ _, fun _ => ⟨rfl, rfl⟩⟩
theorem Mk2.other {p q : Value} (h : Mk2 B W dn fl v x y) (hne : dn = true → v ≠ .pointer (some ⟨g, 0, none⟩)) : Mk2 B ((W.setCell ⟨g, 0, none⟩ p).setCell ⟨g, 1, none⟩ q) dn fl v x y :=
  ⟨fun hd => by
    obtain ⟨g', a, b, e1, e2, e3, e4⟩ := h.1 hd
    exact ⟨g', a, b, e1, e2, e3.other2 (fun e => hne hd (by rw [e1, e])) _ _, e4⟩, h.2⟩
theorem Mk2.drew (h : Mk2 B W dn fl v x y) : Mk2 B W.drew dn fl v x y := h
/-- all of it: made and filled -/
theorem Mk2.out (h : Mk2 B W dn fl v x y) (h1 : dn = true) (h2 : fl = true) : ∃ g, v = .pointer (some ⟨g, 0, none⟩) ∧ B ≤ g ∧ Cs W g #[.int .i64 x, .int .i64 y] := by
  obtain ⟨g, a, b, e1, e2, e3, e4⟩ := h.1 h1
  obtain ⟨rfl, rfl⟩ := e4 h2
  exact ⟨g, e1, e2, e3⟩
/-- made: what a store wants -/
theorem Mk2.at_ (h : Mk2 B W dn fl v x y) (h1 : dn = true) : ∃ g a b, v = .pointer (some ⟨g, 0, none⟩) ∧ B ≤ g ∧ Cs W g #[a, b] := by
  obtain ⟨g, a, b, e1, e2, e3, e4⟩ := h.1 h1
  exact ⟨g, a, b, e1, e2, e3⟩
theorem len_four' {α : Type} {l : List α} (h : l.length = 4) : ∃ a b c d, l = [a, b, c, d] := by
  match l, h with
  | [a, b, c, d], _ => exact ⟨a, b, c, d, rfl⟩

end Go.Proofs.YtlbjnkopbabcnaaGreatDoor
end

/- A range over a function whose iterator has blocks of its own and yields a known list: the caller's law. -/
section
namespace Go.Proofs.YtlbjnkopbabcnaaGreatDoor
open Go.RowKit Go.Shelf
set_option linter.unusedSimpArgs false
set_option linter.unusedVariables false

/-- a step that turns blocks of O alone, and lays new ones -/
structure Turns (O : Nat → Prop) (W W' : World) : Prop where
  os : W'.os = W.os
  tape : W'.tape = W.tape
  output : W'.output = W.output
  size : W.heap.size ≤ W'.heap.size
  block : ∀ i, i < W.heap.size → ¬ O i → W'.heap[i]? = W.heap[i]?

theorem Turns.of_below {O : Nat → Prop} {W W' : World} (h : Below W.heap.size W W') : Turns O W W' := ⟨h.os, h.tape, h.output, h.size, fun i hi _ => h.block i hi⟩
theorem Turns.refl (O : Nat → Prop) (W : World) : Turns O W W := ⟨rfl, rfl, rfl, Nat.le_refl _, fun _ _ _ => rfl⟩
theorem Turns.trans {O : Nat → Prop} {A B C : World} (h : Turns O A B) (k : Turns O B C) : Turns O A C :=
  ⟨k.os.trans h.os, k.tape.trans h.tape, k.output.trans h.output, Nat.le_trans h.size k.size, fun i hi ho => (k.block i (Nat.lt_of_lt_of_le hi h.size) ho).trans (h.block i hi ho)⟩
theorem Turns.mono {O O' : Nat → Prop} {W W' : World} (h : Turns O W W') (hO : ∀ i, O i → O' i) : Turns O' W W' := ⟨h.os, h.tape, h.output, h.size, fun i hi ho => h.block i hi (fun k => ho (hO i k))⟩
theorem Turns.putObj {O : Nat → Prop} {W : World} {l : Nat} (o : Obj) (hl : O l) : Turns O W (W.putObj l o) :=
  ⟨rfl, rfl, rfl, by simp, fun i _ ho => World.putObj_heap_other (fun e => ho (e ▸ hl))⟩
theorem Turns.setCell {O : Nat → Prop} {W : World} {p : Addr} (v : Value) (hp : O p.block) : Turns O W (W.setCell p v) :=
  ⟨rfl, rfl, rfl, by simp [World.setCell], fun i _ ho => Below.heap_setCell W p v i (fun e => ho (e ▸ hp))⟩
theorem Turns.below {O : Nat → Prop} {B : Nat} {A W W' : World} (h : Below B A W) (k : Turns O W W') (hO : ∀ i, O i → B ≤ i) (hB : B ≤ W.heap.size) : Below B A W' :=
  h.trans ⟨k.os, k.tape, k.output, k.size, fun i hi => k.block i (by omega) (fun ho => by have := hO i ho; omega)⟩

/-- what is said abides such steps -/
def Bears {β : Type} (O : Nat → Prop) (J : β → World → Prop) : Prop := ∀ s W W', J s W → Turns O W W' → J s W'

/-- the two blocks of a loop over a function are as they were -/
def Keeps2 (b : Nat) (W W' : World) : Prop := W.heap.size ≤ W'.heap.size ∧ W'.heap[b]? = W.heap[b]? ∧ W'.heap[b + 1]? = W.heap[b + 1]?
theorem Keeps2.of_turns {O : Nat → Prop} {b : Nat} {W W' : World} (h : Turns O W W') (h0 : ¬ O b) (h1 : ¬ O (b + 1)) (hb : b + 2 ≤ W.heap.size) : Keeps2 b W W' :=
  ⟨h.size, h.block _ (by omega) h0, h.block _ (by omega) h1⟩

/-- a function value yields the list xs0, one by one; it turns blocks of O alone (O's first number: the heap's size at its call) and lays new ones; behind all of it Fin holds -/
def SeqList {α : Type} (F : Fence) (n : Nat) (P : Program) (g : Nat) (lb : Array Value) (encs : α → Array Value) (O : Nat → Nat → Prop) (Kp : Nat → World → World → Prop) (xs0 : List α) (Fin : World → Prop) (w : World) : Prop :=
  ∀ (l : Nat) (J Jx : List α → World → Prop) (W : World), Below w.heap.size w W → Bears (O W.heap.size) J → Bears (O W.heap.size) Jx →
    (∀ pre x W1, (pre ++ [x]) <+: xs0 → J pre W1 → YieldAt F (n - 1) P l (encs x) W1 fun e W' =>
      (e = .returned (.bool true) ∧ J (pre ++ [x]) W' ∧ Kp W.heap.size W1 W') ∨ (e = .returned (.bool false) ∧ Jx (pre ++ [x]) W')) →
    J [] W →
    CallsIn F n P g (#[.func (.yield l) #[] #[]] ++ lb) W fun e W' => (∃ v, e = .returned v) ∧ ((Fin W' ∧ J xs0 W') ∨ (∃ pre, pre <+: xs0 ∧ Jx pre W'))

/-- how the body of a round may be left -/
def postRound {α : Type} (b : Nat) (Kp : World → World → Prop) (I : List α → World → Prop) (Ix : Code → List α → World → Prop) (xs : List α) (W : World) : Exit → Act → World → Prop
  | .normal, _, W' => Keeps2 b W W' ∧ Kp W W' ∧ I xs W'
  | .ret, _, W' => Keeps2 b W W' ∧ Ix .ret xs W'
  | .exit id, _, W' => Keeps2 b W W' ∧ Ix (.exit id) xs W'
  | _, _, _ => False

variable {F : Fence} {n : Nat} {P : Program}

theorem wpIn_rangeList {α : Type} {g : Operand} {ps : Array Tmp} {assign body : Code} {Q : Exit → Act → World → Prop} {a : Act} {w : World}
    (hro : F.round = none) (h1 : 1 ≤ n) {gf : Nat} {lb : Array Value} (hg : a.eval g = .func (.func gf) #[] lb) (hFg : F.fn gf) (eg : ∀ args w, (callFunc gf args).run P w = .ok (.enter gf args) w)
    {encs : α → Array Value} {O : Nat → Nat → Prop} {Kp : Nat → World → World → Prop} {xs0 : List α} {Fin : World → Prop} {w0 : World} (hseq : SeqList F (n - 1) P gf lb encs O Kp xs0 Fin w0)
    (hO : ∀ i, O (w.heap.size + 2) i → i ≠ w.heap.size ∧ i ≠ w.heap.size + 1) (hKt : ∀ {A B C : World}, Kp (w.heap.size + 2) A B → Kp (w.heap.size + 2) B C → Kp (w.heap.size + 2) A C)
    (hKb : ∀ (W : World) (o' : Obj), Kp (w.heap.size + 2) W (W.putObj (w.heap.size + 1) o')) (hFin : ∀ (W : World) (o' : Obj), Fin W → Fin (W.putObj (w.heap.size + 1) o'))
    (hb0 : Below w0.heap.size w0 w) (hps : ∀ x, (encs x).size = ps.size)
    (I : List α → World → Prop) (Ix : Code → List α → World → Prop) (hI : Bears (fun i => O (w.heap.size + 2) i ∨ i = w.heap.size + 1) I) (hIx : ∀ c, Bears (fun i => O (w.heap.size + 2) i ∨ i = w.heap.size + 1) (Ix c)) (h0 : I [] w)
    (Ax : List α → α → Act → World → Prop) (hAx : ∀ (pre : List α) (x : α) (a' : Act) (W : World) (o' : Obj), Ax pre x a' W → Ax pre x a' (W.putObj (w.heap.size + 1) o'))
    (hassign : ∀ (l : Nat) (pre : List α) (x : α) (W : World) (K : Act → World → Prop), (pre ++ [x]) <+: xs0 → I pre W → w.heap.size + 2 ≤ W.heap.size →
      (∀ a' W1, Keeps2 w.heap.size W W1 → Kp (w.heap.size + 2) W W1 → Ax pre x a' W1 → K a' W1) →
      assign.wpIn (F.inRound l) (n - 1 - 1) P (Exit.then K (fun _ _ _ => False)) { tmps := (ps.zip (encs x)).foldl (fun t (p, v) => t.setIfInBounds p v) a.tmps, defers := [] } W)
    (hbody : ∀ (l : Nat) (pre : List α) (x : α) (a' : Act) (W : World), (pre ++ [x]) <+: xs0 → Ax pre x a' W → w.heap.size + 2 ≤ W.heap.size →
      body.wpIn (F.inRound l) (n - 1 - 1) P (postRound w.heap.size (Kp (w.heap.size + 2)) I Ix (pre ++ [x]) W) a' W)
    (hdone : ∀ (W : World), Fin W → I xs0 W → W.heap[w.heap.size]? = some (.deferred (some [])) → Q .normal { a with defers := { target := .collected w.heap.size, args := #[] } :: a.defers } W)
    (hstop : ∀ (c : Code) (pre : List α) (W : World), pre <+: xs0 → Ix c pre W → W.heap[w.heap.size]? = some (.deferred (some [])) → c.wpIn F n P Q { a with defers := { target := .collected w.heap.size, args := #[] } :: a.defers } W) :
    (Code.rangeFunc g ps assign body).wpIn F n P Q a w := by
  refine wpIn_rangeFunc fun fn hfn => ?_
  rw [hro]
  -- the loop's record in each of its states
  obtain ⟨rec, hrec⟩ : ∃ rec : LoopState → Option Code → Loop, rec = fun st pe => { state := st, pending := pe, fn, tmps := a.tmps, params := ps, assign, body, defers := w.heap.size } := ⟨_, rfl⟩
  obtain ⟨W1, hW1⟩ : ∃ W1, (w.alloc (.deferred (some []))).alloc (.loop (rec .ready none)) = W1 := ⟨_, rfl⟩
  have hsz : W1.heap.size = w.heap.size + 2 := by rw [← hW1]; simp
  have hloop : W1.heap[w.heap.size + 1]? = some (.loop (rec .ready none)) := by
    rw [← hW1]
    have := World.alloc_heap_new (w.alloc (.deferred (some []))) (.loop (rec .ready none))
    rwa [World.size_alloc] at this
  have hdef : W1.heap[w.heap.size]? = some (.deferred (some [])) := by
    rw [← hW1]; exact (Below.heap_alloc _ _ _ (by simp)).trans (World.alloc_heap_new w _)
  have hbw : Below w.heap.size w W1 := by rw [← hW1]; exact balloc (balloc (Below.refl _ _) _) _
  have hIW : I [] W1 := hI [] w W1 h0 (Turns.of_below hbw)
  have rec_put : ∀ (W : World) (o : Obj), w.heap.size + 1 < W.heap.size → (W.putObj (w.heap.size + 1) o).heap[w.heap.size + 1]? = some o := fun W o h => World.putObj_heap_same h
  have def_put : ∀ (W : World) (o : Obj), (W.putObj (w.heap.size + 1) o).heap[w.heap.size]? = W.heap[w.heap.size]? := fun W o => World.putObj_heap_other (by omega)
  have I_put : ∀ s (W : World) (o : Obj), I s W → I s (W.putObj (w.heap.size + 1) o) := fun s W o h => hI s W _ h (Turns.putObj o (.inr rfl))
  have Ix_put : ∀ c s (W : World) (o : Obj), Ix c s W → Ix c s (W.putObj (w.heap.size + 1) o) := fun c s W o h => hIx c s W _ h (Turns.putObj o (.inr rfl))
  have hO' : ∀ i, O W1.heap.size i → i ≠ w.heap.size ∧ i ≠ w.heap.size + 1 := fun i hi => hO i (hsz ▸ hi)
  refine ⟨w.heap.size + 1, [{ target := .collected w.heap.size, args := #[] }], W1, { target := .fn (.func gf) lb, args := #[.func (.yield (w.heap.size + 1)) #[] #[]] }, W1, gf,
    #[.func (.yield (w.heap.size + 1)) #[] #[]] ++ lb, W1, ?_, ?_, ?_, ?_, fun _ => h1, ?_⟩
  · rw [← hW1, hrec]; exact run_enterLoop_outer _ _ _ _ _
  · simp only [resolve, hg]
    simp [go_sem]
  · intro f' hf'; simp [Target.leads] at hf'; subst hf'; exact hFg
  · simp [invoke, go_sem, eg]
  · have hcall := hseq (w.heap.size + 1)
      (fun pre W => I pre W ∧ W.heap[w.heap.size + 1]? = some (.loop (rec .ready none)) ∧ W.heap[w.heap.size]? = some (.deferred (some [])))
      (fun pre W => ∃ c, Ix c pre W ∧ W.heap[w.heap.size + 1]? = some (.loop (rec .done (some c))) ∧ W.heap[w.heap.size]? = some (.deferred (some [])))
      W1 (hb0.trans (hbw.mono hb0.size))
      (fun s A B hs ht => by
        have hlt : w.heap.size + 1 < A.heap.size := (Array.getElem?_eq_some_iff.1 hs.2.1).1
        exact ⟨hI s A B hs.1 (ht.mono fun i hi => .inl (hsz ▸ hi)), (ht.block _ hlt (fun ho => (hO' _ ho).2 rfl)).trans hs.2.1, (ht.block _ (by omega) (fun ho => (hO' _ ho).1 rfl)).trans hs.2.2⟩)
      (fun s A B hs ht => by
        obtain ⟨c, hc, hl, hk⟩ := hs
        have hlt : w.heap.size + 1 < A.heap.size := (Array.getElem?_eq_some_iff.1 hl).1
        exact ⟨c, hIx c s A B hc (ht.mono fun i hi => .inl (hsz ▸ hi)), (ht.block _ hlt (fun ho => (hO' _ ho).2 rfl)).trans hl, (ht.block _ (by omega) (fun ho => (hO' _ ho).1 rfl)).trans hk⟩)
      ?_ ⟨hIW, hloop, hdef⟩
    · refine hcall.mono ?_
      rintro e W2 ⟨⟨v, rfl⟩, (⟨hF2, hi, hl, hk⟩ | ⟨pre, hpre, c, hi, hl, hk⟩)⟩
      · refine ⟨none, _, by have := run_endLoop (P := P) hl (by rw [hrec]; simp); rw [hrec] at this; exact this, ?_⟩
        exact hdone _ (hFin _ _ hF2) (I_put _ _ _ hi) ((def_put _ _).trans hk)
      · refine ⟨some c, _, by have := run_endLoop (P := P) hl (by rw [hrec]; simp); rw [hrec] at this; exact this, ?_⟩
        exact hstop c pre _ hpre (Ix_put _ _ _ _ hi) ((def_put _ _).trans hk)
    · rintro pre x W hpx ⟨hi, hl, hk⟩
      have hlt : w.heap.size + 1 < W.heap.size := (Array.getElem?_eq_some_iff.1 hl).1
      have hy := run_yield (P := P) (args := encs x) hl (by rw [hrec]; exact hps x)
      rw [hrec] at hy
      refine ⟨fn, _, assign, body, hy, roundIn_of_wpIn hfn (hassign _ pre x W _ hpx hi (by omega) ?_)⟩
      intro a' Wa hka hkpa hax
      have hla : Wa.heap[w.heap.size + 1]? = some (.loop (rec .ready none)) := hka.2.2.trans hl
      have hka' : Wa.heap[w.heap.size]? = some (.deferred (some [])) := hka.2.1.trans hk
      have hlta : w.heap.size + 1 < Wa.heap.size := by have := hka.1; omega
      refine ⟨_, run_beginRound hla (by rw [hrec]), ?_⟩
      have hl2 := rec_put Wa (.loop { rec .ready none with state := .busy }) hlta
      have hk2 := (def_put Wa (.loop { rec .ready none with state := .busy })).trans hka'
      have hkp2 : Kp (w.heap.size + 2) W (Wa.putObj (w.heap.size + 1) (.loop { rec .ready none with state := .busy })) := hKt hkpa (hKb _ _)
      refine wpIn_mono (hbody _ pre x a' _ hpx (hAx _ _ _ _ _ hax) (by simp; omega)) ?_
      have fin : ∀ (jump : Option Code) (W3 : World), Keeps2 w.heap.size (Wa.putObj (w.heap.size + 1) (.loop { rec .ready none with state := .busy })) W3 →
          (Instr.endRound (w.heap.size + 1) jump).run P W3 = .ok (.bool jump.isNone) (W3.putObj (w.heap.size + 1) (.loop (rec (if jump.isNone then .ready else .done) jump))) ∧
          (W3.putObj (w.heap.size + 1) (.loop (rec (if jump.isNone then .ready else .done) jump))).heap[w.heap.size + 1]? = some (.loop (rec (if jump.isNone then .ready else .done) jump)) ∧
          (W3.putObj (w.heap.size + 1) (.loop (rec (if jump.isNone then .ready else .done) jump))).heap[w.heap.size]? = some (.deferred (some [])) := fun jump W3 hk3 => by
        have hl3 := hk3.2.2.trans hl2
        have hr := run_endRound (P := P) jump hl3
        rw [hrec] at hr ⊢
        exact ⟨hr, rec_put _ _ (Array.getElem?_eq_some_iff.1 hl3).1, (def_put _ _).trans (hk3.2.1.trans hk2)⟩
      rintro e a3 W3 hp
      cases e with
      | normal =>
        obtain ⟨hk3, hkp3, hi3⟩ := hp
        obtain ⟨hr, hl4, hk4⟩ := fin none W3 hk3
        exact ⟨_, _, hr, .inl ⟨rfl, ⟨I_put _ _ _ hi3, hl4, hk4⟩, by rw [hsz]; exact hKt (hKt hkp2 hkp3) (hKb _ _)⟩⟩
      | ret =>
        obtain ⟨hk3, hi3⟩ := hp
        obtain ⟨hr, hl4, hk4⟩ := fin (some .ret) W3 hk3
        exact ⟨_, _, hr, .inr ⟨rfl, .ret, Ix_put _ _ _ _ hi3, hl4, hk4⟩⟩
      | exit id =>
        obtain ⟨hk3, hi3⟩ := hp
        obtain ⟨hr, hl4, hk4⟩ := fin (some (.exit id)) W3 hk3
        exact ⟨_, _, hr, .inr ⟨rfl, .exit id, Ix_put _ _ _ _ hi3, hl4, hk4⟩⟩
      | goto t => exact hp.elim
      | panic ch => exact hp.elim
      | outgrown => exact hp.elim

end Go.Proofs.YtlbjnkopbabcnaaGreatDoor
end
