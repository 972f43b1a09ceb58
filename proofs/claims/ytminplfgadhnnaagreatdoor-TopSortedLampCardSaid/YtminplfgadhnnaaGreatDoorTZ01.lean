/- ZM1 ZM2 -/
import Derived.Test.YtminplfgadhnnaaGreatDoorTB01
/- Plain laws of zones: numbers that flow from place to place, round by round, until none changes. -/
section
namespace Go.Proofs.YtminplfgadhnnaaGreatDoor
namespace Zm
set_option linter.unusedSimpArgs false
set_option linter.unusedVariables false

/-- between place k - 1 and place k numbers flow down (from k to k - 1), or up -/
def stp (d : Nat → Bool) (k : Nat) (f : Nat → Int) : Nat → Int :=
  if d k then fun i => if i = k - 1 then max (f (k - 1)) (f k) else f i else fun i => if i = k then max (f k) (f (k - 1)) else f i
/-- the steps 1 to k -/
def swp (d : Nat → Bool) : Nat → (Nat → Int) → Nat → Int
  | 0, f => f
  | k + 1, f => stp d (k + 1) (swp d k f)
/-- rounds of all steps of n places -/
def rnd (d : Nat → Bool) (n : Nat) : Nat → (Nat → Int) → Nat → Int
  | 0, f => f
  | r + 1, f => swp d (n - 1) (rnd d n r f)

theorem stp_ge (d : Nat → Bool) (k : Nat) (f : Nat → Int) (i : Nat) : f i ≤ stp d k f i := by
  unfold stp
  split
  · by_cases h : i = k - 1
    · simp only [h, if_true]; omega
    · simp only [h, if_false]; omega
  · by_cases h : i = k
    · simp only [h, if_true]; omega
    · simp only [h, if_false]; omega
theorem swp_ge (d : Nat → Bool) : ∀ (k : Nat) (f : Nat → Int) (i : Nat), f i ≤ swp d k f i
  | 0, f, i => Int.le_refl _
  | k + 1, f, i => Int.le_trans (swp_ge d k f i) (stp_ge d (k + 1) _ i)
theorem rnd_ge (d : Nat → Bool) (n : Nat) : ∀ (r : Nat) (f : Nat → Int) (i : Nat), f i ≤ rnd d n r f i
  | 0, f, i => Int.le_refl _
  | r + 1, f, i => Int.le_trans (rnd_ge d n r f i) (swp_ge d _ _ i)
/-- numbers flow from one place to another one -/
def flow (d : Nat → Bool) (i k : Nat) : Prop := (k = i + 1 ∧ d k = false) ∨ (i = k + 1 ∧ d i = true)
theorem stp_flow {d : Nat → Bool} {i k e : Nat} (h : flow d i k) (he : e = max i k) (f : Nat → Int) : f i ≤ stp d e f k := by
  subst he
  unfold stp
  rcases h with ⟨rfl, h⟩ | ⟨rfl, h⟩
  · rw [show max i (i + 1) = i + 1 by omega, h]
    simp; omega
  · rw [show max (k + 1) k = k + 1 by omega, h]
    simp; omega
theorem swp_flow {d : Nat → Bool} {i k : Nat} (h : flow d i k) : ∀ (e : Nat) (f : Nat → Int), max i k ≤ e → f i ≤ swp d e f k
  | 0, f, he => by rcases h with ⟨h, _⟩ | ⟨h, _⟩ <;> omega
  | e + 1, f, he => by
    by_cases h1 : max i k ≤ e
    · exact Int.le_trans (swp_flow h e f h1) (stp_ge d _ _ _)
    · exact Int.le_trans (swp_ge d e f i) (stp_flow h (by omega) _)
/-- a way on which numbers flow, one way all along -/
def way (d : Nat → Bool) (j k : Nat) : Prop := (j ≤ k ∧ ∀ i, j < i → i ≤ k → d i = false) ∨ (k ≤ j ∧ ∀ i, k < i → i ≤ j → d i = true)
theorem way_self (d : Nat → Bool) (j : Nat) : way d j j := .inl ⟨Nat.le_refl _, fun i h1 h2 => by omega⟩
theorem way_flow {d : Nat → Bool} {j i k : Nat} (h : way d j i) (hf : flow d i k) : way d j k := by
  rcases hf with ⟨rfl, hd⟩ | ⟨rfl, hd⟩
  · rcases h with ⟨hj, h⟩ | ⟨hj, h⟩
    · exact .inl ⟨by omega, fun q h1 h2 => by
        by_cases e : q = i + 1
        · rw [e]; exact hd
        · exact h q h1 (by omega)⟩
    · by_cases e : j = i
      · subst e
        exact .inl ⟨by omega, fun q h1 h2 => by rw [show q = j + 1 by omega]; exact hd⟩
      · rw [h (i + 1) (by omega) (by omega)] at hd; cases hd
  · rcases h with ⟨hj, h⟩ | ⟨hj, h⟩
    · by_cases e : j = k + 1
      · subst e
        exact .inr ⟨by omega, fun q h1 h2 => by rw [show q = k + 1 by omega]; exact hd⟩
      · rw [h (k + 1) (by omega) (by omega)] at hd; cases hd
    · exact .inr ⟨by omega, fun q h1 h2 => by
        by_cases e : q = k + 1
        · rw [e]; exact hd
        · exact h q (by omega) h2⟩
/-- each number is one of the first ones, from where it flowed -/
def From (d : Nat → Bool) (n : Nat) (f g : Nat → Int) : Prop := ∀ k, k < n → ∃ j, j < n ∧ way d j k ∧ g k = f j
theorem from_stp {d : Nat → Bool} {n : Nat} {f g : Nat → Int} (h : From d n f g) {k : Nat} (h1 : 1 ≤ k) (hk : k < n) : From d n f (stp d k g) := by
  intro i hi
  unfold stp
  cases hd : d k with
  | true =>
    rw [if_pos rfl]
    by_cases e : i = k - 1
    · simp only [e, if_true]
      rcases (show max (g (k - 1)) (g k) = g (k - 1) ∨ max (g (k - 1)) (g k) = g k by omega) with h2 | h2
      · rw [h2]; exact h (k - 1) (by omega)
      · rw [h2]
        obtain ⟨j, hj, hw, hg⟩ := h k hk
        exact ⟨j, hj, way_flow hw (.inr ⟨by omega, hd⟩), hg⟩
    · simp only [e, if_false]; exact h i hi
  | false =>
    rw [if_neg (by decide)]
    by_cases e : i = k
    · simp only [e, if_true]
      rcases (show max (g k) (g (k - 1)) = g k ∨ max (g k) (g (k - 1)) = g (k - 1) by omega) with h2 | h2
      · rw [h2]; exact h k hk
      · rw [h2]
        obtain ⟨j, hj, hw, hg⟩ := h (k - 1) (by omega)
        exact ⟨j, hj, way_flow hw (.inl ⟨by omega, hd⟩), hg⟩
    · simp only [e, if_false]; exact h i hi
theorem from_swp {d : Nat → Bool} {n : Nat} {f g : Nat → Int} (h : From d n f g) : ∀ k, k < n → From d n f (swp d k g)
  | 0, _ => h
  | k + 1, hk => from_stp (from_swp h k (by omega)) (by omega) hk
theorem from_rnd {d : Nat → Bool} {n : Nat} {f : Nat → Int} (hn : 0 < n) : ∀ r, From d n f (rnd d n r f)
  | 0 => fun k hk => ⟨k, hk, way_self d k, rfl⟩
  | r + 1 => from_swp (from_rnd hn r) (n - 1) (by omega)
/-- after r rounds each number has come r places far -/
theorem rnd_way {d : Nat → Bool} {n : Nat} {f : Nat → Int} : ∀ (r j k : Nat), j < n → k < n → way d j k → j ≤ k + r → k ≤ j + r → f j ≤ rnd d n r f k
  | 0, j, k, hj, hk, hw, h1, h2 => by
    obtain rfl : j = k := by omega
    exact Int.le_refl _
  | r + 1, j, k, hj, hk, hw, h1, h2 => by
    by_cases e : j = k
    · subst e; exact rnd_ge d n _ f j
    · rcases hw with ⟨hl, hw⟩ | ⟨hl, hw⟩
      · have ih := rnd_way (d := d) (n := n) (f := f) r j (k - 1) hj (by omega) (.inl ⟨by omega, fun q a b => hw q a (by omega)⟩) (by omega) (by omega)
        exact Int.le_trans ih (swp_flow (.inl ⟨by omega, hw k (by omega) (Nat.le_refl _)⟩) (n - 1) _ (by omega))
      · have ih := rnd_way (d := d) (n := n) (f := f) r j (k + 1) hj (by omega) (.inr ⟨by omega, fun q a b => hw q (by omega) b⟩) (by omega) (by omega)
        exact Int.le_trans ih (swp_flow (.inr ⟨rfl, hw (k + 1) (by omega) (by omega)⟩) (n - 1) _ (by omega))
/-- after as many rounds as there are places no number flows any more -/
theorem rnd_fix {d : Nat → Bool} {n : Nat} {f : Nat → Int} {i k : Nat} (hi : i < n) (hk : k < n) (h : flow d i k) : rnd d n n f i ≤ rnd d n n f k := by
  obtain ⟨j, hj, hw, hg⟩ := from_rnd (d := d) (f := f) (show 0 < n by omega) n i hi
  rw [hg]
  exact rnd_way n j k hj hk (way_flow hw h) (by omega) (by omega)

end Zm
end Go.Proofs.YtminplfgadhnnaaGreatDoor
end

/- Plain laws of zones: lamps, lanterns, the reference's bounds, the bounds that are drawn in. -/
section
namespace Go.Proofs.YtminplfgadhnnaaGreatDoor
namespace Zm
set_option linter.unusedSimpArgs false
set_option linter.unusedVariables false

/-- where an angle lies, counted from the first one -/
def aN (an : List Int) (i : Nat) : Nat := (an.getD i 0 - an.getD 0 0).toNat
/-- angles that only grow, up to 90 -/
def incB : Int → List Int → Bool
  | _, [] => true
  | p, a :: l => decide (p < a) && (decide (a ≤ 90) && incB a l)
def rgZ (m : Int) (x : Int × Int) : Bool := decide (0 ≤ x.1) && (decide (x.1 ≤ x.2) && decide (x.2 ≤ m))
def wtZ (x : Int) : Bool := decide (0 ≤ x) && decide (x ≤ 1000)
/-- which lamps are valid -/
def chkZ (an : List Int) (ls : List (Int × Int)) (fs : List Bool) (ws : List Int) : Int :=
  if an.length < 2 ∨ 10 < an.length then 6 else if incB (-1) an = false then 2
  else if ls.length ≠ an.length ∨ fs.length + 1 ≠ an.length ∨ (ws.length : Int) ≠ an.getD (an.length - 1) 0 - an.getD 0 0 + 1 then 15
  else if ls.all (rgZ 200) = false ∨ ws.all wtZ = false then 2 else 0

structure LampOk (an : List Int) (ls : List (Int × Int)) (fs : List Bool) (ws : List Int) : Prop where
  n2 : 2 ≤ an.length
  n10 : an.length ≤ 10
  bd : ∀ i, i < an.length → 0 ≤ an.getD i 0 ∧ an.getD i 0 ≤ 90
  inc : ∀ i, i + 1 < an.length → an.getD i 0 < an.getD (i + 1) 0
  lsl : ls.length = an.length
  fsl : fs.length + 1 = an.length
  wsl : ws.length = aN an (an.length - 1) + 1
  lsb : ∀ i, i < an.length → 0 ≤ (ls.getD i (0, 0)).1 ∧ (ls.getD i (0, 0)).1 ≤ (ls.getD i (0, 0)).2 ∧ (ls.getD i (0, 0)).2 ≤ 200
  wsb : ∀ k, k < ws.length → 0 ≤ ws.getD k 0 ∧ ws.getD k 0 ≤ 1000

theorem inc_ok : ∀ (p : Int) (l : List Int), incB p l = true → ∀ i, i < l.length → p < l.getD i 0 ∧ l.getD i 0 ≤ 90 ∧ (i + 1 < l.length → l.getD i 0 < l.getD (i + 1) 0)
  | p, [], h, i, hi => by simp at hi
  | p, a :: l, h, 0, hi => by
    simp only [incB, Bool.and_eq_true, decide_eq_true_eq] at h
    refine ⟨by simpa using h.1, by simpa using h.2.1, fun h1 => ?_⟩
    have := (inc_ok a l h.2.2 0 (by simpa using h1)).1
    simpa using this
  | p, a :: l, h, i + 1, hi => by
    simp only [incB, Bool.and_eq_true, decide_eq_true_eq] at h
    obtain ⟨h1, h2, h3⟩ := inc_ok a l h.2.2 i (by simpa using hi)
    refine ⟨by have : a < l.getD i 0 := h1; show p < (a :: l).getD (i + 1) 0; rw [List.getD_cons_succ]; omega, by rw [List.getD_cons_succ]; exact h2, fun h4 => ?_⟩
    rw [List.getD_cons_succ, List.getD_cons_succ]
    exact h3 (by simpa using h4)
theorem inc_mono {an : List Int} (h : ∀ i, i + 1 < an.length → an.getD i 0 < an.getD (i + 1) 0) : ∀ (k i : Nat), i ≤ k → k < an.length → an.getD i 0 + ((k - i : Nat) : Int) ≤ an.getD k 0
  | 0, i, hi, hk => by obtain rfl : i = 0 := by omega
                       simp
  | k + 1, i, hi, hk => by
    by_cases e : i = k + 1
    · subst e; simp
    · have h1 := inc_mono h k i (by omega) (by omega)
      have h2 := h k hk
      omega
section
variable {an : List Int} {ls : List (Int × Int)} {fs : List Bool} {ws : List Int}
theorem chk_lamp (h : chkZ an ls fs ws = 0) : LampOk an ls fs ws := by
  unfold chkZ at h
  split at h
  · cases h
  rename_i h1
  split at h
  · cases h
  rename_i h2
  split at h
  · cases h
  rename_i h3
  split at h
  · cases h
  rename_i h4
  have hi : incB (-1) an = true := by simpa using h2
  have hk := inc_ok (-1) an hi
  have hinc : ∀ i, i + 1 < an.length → an.getD i 0 < an.getD (i + 1) 0 := fun i hi => (hk i (by omega)).2.2 hi
  have hm := inc_mono hinc (an.length - 1) 0 (by omega) (by omega)
  refine ⟨by omega, by omega, fun i hi => ⟨by have := (hk i hi).1; omega, (hk i hi).2.1⟩, hinc, by omega, by omega, by unfold aN; omega, fun i hi => ?_, fun k hk => ?_⟩
  · have hall : ls.all (rgZ 200) = true := by
      cases e : ls.all (rgZ 200) with
      | true => rfl
      | false => exact absurd (.inl e) h4
    have hi' : i < ls.length := by omega
    have := List.all_eq_true.1 hall ls[i] (List.getElem_mem _)
    rw [List.getD_eq_getElem?_getD, List.getElem?_eq_getElem hi', Option.getD_some]
    simp [rgZ] at this
    omega
  · have hall : ws.all wtZ = true := by
      cases e : ws.all wtZ with
      | true => rfl
      | false => exact absurd (.inr e) h4
    have := List.all_eq_true.1 hall ws[k] (List.getElem_mem _)
    rw [List.getD_eq_getElem?_getD, List.getElem?_eq_getElem hk, Option.getD_some]
    simp [wtZ] at this
    omega

theorem LampOk.aN_lt (h : LampOk an ls fs ws) {i k : Nat} (hi : i < k) (hk : k < an.length) : aN an i < aN an k := by
  have h1 := inc_mono h.inc k i (by omega) hk
  have h2 := inc_mono h.inc i 0 (by omega) (by omega)
  unfold aN
  omega
theorem LampOk.aN_le (h : LampOk an ls fs ws) {i k : Nat} (hi : i ≤ k) (hk : k < an.length) : aN an i ≤ aN an k := by
  rcases Nat.lt_or_ge i k with h1 | h1
  · exact Nat.le_of_lt (h.aN_lt h1 hk)
  · obtain rfl : i = k := by omega
    exact Nat.le_refl _
theorem aN_zero (an : List Int) : aN an 0 = 0 := by unfold aN; omega
theorem LampOk.aN_int (h : LampOk an ls fs ws) {i : Nat} (hi : i < an.length) : an.getD i 0 = an.getD 0 0 + (aN an i : Nat) := by
  have := inc_mono h.inc i 0 (by omega) hi
  unfold aN; omega
theorem LampOk.aN_ws (h : LampOk an ls fs ws) {i : Nat} (hi : i < an.length) : aN an i < ws.length := by
  have := h.aN_le (show i ≤ an.length - 1 by omega) (by have := h.n2; omega)
  have := h.wsl
  omega
theorem LampOk.ws91 (h : LampOk an ls fs ws) : ws.length ≤ 91 ∧ 2 ≤ ws.length := by
  have h1 := h.wsl
  have h2 := h.bd (an.length - 1) (by have := h.n2; omega)
  have h3 := h.bd 0 (by have := h.n2; omega)
  have h4 := h.aN_lt (show 0 < an.length - 1 by have := h.n2; omega) (by have := h.n2; omega)
  unfold aN at h1 h4
  omega

/-- the gap in which a place lies: gaps are tried one after the other -/
def gapF (an : List Int) (k : Nat) : Nat → Nat → Nat
  | 0, i => i
  | f + 1, i => if aN an (i + 1) < k then gapF an k f (i + 1) else i
def gapN (an : List Int) (k : Nat) : Nat := gapF an k an.length 0
/-- whether the light falls to a place from the one before -/
def dF (an : List Int) (fs : List Bool) (k : Nat) : Bool := fs.getD (gapN an k) false
theorem gapF_eq (h : LampOk an ls fs ws) {i k : Nat} (hi : i + 1 < an.length) (h1 : aN an i < k) (h2 : k ≤ aN an (i + 1)) : ∀ f j, j ≤ i → i ≤ j + f → gapF an k f j = i
  | 0, j, hj, hf => by rw [gapF]; omega
  | f + 1, j, hj, hf => by
    rw [gapF]
    by_cases e : j = i
    · subst e; rw [if_neg (by omega)]
    · have := h.aN_le (show j + 1 ≤ i by omega) (by omega)
      rw [if_pos (by omega)]
      exact gapF_eq h hi h1 h2 f (j + 1) (by omega) (by omega)
theorem gapN_eq (h : LampOk an ls fs ws) {i k : Nat} (hi : i + 1 < an.length) (h1 : aN an i < k) (h2 : k ≤ aN an (i + 1)) : gapN an k = i :=
  gapF_eq h hi h1 h2 _ 0 (by omega) (by omega)
/-- each place but the first one lies in a gap -/
theorem gap_ex (h : LampOk an ls fs ws) {k : Nat} (h1 : 1 ≤ k) : ∀ m, m < an.length → k ≤ aN an m → ∃ i, i + 1 ≤ m ∧ aN an i < k ∧ k ≤ aN an (i + 1)
  | 0, hm, hk => by rw [aN_zero] at hk; omega
  | m + 1, hm, hk => by
    by_cases e : aN an m < k
    · exact ⟨m, by omega, e, hk⟩
    · obtain ⟨i, a, b⟩ := gap_ex h h1 m (by omega) (by omega)
      exact ⟨i, by omega, b⟩

/-- a lantern that is true for a lamp -/
def TrueL (an : List Int) (ls : List (Int × Int)) (fs : List Bool) (N : Nat) (x : Nat → Int) : Prop :=
  (∀ i, i < an.length → (ls.getD i (0, 0)).1 ≤ x (aN an i) ∧ x (aN an i) ≤ (ls.getD i (0, 0)).2) ∧ ∀ k, 1 ≤ k → k < N → if dF an fs k = true then x k ≤ x (k - 1) else x (k - 1) ≤ x k
/-- within a gap the light goes one way -/
theorem TrueL.gap (h : LampOk an ls fs ws) {x : Nat → Int} (hx : TrueL an ls fs ws.length x) {i : Nat} (hi : i + 1 < an.length) : ∀ (k j : Nat), aN an i ≤ j → j ≤ k → k ≤ aN an (i + 1) → if fs.getD i false = true then x k ≤ x j else x j ≤ x k
  | 0, j, h1, h2, h3 => by obtain rfl : j = 0 := by omega
                           split <;> exact Int.le_refl _
  | k + 1, j, h1, h2, h3 => by
    by_cases e : j = k + 1
    · subst e; split <;> exact Int.le_refl _
    · have ih := TrueL.gap h hx hi k j h1 (by omega) (by omega)
      have hs := hx.2 (k + 1) (by omega) (by have := h.aN_ws hi; omega)
      unfold dF at hs
      rw [gapN_eq h hi (by omega) h3] at hs
      cases hf : fs.getD i false with
      | true => rw [hf] at ih hs; simp at ih hs ⊢; omega
      | false => rw [hf] at ih hs; simp at ih hs ⊢; omega

/-- the reference's bounds -/
def ini (an : List Int) (g : Nat → Int) (o : Int) : Nat → Nat → Int
  | 0 => fun _ => o
  | m + 1 => fun k => if k = aN an m then g m else ini an g o m k
def loZ (an : List Int) (ls : List (Int × Int)) (fs : List Bool) (N : Nat) : Nat → Int := rnd (dF an fs) N N (ini an (fun i => (ls.getD i (0, 0)).1) 0 an.length)
def hiN (an : List Int) (ls : List (Int × Int)) (fs : List Bool) (N : Nat) : Nat → Int := rnd (fun k => !dF an fs k) N N (fun k => - ini an (fun i => (ls.getD i (0, 0)).2) 200 an.length k)
def hiZ (an : List Int) (ls : List (Int × Int)) (fs : List Bool) (N : Nat) (k : Nat) : Int := - hiN an ls fs N k
theorem ini_at (h : LampOk an ls fs ws) (g : Nat → Int) (o : Int) {i : Nat} : ∀ m, i < m → m ≤ an.length → ini an g o m (aN an i) = g i
  | m + 1, hi, hm => by
    rw [ini]
    by_cases e : i = m
    · subst e; simp
    · have := h.aN_lt (show i < m by omega) (by omega)
      simp only [show aN an i ≠ aN an m by omega, if_false]
      exact ini_at h g o m (by omega) (by omega)
theorem loZ_at (h : LampOk an ls fs ws) {i : Nat} (hi : i < an.length) : (ls.getD i (0, 0)).1 ≤ loZ an ls fs ws.length (aN an i) := by
  have := rnd_ge (dF an fs) ws.length ws.length (ini an (fun i => (ls.getD i (0, 0)).1) 0 an.length) (aN an i)
  rwa [ini_at h _ _ _ hi (Nat.le_refl _)] at this
theorem hiZ_at (h : LampOk an ls fs ws) {i : Nat} (hi : i < an.length) : hiZ an ls fs ws.length (aN an i) ≤ (ls.getD i (0, 0)).2 := by
  have := rnd_ge (fun k => !dF an fs k) ws.length ws.length (fun k => - ini an (fun i => (ls.getD i (0, 0)).2) 200 an.length k) (aN an i)
  rw [ini_at h _ _ _ hi (Nat.le_refl _)] at this
  unfold hiZ hiN
  omega
theorem loZ_fix {N k : Nat} (h1 : 1 ≤ k) (hk : k < N) : if dF an fs k = true then loZ an ls fs N k ≤ loZ an ls fs N (k - 1) else loZ an ls fs N (k - 1) ≤ loZ an ls fs N k := by
  unfold loZ
  cases hd : dF an fs k with
  | true => rw [if_pos rfl]; exact rnd_fix hk (by omega) (.inr ⟨by omega, hd⟩)
  | false => rw [if_neg (by decide)]; exact rnd_fix (by omega) hk (.inl ⟨by omega, hd⟩)
theorem hiZ_fix {N k : Nat} (h1 : 1 ≤ k) (hk : k < N) : if dF an fs k = true then hiZ an ls fs N k ≤ hiZ an ls fs N (k - 1) else hiZ an ls fs N (k - 1) ≤ hiZ an ls fs N k := by
  unfold hiZ hiN
  cases hd : dF an fs k with
  | true =>
    rw [if_pos rfl]
    have := rnd_fix (d := fun k => !dF an fs k) (f := fun k => - ini an (fun i => (ls.getD i (0, 0)).2) 200 an.length k) (show k - 1 < N by omega) hk (.inl ⟨by omega, by simp [hd]⟩)
    omega
  | false =>
    rw [if_neg (by decide)]
    have := rnd_fix (d := fun k => !dF an fs k) (f := fun k => - ini an (fun i => (ls.getD i (0, 0)).2) 200 an.length k) hk (show k - 1 < N by omega) (.inr ⟨by omega, by simp [hd]⟩)
    omega
/-- the reference finds a contradiction -/
def dbtZ (an : List Int) (ls : List (Int × Int)) (fs : List Bool) (N : Nat) : Bool := (List.range N).any fun k => decide (hiZ an ls fs N k < loZ an ls fs N k)
theorem dbt_no {N : Nat} (h : dbtZ an ls fs N = false) : ∀ k, k < N → loZ an ls fs N k ≤ hiZ an ls fs N k := by
  intro k hk
  unfold dbtZ at h
  rw [List.any_eq_false] at h
  have := h k (List.mem_range.2 hk)
  simp at this
  omega

/-- a number between two, by numbers -/
def pkZ (us : List Int) (k : Nat) (a b : Int) : Int := if us.length = 0 then a else a + us.getD (k % us.length) 0 % (b - a + 1)
theorem pkZ_in {us : List Int} {k : Nat} {a b : Int} (h : a ≤ b) : a ≤ pkZ us k a b ∧ pkZ us k a b ≤ b := by
  unfold pkZ
  split
  · omega
  · have h1 := Int.emod_nonneg (us.getD (k % us.length) 0) (show b - a + 1 ≠ 0 by omega)
    have h2 := Int.emod_lt_of_pos (us.getD (k % us.length) 0) (show 0 < b - a + 1 by omega)
    omega
/-- the lantern, by numbers -/
def lntZ (an : List Int) (ls : List (Int × Int)) (fs : List Bool) (us : List Int) (N : Nat) : Nat → Int
  | 0 => pkZ us 0 (loZ an ls fs N 0) (hiZ an ls fs N 0)
  | k + 1 => if dF an fs (k + 1) = true then pkZ us (k + 1) (loZ an ls fs N (k + 1)) (min (hiZ an ls fs N (k + 1)) (lntZ an ls fs us N k)) else pkZ us (k + 1) (max (loZ an ls fs N (k + 1)) (lntZ an ls fs us N k)) (hiZ an ls fs N (k + 1))
theorem lnt_in {us : List Int} {N : Nat} (h : dbtZ an ls fs N = false) : ∀ k, k < N → loZ an ls fs N k ≤ lntZ an ls fs us N k ∧ lntZ an ls fs us N k ≤ hiZ an ls fs N k ∧ (1 ≤ k → if dF an fs k = true then lntZ an ls fs us N k ≤ lntZ an ls fs us N (k - 1) else lntZ an ls fs us N (k - 1) ≤ lntZ an ls fs us N k)
  | 0, hk => by
    have := pkZ_in (us := us) (k := 0) (dbt_no h 0 hk)
    rw [lntZ]
    exact ⟨this.1, this.2, fun h => by omega⟩
  | k + 1, hk => by
    obtain ⟨i1, i2, -⟩ := lnt_in (us := us) h k (by omega)
    have f1 := loZ_fix (an := an) (ls := ls) (fs := fs) (show 1 ≤ k + 1 by omega) hk
    have f2 := hiZ_fix (an := an) (ls := ls) (fs := fs) (show 1 ≤ k + 1 by omega) hk
    have f3 := dbt_no h (k + 1) hk
    rw [Nat.add_sub_cancel] at *
    rw [lntZ]
    cases hd : dF an fs (k + 1) with
    | true =>
      rw [hd] at f1 f2
      simp only [if_true] at f1 f2 ⊢
      have := pkZ_in (us := us) (k := k + 1) (a := loZ an ls fs N (k + 1)) (b := min (hiZ an ls fs N (k + 1)) (lntZ an ls fs us N k)) (by omega)
      exact ⟨this.1, by omega, fun _ => by omega⟩
    | false =>
      rw [hd] at f1 f2
      simp only [Bool.false_eq_true, if_false] at f1 f2 ⊢
      have := pkZ_in (us := us) (k := k + 1) (a := max (loZ an ls fs N (k + 1)) (lntZ an ls fs us N k)) (b := hiZ an ls fs N (k + 1)) (by omega)
      exact ⟨by omega, this.2, fun _ => by omega⟩
/-- the lantern is true -/
theorem lnt_true {us : List Int} (h : LampOk an ls fs ws) (hd : dbtZ an ls fs ws.length = false) : TrueL an ls fs ws.length (lntZ an ls fs us ws.length) := by
  refine ⟨fun i hi => ?_, fun k h1 hk => (lnt_in hd k hk).2.2 h1⟩
  obtain ⟨a, b, -⟩ := lnt_in (us := us) hd _ (h.aN_ws hi)
  exact ⟨Int.le_trans (loZ_at h hi) a, Int.le_trans b (hiZ_at h hi)⟩

/-- a contradiction of two angles -/
def ctrB (ls : List (Int × Int)) (fs : List Bool) (i k : Nat) : Bool :=
  ((List.range (k - i)).all fun j => fs.getD (i + j) false == fs.getD i false) && (if fs.getD i false then decide ((ls.getD i (0, 0)).2 < (ls.getD k (0, 0)).1) else decide ((ls.getD k (0, 0)).2 < (ls.getD i (0, 0)).1))
theorem TrueL.chain (h : LampOk an ls fs ws) {x : Nat → Int} (hx : TrueL an ls fs ws.length x) {i : Nat} : ∀ m, i + m < an.length → (∀ j, j < m → fs.getD (i + j) false = fs.getD i false) → if fs.getD i false = true then x (aN an (i + m)) ≤ x (aN an i) else x (aN an i) ≤ x (aN an (i + m))
  | 0, _, _ => by split <;> exact Int.le_refl _
  | m + 1, hm, hs => by
    have ih := TrueL.chain h hx m (by omega) (fun j hj => hs j (by omega))
    have hg := TrueL.gap h hx (show i + m + 1 < an.length by omega) (aN an (i + m + 1)) (aN an (i + m)) (Nat.le_refl _) (h.aN_le (by omega) (by omega)) (Nat.le_refl _)
    rw [hs m (by omega)] at hg
    rw [← Nat.add_assoc]
    cases hf : fs.getD i false with
    | true => rw [hf] at ih hg; simp at ih hg ⊢; omega
    | false => rw [hf] at ih hg; simp at ih hg ⊢; omega
/-- where a lantern is true no angles contradict each other -/
theorem TrueL.no (h : LampOk an ls fs ws) {x : Nat → Int} (hx : TrueL an ls fs ws.length x) {i k : Nat} (hi : i < k) (hk : k < an.length) : ctrB ls fs i k = false := by
  cases hc : ctrB ls fs i k with
  | false => rfl
  | true =>
    unfold ctrB at hc
    rw [Bool.and_eq_true, List.all_eq_true] at hc
    have hch := TrueL.chain h hx (i := i) (k - i) (by omega) (fun j hj => by have := hc.1 j (List.mem_range.2 hj); simpa using this)
    rw [show i + (k - i) = k by omega] at hch
    have h1 := hx.1 i (by omega)
    have h2 := hx.1 k hk
    have h3 := hc.2
    generalize ls.getD i (0, 0) = u at h1 h3
    generalize ls.getD k (0, 0) = v at h2 h3
    cases hf : fs.getD i false with
    | true => rw [hf] at hch h3; simp at hch h3; omega
    | false => rw [hf] at hch h3; simp at hch h3; omega

/-- one gap draws the bounds of its angles in -/
def rlx (fs : List Bool) (i : Nat) (B : Nat → Int × Int) : Nat → Int × Int :=
  let h := if fs.getD i false then i else i + 1
  let l := if fs.getD i false then i + 1 else i
  fun j => if j = l then ((B l).1, min (B l).2 (B h).2) else if j = h then (max (B h).1 (B l).1, (B h).2) else B j
def psZ (fs : List Bool) : Nat → (Nat → Int × Int) → Nat → Int × Int
  | 0, B => B
  | m + 1, B => rlx fs m (psZ fs m B)
def Cont (n : Nat) (v : Nat → Int) (B : Nat → Int × Int) : Prop := ∀ i, i < n → (B i).1 ≤ v i ∧ v i ≤ (B i).2
theorem rlx_cont {n : Nat} {v : Nat → Int} {B : Nat → Int × Int} (hB : Cont n v B) {i : Nat} (hi : i + 1 < n) (hv : if fs.getD i false = true then v (i + 1) ≤ v i else v i ≤ v (i + 1)) : Cont n v (rlx fs i B) := by
  intro j hj
  have h1 := hB i (by omega)
  have h2 := hB (i + 1) hi
  have h3 := hB j hj
  unfold rlx
  cases hf : fs.getD i false with
  | true =>
    rw [hf] at hv
    simp only [if_true] at hv ⊢
    by_cases e1 : j = i + 1
    · subst e1; simp only [if_true]; constructor <;> omega
    · by_cases e2 : j = i
      · subst e2; simp only [e1, if_true, if_false]; constructor <;> omega
      · simp only [e1, e2, if_false]; exact h3
  | false =>
    rw [hf] at hv
    simp only [Bool.false_eq_true, if_false] at hv ⊢
    by_cases e1 : j = i
    · subst e1; simp only [if_true]; constructor <;> omega
    · by_cases e2 : j = i + 1
      · subst e2; simp only [e1, if_true, if_false]; constructor <;> omega
      · simp only [e1, e2, if_false]; exact h3
theorem ps_cont {n : Nat} {v : Nat → Int} {B : Nat → Int × Int} (hB : Cont n v B) (hv : ∀ i, i + 1 < n → if fs.getD i false = true then v (i + 1) ≤ v i else v i ≤ v (i + 1)) : ∀ m, m < n → Cont n v (psZ fs m B)
  | 0, _ => hB
  | m + 1, hm => rlx_cont (ps_cont hB hv m (by omega)) hm (hv m hm)
end

end Zm
end Go.Proofs.YtminplfgadhnnaaGreatDoor
end
