/- BM1 BM2 BM3 BM4 -/

/- Plain laws of programmes: rows, rows of dark and bright lamps, the principle of zeros and ones. -/
section
set_option linter.unusedSimpArgs false
set_option linter.unusedVariables false
namespace Bm

abbrev Pr := Nat × Nat
/-- a pair compares two lamps of a row -/
def cex (x : Pr) (l : List Int) : List Int := (l.set x.1 (max (l.getD x.1 0) (l.getD x.2 0))).set x.2 (min (l.getD x.1 0) (l.getD x.2 0))
def runL (p : List Pr) (l : List Int) : List Int := p.foldl (fun l x => cex x l) l
def OkP (n : Nat) (p : List Pr) : Prop := ∀ x ∈ p, x.1 < x.2 ∧ x.2 < n
/-- the same for rows that are functions -/
def cexF (x : Pr) (f : Nat → Int) : Nat → Int := fun i => if i = x.2 then min (f x.1) (f x.2) else if i = x.1 then max (f x.1) (f x.2) else f i
def runF (p : List Pr) (f : Nat → Int) : Nat → Int := p.foldl (fun f x => cexF x f) f
/-- the same for rows of dark and bright lamps -/
def xch (x : Pr) (r : Nat → Bool) : Nat → Bool := fun i => if i = x.2 then r x.1 && r x.2 else if i = x.1 then r x.1 || r x.2 else r i
def runB (p : List Pr) (r : Nat → Bool) : Nat → Bool := p.foldl (fun r x => xch x r) r

theorem cex_len (x : Pr) (l : List Int) : (cex x l).length = l.length := by simp [cex]
theorem runL_len (p : List Pr) : ∀ l, (runL p l).length = l.length := by
  induction p with
  | nil => intro l; rfl
  | cons x p ih => intro l; show (runL p (cex x l)).length = _; rw [ih, cex_len]
theorem runL_append (p q : List Pr) (l : List Int) : runL (p ++ q) l = runL q (runL p l) := by simp [runL, List.foldl_append]
theorem runB_append (p q : List Pr) (r : Nat → Bool) : runB (p ++ q) r = runB q (runB p r) := by simp [runB, List.foldl_append]
theorem runF_append (p q : List Pr) (r : Nat → Int) : runF (p ++ q) r = runF q (runF p r) := by simp [runF, List.foldl_append]
theorem OkP.tail {n : Nat} {x : Pr} {p : List Pr} (h : OkP n (x :: p)) : OkP n p := fun y hy => h y (List.mem_cons_of_mem _ hy)
theorem OkP.head {n : Nat} {x : Pr} {p : List Pr} (h : OkP n (x :: p)) : x.1 < x.2 ∧ x.2 < n := h x (List.mem_cons_self)
theorem OkP.sub {n : Nat} {p q : List Pr} (h : OkP n p) (hq : ∀ x ∈ q, x ∈ p) : OkP n q := fun x hx => h x (hq x hx)

theorem cex_get {x : Pr} {l : List Int} (h : x.1 < x.2 ∧ x.2 < l.length) (i : Nat) (hi : i < l.length) : (cex x l).getD i 0 = cexF x (fun i => l.getD i 0) i := by
  obtain ⟨h1, h2⟩ := h
  unfold cex cexF
  simp only [List.getD_eq_getElem?_getD, List.getElem?_set, List.length_set]
  by_cases e2 : x.2 = i
  · subst e2; simp [h2]
  · have : ¬ i = x.2 := fun e => e2 e.symm
    rw [if_neg e2, if_neg this]
    by_cases e1 : x.1 = i
    · subst e1; simp [hi]
    · have : ¬ i = x.1 := fun e => e1 e.symm
      rw [if_neg e1, if_neg this]
theorem cexF_congr {x : Pr} {n : Nat} (hx : x.1 < x.2 ∧ x.2 < n) {f g : Nat → Int} (h : ∀ i, i < n → f i = g i) : ∀ i, i < n → cexF x f i = cexF x g i := by
  intro i hi
  unfold cexF
  rw [h x.1 (by omega), h x.2 hx.2, h i hi]
theorem runF_congr {n : Nat} : ∀ (p : List Pr), OkP n p → ∀ {f g : Nat → Int}, (∀ i, i < n → f i = g i) → ∀ i, i < n → runF p f i = runF p g i
  | [], _, _, _, h, i, hi => h i hi
  | x :: p, hp, _, _, h, i, hi => runF_congr p hp.tail (cexF_congr hp.head h) i hi
theorem xch_congr {x : Pr} {n : Nat} (hx : x.1 < x.2 ∧ x.2 < n) {f g : Nat → Bool} (h : ∀ i, i < n → f i = g i) : ∀ i, i < n → xch x f i = xch x g i := by
  intro i hi
  unfold xch
  rw [h x.1 (by omega), h x.2 hx.2, h i hi]
theorem runB_congr {n : Nat} : ∀ (p : List Pr), OkP n p → ∀ {f g : Nat → Bool}, (∀ i, i < n → f i = g i) → ∀ i, i < n → runB p f i = runB p g i
  | [], _, _, _, h, i, hi => h i hi
  | x :: p, hp, _, _, h, i, hi => runB_congr p hp.tail (xch_congr hp.head h) i hi
theorem runL_get (n : Nat) : ∀ (p : List Pr), OkP n p → ∀ l : List Int, l.length = n → ∀ i, i < n → (runL p l).getD i 0 = runF p (fun i => l.getD i 0) i
  | [], _, _, _, _, _ => rfl
  | x :: p, hp, l, hl, i, hi => by
    show (runL p (cex x l)).getD i 0 = runF p (cexF x fun i => l.getD i 0) i
    rw [runL_get n p hp.tail (cex x l) (by rw [cex_len, hl]) i hi]
    exact runF_congr p hp.tail (fun i hi => cex_get (by rw [hl]; exact hp.head) i (by rw [hl]; exact hi)) i hi

/-- a map that keeps the order goes through -/
def Mono (g : Int → Int) : Prop := ∀ a b, a ≤ b → g a ≤ g b
theorem cexF_map {g : Int → Int} (hg : Mono g) (x : Pr) (f : Nat → Int) : cexF x (fun i => g (f i)) = fun i => g (cexF x f i) := by
  funext i
  unfold cexF
  have hm := hg (f x.1) (f x.2)
  have hm' := hg (f x.2) (f x.1)
  by_cases h2 : i = x.2
  · rw [if_pos h2, if_pos h2]
    show min (g (f x.1)) (g (f x.2)) = g (min (f x.1) (f x.2))
    rcases Int.le_total (f x.1) (f x.2) with h | h
    · have := hm h; rw [Int.min_eq_left h]; omega
    · have := hm' h; rw [Int.min_eq_right h]; omega
  · rw [if_neg h2, if_neg h2]
    by_cases h1 : i = x.1
    · rw [if_pos h1, if_pos h1]
      show max (g (f x.1)) (g (f x.2)) = g (max (f x.1) (f x.2))
      rcases Int.le_total (f x.1) (f x.2) with h | h
      · have := hm h; rw [Int.max_eq_right h]; omega
      · have := hm' h; rw [Int.max_eq_left h]; omega
    · rw [if_neg h1, if_neg h1]
theorem runF_map {g : Int → Int} (hg : Mono g) : ∀ (p : List Pr) (f : Nat → Int), runF p (fun i => g (f i)) = fun i => g (runF p f i)
  | [], _ => rfl
  | x :: p, f => by
    show runF p (cexF x fun i => g (f i)) = _
    rw [cexF_map hg, runF_map hg p]; rfl
/-- which lamps reach a power -/
def thr (t : Int) (f : Nat → Int) : Nat → Bool := fun i => decide (t ≤ f i)
theorem cexF_thr (t : Int) (x : Pr) (f : Nat → Int) : thr t (cexF x f) = xch x (thr t f) := by
  funext i
  unfold thr cexF xch
  by_cases h2 : i = x.2
  · rw [if_pos h2, if_pos h2, Bool.eq_iff_iff]; simp; omega
  · rw [if_neg h2, if_neg h2]
    by_cases h1 : i = x.1
    · rw [if_pos h1, if_pos h1, Bool.eq_iff_iff]; simp; omega
    · rw [if_neg h1, if_neg h1]
theorem runF_thr (t : Int) : ∀ (p : List Pr) (f : Nat → Int), thr t (runF p f) = runB p (thr t f)
  | [], _ => rfl
  | x :: p, f => by
    show thr t (runF p (cexF x f)) = runB p (xch x (thr t f))
    rw [runF_thr t p, cexF_thr]
def b2i (b : Bool) : Int := if b then 1 else 0
theorem cexF_b2i (x : Pr) (r : Nat → Bool) : cexF x (fun i => b2i (r i)) = fun i => b2i (xch x r i) := by
  funext i
  unfold cexF xch
  by_cases h2 : i = x.2
  · rw [if_pos h2, if_pos h2]
    show min (b2i (r x.1)) (b2i (r x.2)) = b2i (r x.1 && r x.2)
    cases r x.1 <;> cases r x.2 <;> rfl
  · rw [if_neg h2, if_neg h2]
    by_cases h1 : i = x.1
    · rw [if_pos h1, if_pos h1]
      show max (b2i (r x.1)) (b2i (r x.2)) = b2i (r x.1 || r x.2)
      cases r x.1 <;> cases r x.2 <;> rfl
    · rw [if_neg h1, if_neg h1]
theorem runF_b2i : ∀ (p : List Pr) (r : Nat → Bool), runF p (fun i => b2i (r i)) = fun i => b2i (runB p r i)
  | [], _ => rfl
  | x :: p, r => by
    show runF p (cexF x fun i => b2i (r i)) = _
    rw [cexF_b2i, runF_b2i p]; rfl

/-- the lamps of the row with a number -/
def tab (n k : Nat) : Nat → Bool := fun i => k.testBit (n - 1 - i)
def rowL (n k : Nat) : List Int := (List.range n).map fun i => b2i (tab n k i)
theorem rowL_len (n k : Nat) : (rowL n k).length = n := by simp [rowL]
theorem rowL_get {n k i : Nat} (hi : i < n) : (rowL n k).getD i 0 = b2i (tab n k i) := by
  simp [rowL, List.getD_eq_getElem?_getD, hi]
theorem runL_row {n k : Nat} {p : List Pr} (hp : OkP n p) {i : Nat} (hi : i < n) : (runL p (rowL n k)).getD i 0 = b2i (runB p (tab n k) i) := by
  rw [runL_get n p hp _ (rowL_len n k) i hi, runF_congr p hp (g := fun i => b2i (tab n k i)) (fun i hi => rowL_get hi) i hi, runF_b2i]

/-- the number of a row -/
def num (r : Nat → Bool) : Nat → Nat
  | 0 => 0
  | n + 1 => 2 * num r n + (if r n then 1 else 0)
theorem num_lt (r : Nat → Bool) : ∀ n, num r n < 2 ^ n
  | 0 => by simp [num]
  | n + 1 => by have := num_lt r n; rw [num, Nat.pow_succ]; split <;> omega
theorem num_bit (r : Nat → Bool) : ∀ n i, i < n → (num r n).testBit (n - 1 - i) = r i
  | 0, i, h => by omega
  | n + 1, i, h => by
    rw [num]
    by_cases hi : i = n
    · subst hi
      have : i + 1 - 1 - i = 0 := by omega
      rw [this, Nat.testBit_zero]
      split <;> rename_i h <;> simp [h] <;> omega
    · have e : n + 1 - 1 - i = (n - 1 - i) + 1 := by omega
      rw [e, Nat.testBit_succ]
      have : (2 * num r n + (if r n then 1 else 0)) / 2 = num r n := by split <;> omega
      rw [this]
      exact num_bit r n i (by omega)
theorem tab_num (r : Nat → Bool) (n : Nat) : ∀ i, i < n → tab n (num r n) i = r i := num_bit r n

/-- some pair of places is wrong -/
def unord (n : Nat) (bf : Nat → Nat → Bool) (r : Nat → Bool) : Bool := (List.range n).any fun k => (List.range k).any fun i => bf i k && (r k && !r i)
theorem unord_iff {n : Nat} {bf : Nat → Nat → Bool} {r : Nat → Bool} : unord n bf r = true ↔ ∃ k i, k < n ∧ i < k ∧ bf i k = true ∧ r k = true ∧ r i = false := by
  unfold unord
  simp only [List.any_eq_true, List.mem_range, Bool.and_eq_true, Bool.not_eq_true']
  constructor
  · rintro ⟨k, hk, i, hi, h1, h2, h3⟩; exact ⟨k, i, hk, hi, h1, h2, h3⟩
  · rintro ⟨k, i, hk, hi, h1, h2, h3⟩; exact ⟨k, hk, i, hi, h1, h2, h3⟩
theorem unord_congr {n : Nat} {bf : Nat → Nat → Bool} {r s : Nat → Bool} (h : ∀ i, i < n → r i = s i) : unord n bf r = unord n bf s := by
  rw [Bool.eq_iff_iff, unord_iff, unord_iff]
  constructor
  · rintro ⟨k, i, hk, hi, h1, h2, h3⟩; exact ⟨k, i, hk, hi, h1, by rw [← h k hk]; exact h2, by rw [← h i (by omega)]; exact h3⟩
  · rintro ⟨k, i, hk, hi, h1, h2, h3⟩; exact ⟨k, i, hk, hi, h1, by rw [h k hk]; exact h2, by rw [h i (by omega)]; exact h3⟩
/-- the same of a row of powers -/
def UnF (n : Nat) (bf : Nat → Nat → Bool) (f : Nat → Int) : Prop := ∃ k i, k < n ∧ i < k ∧ bf i k = true ∧ f i < f k

/-- the principle of zeros and ones -/
theorem zeroOne {n : Nat} {p : List Pr} (hp : OkP n p) {bf : Nat → Nat → Bool} {f : Nat → Int} (h : UnF n bf (runF p f)) : ∃ t, unord n bf (runB p (tab n (num (thr t f) n))) = true := by
  obtain ⟨k, i, hk, hi, hb, hlt⟩ := h
  refine ⟨runF p f k, ?_⟩
  rw [unord_congr (runB_congr p hp (tab_num (thr (runF p f k) f) n)), unord_iff]
  rw [← runF_thr]
  exact ⟨k, i, hk, hi, hb, by simp [thr], by simp [thr]; omega⟩
theorem unF_b2i {n : Nat} {bf : Nat → Nat → Bool} {r : Nat → Bool} : UnF n bf (fun i => b2i (r i)) ↔ unord n bf r = true := by
  rw [unord_iff]
  constructor
  · rintro ⟨k, i, hk, hi, hb, hlt⟩
    refine ⟨k, i, hk, hi, hb, ?_⟩
    have hlt : b2i (r i) < b2i (r k) := hlt
    cases h1 : r i <;> cases h2 : r k <;> rw [h1, h2] at hlt <;> first | exact ⟨rfl, rfl⟩ | exact absurd hlt (by decide)
  · rintro ⟨k, i, hk, hi, hb, h1, h2⟩
    exact ⟨k, i, hk, hi, hb, by show b2i (r i) < b2i (r k); rw [h1, h2]; decide⟩

/-- a row in order -/
def ordB (l : List Int) : Bool := (List.range (l.length - 1)).all fun i => decide (l.getD (i + 1) 0 ≤ l.getD i 0)
theorem ordB_iff {l : List Int} : ordB l = true ↔ ∀ i, i + 1 < l.length → l.getD (i + 1) 0 ≤ l.getD i 0 := by
  unfold ordB
  simp only [List.all_eq_true, List.mem_range, decide_eq_true_eq]
  exact ⟨fun h i hi => h i (by omega), fun h i hi => h i (by omega)⟩
theorem ordB_le {l : List Int} (h : ordB l = true) : ∀ i k, i ≤ k → k < l.length → l.getD k 0 ≤ l.getD i 0 := by
  intro i k hik
  induction hik with
  | refl => intro _; exact Int.le_refl _
  | step _ ih => intro hk; exact Int.le_trans (ordB_iff.1 h _ hk) (ih (by omega))
theorem ordB_un {l : List Int} : ordB l = false ↔ UnF l.length (fun _ _ => true) (fun i => l.getD i 0) := by
  constructor
  · intro h
    have h' : ¬ ∀ i, i + 1 < l.length → l.getD (i + 1) 0 ≤ l.getD i 0 := fun h2 => by rw [ordB_iff.2 h2] at h; cases h
    simp only [Classical.not_forall] at h'
    obtain ⟨i, hi, hlt⟩ := h'
    exact ⟨i + 1, i, hi, by omega, rfl, by show l.getD i 0 < l.getD (i + 1) 0; omega⟩
  · rintro ⟨k, i, hk, hi, _, hlt⟩
    cases hb : ordB l with
    | false => rfl
    | true =>
      have := ordB_le hb i k (by omega) hk
      have hlt : l.getD i 0 < l.getD k 0 := hlt
      omega
/-- a row of which the first places are picked -/
def pickB (l : List Int) (m : Nat) : Bool := (List.range m).all fun i => (List.range l.length).all fun k => decide (k < m) || decide (l.getD k 0 ≤ l.getD i 0)
def bfP (m : Nat) (i k : Nat) : Bool := decide (i < m) && decide (m ≤ k)
theorem pickB_iff {l : List Int} {m : Nat} : pickB l m = true ↔ ∀ i, i < m → ∀ k, k < l.length → m ≤ k → l.getD k 0 ≤ l.getD i 0 := by
  unfold pickB
  simp only [List.all_eq_true, List.mem_range, Bool.or_eq_true, decide_eq_true_eq]
  exact ⟨fun h i hi k hk hm => (h i hi k hk).resolve_left (by omega), fun h i hi k hk => (Nat.lt_or_ge k m).imp id (fun hm => h i hi k hk hm)⟩
theorem pickB_un {l : List Int} {m : Nat} (hm : m ≤ l.length) : pickB l m = false ↔ UnF l.length (bfP m) (fun i => l.getD i 0) := by
  have : pickB l m = true ↔ ∀ i, i < m → ∀ k, k < l.length → m ≤ k → l.getD k 0 ≤ l.getD i 0 := by
    unfold pickB
    simp only [List.all_eq_true, List.mem_range, Bool.or_eq_true, decide_eq_true_eq]
    exact ⟨fun h i hi k hk hm => (h i hi k hk).resolve_left (by omega), fun h i hi k hk => (Nat.lt_or_ge k m).imp id (fun hm => h i hi k hk hm)⟩
  constructor
  · intro h
    have h' : ¬ ∀ i, i < m → ∀ k, k < l.length → m ≤ k → l.getD k 0 ≤ l.getD i 0 := fun h2 => by rw [this.2 h2] at h; cases h
    simp only [Classical.not_forall] at h'
    obtain ⟨i, hi, k, hk, hmk, hlt⟩ := h'
    exact ⟨k, i, hk, by omega, by simp [bfP, hi, hmk], by show l.getD i 0 < l.getD k 0; omega⟩
  · rintro ⟨k, i, hk, hi, hb, hlt⟩
    cases hc : pickB l m with
    | false => rfl
    | true =>
      simp only [bfP, Bool.and_eq_true, decide_eq_true_eq] at hb
      have := this.1 hc i hb.1 k hk hb.2
      have hlt : l.getD i 0 < l.getD k 0 := hlt
      omega

/-- the first number of a row that is wrong -/
def fstBad (n : Nat) (bad : Nat → Bool) : Option Nat := (List.range (2 ^ n)).find? bad
theorem fstBad_none {n : Nat} {bad : Nat → Bool} : fstBad n bad = none ↔ ∀ k, k < 2 ^ n → bad k = false := by
  unfold fstBad
  rw [List.find?_eq_none]
  simp
theorem fstBad_some {n : Nat} {bad : Nat → Bool} {k : Nat} : fstBad n bad = some k ↔ k < 2 ^ n ∧ bad k = true ∧ ∀ j, j < k → bad j = false := by
  unfold fstBad
  constructor
  · intro h
    obtain ⟨h1, h2⟩ := List.find?_eq_some_iff_append.1 h
    obtain ⟨as, bs, e, h3⟩ := h2
    have hk : k < 2 ^ n := by simpa using (show k ∈ List.range (2 ^ n) by rw [e]; simp)
    refine ⟨hk, h1, fun j hj => ?_⟩
    have hl : as.length = k := by
      have h4 : (List.range (2 ^ n))[as.length]? = some k := by rw [e]; simp
      rw [List.getElem?_range (by have : as.length < (List.range (2 ^ n)).length := by rw [e]; simp
                                  simpa using this)] at h4
      injection h4
    have hj' : j ∈ as := by
      have h5 : (List.range (2 ^ n))[j]? = some j := List.getElem?_range (by omega)
      rw [e, List.getElem?_append_left (by omega)] at h5
      exact List.mem_of_getElem? h5
    have := h3 j hj'
    simpa using this
  · rintro ⟨hk, hb, hj⟩
    rw [List.find?_eq_some_iff_append]
    refine ⟨hb, List.range k, List.range' (k + 1) (2 ^ n - k - 1), ?_, fun j hj' => by simp [hj j (by simpa using hj')]⟩
    rw [List.range_eq_range', List.range_eq_range']
    have e1 : 2 ^ n = k + (1 + (2 ^ n - k - 1)) := by omega
    conv => lhs; rw [e1]
    rw [← List.range'_append_1, ← List.range'_append_1]
    simp [List.range'_succ, List.range'_one, Nat.add_comm]

end Bm
end

/- Plain laws of programmes: rows put in order, pairs that never exchange lamps, rounds. -/
section
set_option linter.unusedSimpArgs false
set_option linter.unusedVariables false
namespace Bm

/-- where the greatest of the first numbers is -/
def mxAt (l : List Int) : Nat → Nat
  | 0 => 0
  | i + 1 => if l.getD (mxAt l i) 0 < l.getD (i + 1) 0 then i + 1 else mxAt l i
theorem mxAt_le (l : List Int) : ∀ i, mxAt l i ≤ i
  | 0 => Nat.le_refl _
  | i + 1 => by have := mxAt_le l i; rw [mxAt]; split <;> omega
theorem mxAt_max (l : List Int) : ∀ i j, j ≤ i → l.getD j 0 ≤ l.getD (mxAt l i) 0
  | 0, j, h => by obtain rfl : j = 0 := by omega
                  exact Int.le_refl _
  | i + 1, j, h => by
    rw [mxAt]
    by_cases hj : j = i + 1
    · subst hj; split <;> omega
    · have := mxAt_max l i j (by omega)
      split <;> omega
/-- the greatest that is left, again and again -/
def srt : Nat → List Int → List Int
  | 0, _ => []
  | k + 1, l => if l = [] then [] else l.getD (mxAt l (l.length - 1)) 0 :: srt k (l.eraseIdx (mxAt l (l.length - 1)))
def srtL (l : List Int) : List Int := srt l.length l
theorem erase_perm {l : List Int} {i : Nat} (hi : i < l.length) : (l[i] :: l.eraseIdx i).Perm l := by
  rw [List.eraseIdx_eq_take_drop_succ]
  have h1 : (l.take i ++ l[i] :: l.drop (i + 1)) = l := by
    rw [← List.drop_eq_getElem_cons hi, List.take_append_drop]
  conv => rhs; rw [← h1]
  exact List.perm_middle.symm
theorem srt_perm : ∀ (k : Nat) (l : List Int), l.length ≤ k → (srt k l).Perm l
  | 0, l, h => by obtain rfl : l = [] := List.length_eq_zero_iff.1 (by omega)
                  exact List.Perm.nil
  | k + 1, l, h => by
    rw [srt]
    by_cases h0 : l = []
    · rw [if_pos h0, h0]
    · rw [if_neg h0]
      have hl : 0 < l.length := List.length_pos_iff.2 h0
      have hm : mxAt l (l.length - 1) < l.length := by have := mxAt_le l (l.length - 1); omega
      have ih := srt_perm k (l.eraseIdx (mxAt l (l.length - 1))) (by rw [List.length_eraseIdx_of_lt hm]; omega)
      rw [List.getD_eq_getElem?_getD, List.getElem?_eq_getElem hm, Option.getD_some]
      exact (List.Perm.cons _ ih).trans (erase_perm hm)
def Dec (l : List Int) : Prop := l.Pairwise (fun a b => b ≤ a)
theorem srt_dec : ∀ (k : Nat) (l : List Int), l.length ≤ k → Dec (srt k l)
  | 0, l, h => List.Pairwise.nil
  | k + 1, l, h => by
    rw [srt]
    by_cases h0 : l = []
    · rw [if_pos h0]; exact List.Pairwise.nil
    · rw [if_neg h0]
      have hl : 0 < l.length := List.length_pos_iff.2 h0
      have hm : mxAt l (l.length - 1) < l.length := by have := mxAt_le l (l.length - 1); omega
      have hk : (l.eraseIdx (mxAt l (l.length - 1))).length ≤ k := by rw [List.length_eraseIdx_of_lt hm]; omega
      refine List.Pairwise.cons (fun y hy => ?_) (srt_dec k _ hk)
      have hy2 : y ∈ l := List.mem_of_mem_eraseIdx ((srt_perm k _ hk).mem_iff.1 hy)
      obtain ⟨j, hj, rfl⟩ := List.mem_iff_getElem.1 hy2
      have := mxAt_max l (l.length - 1) j (by omega)
      rw [List.getD_eq_getElem?_getD, List.getElem?_eq_getElem hj, Option.getD_some] at this
      exact this
theorem srtL_perm (l : List Int) : (srtL l).Perm l := srt_perm _ _ (Nat.le_refl _)
theorem srtL_dec (l : List Int) : Dec (srtL l) := srt_dec _ _ (Nat.le_refl _)
theorem srtL_len (l : List Int) : (srtL l).length = l.length := (srtL_perm l).length_eq
theorem dec_uniq {l m : List Int} (hl : Dec l) (hm : Dec m) (h : l.Perm m) : l = m :=
  List.Perm.eq_of_pairwise (le := fun a b => b ≤ a) (fun a b _ _ h1 h2 => Int.le_antisymm h2 h1) hl hm h
theorem srtL_eq {l m : List Int} (hl : Dec l) (h : l.Perm m) : l = srtL m := dec_uniq hl (srtL_dec m) (h.trans (srtL_perm m).symm)
theorem srtL_congr {l m : List Int} (h : l.Perm m) : srtL l = srtL m := dec_uniq (srtL_dec l) (srtL_dec m) (((srtL_perm l).trans h).trans (srtL_perm m).symm)
theorem ordB_dec {l : List Int} : ordB l = true ↔ Dec l := by
  constructor
  · intro h
    refine List.pairwise_iff_getElem.2 fun i j hi hj hij => ?_
    have := ordB_le h i j (by omega) hj
    rw [List.getD_eq_getElem?_getD, List.getElem?_eq_getElem hj, List.getD_eq_getElem?_getD, List.getElem?_eq_getElem hi] at this
    exact this
  · intro h
    refine ordB_iff.2 fun i hi => ?_
    have := List.pairwise_iff_getElem.1 h i (i + 1) (by omega) hi (by omega)
    rw [List.getD_eq_getElem?_getD, List.getElem?_eq_getElem hi, List.getD_eq_getElem?_getD, List.getElem?_eq_getElem (by omega)]
    exact this
theorem cex_perm {x : Pr} {l : List Int} (h : x.1 < x.2 ∧ x.2 < l.length) : (cex x l).Perm l := by
  have h1 : x.1 < l.length := by omega
  unfold cex
  rw [List.getD_eq_getElem?_getD, List.getElem?_eq_getElem h1, List.getD_eq_getElem?_getD, List.getElem?_eq_getElem h.2, Option.getD_some, Option.getD_some]
  rcases Int.le_total l[x.1] l[x.2] with hle | hle
  · rw [Int.max_eq_right hle, Int.min_eq_left hle]
    exact List.set_set_perm h1 h.2
  · rw [Int.max_eq_left hle, Int.min_eq_right hle, List.set_getElem_self, List.set_getElem_self]
theorem runL_perm (n : Nat) : ∀ (p : List Pr), OkP n p → ∀ l : List Int, l.length = n → (runL p l).Perm l
  | [], _, _, _ => List.Perm.refl _
  | x :: p, hp, l, hl => by
    show (runL p (cex x l)).Perm l
    exact (runL_perm n p hp.tail _ (by rw [cex_len, hl])).trans (cex_perm (by rw [hl]; exact hp.head))
/-- exchanging as the reference does it -/
theorem cex_swap {x : Pr} {l : List Int} (h : x.1 < x.2 ∧ x.2 < l.length) : cex x l = if l.getD x.1 0 < l.getD x.2 0 then (l.set x.1 (l.getD x.2 0)).set x.2 (l.getD x.1 0) else l := by
  unfold cex
  split
  · rename_i hlt
    rw [Int.max_eq_right (by omega), Int.min_eq_left (by omega)]
  · rename_i hlt
    rw [Int.max_eq_left (by omega), Int.min_eq_right (by omega)]
    have h1 : x.1 < l.length := by omega
    rw [List.getD_eq_getElem?_getD, List.getElem?_eq_getElem h1, List.getD_eq_getElem?_getD, List.getElem?_eq_getElem h.2, Option.getD_some, Option.getD_some, List.set_getElem_self, List.set_getElem_self]

/-- a pair exchanges lamps of some row, behind others -/
def exch (pre : List Pr) (x : Pr) (n k : Nat) : Bool := runB pre (tab n k) x.2 && !runB pre (tab n k) x.1
def usd (n : Nat) (pre : List Pr) (x : Pr) : Bool := (List.range (2 ^ n)).any (exch pre x n)
/-- each pair's number, and whether it exchanges any lamps -/
def stp (n : Nat) : List Pr → Nat → List Pr → List (Nat × Bool)
  | _, _, [] => []
  | pre, i, x :: p => (i, usd n pre x) :: stp n (pre ++ [x]) (i + 1) p
theorem stp_len (n : Nat) : ∀ (p pre : List Pr) (i : Nat), (stp n pre i p).length = p.length
  | [], _, _ => rfl
  | x :: p, pre, i => by rw [stp, List.length_cons, stp_len n p]; rfl
theorem stp_get (n : Nat) : ∀ (p pre : List Pr) (i k : Nat) (x : Pr), p[k]? = some x → (stp n pre i p)[k]? = some (i + k, usd n (pre ++ p.take k) x)
  | [], _, _, k, x, h => by simp at h
  | y :: p, pre, i, 0, x, h => by simp at h; subst h; simp [stp]
  | y :: p, pre, i, k + 1, x, h => by
    rw [stp, List.getElem?_cons_succ, stp_get n p _ _ k x (by simpa using h)]
    simp; omega
/-- the useless ones' numbers -/
def uslL (n : Nat) (pre : List Pr) (i : Nat) (p : List Pr) : List Nat := ((stp n pre i p).filter fun y => !y.2).map Prod.fst
/-- the programme without them -/
def trmL (n : Nat) : List Pr → List Pr → List Pr
  | _, [] => []
  | pre, x :: p => if usd n pre x then x :: trmL n (pre ++ [x]) p else trmL n (pre ++ [x]) p

/-- two programmes make the same of rows of dark and bright lamps -/
def SameB (n : Nat) (p q : List Pr) : Prop := ∀ r i, i < n → runB p r i = runB q r i
theorem usd_false {n : Nat} {pre : List Pr} (hp : OkP n pre) {x : Pr} (hx : x.1 < x.2 ∧ x.2 < n) (h : usd n pre x = false) (f : Nat → Int) : runF pre f x.2 ≤ runF pre f x.1 := by
  rcases Int.lt_or_le (runF pre f x.1) (runF pre f x.2) with hlt | hle
  · exfalso
    have h2 : usd n pre x = true := by
      unfold usd
      rw [List.any_eq_true]
      refine ⟨num (thr (runF pre f x.2) f) n, by simpa using num_lt _ n, ?_⟩
      have e := runB_congr pre hp (tab_num (thr (runF pre f x.2) f) n)
      unfold exch
      rw [e x.2 hx.2, e x.1 (by omega), ← runF_thr]
      simp [thr]; omega
    rw [h] at h2; cases h2
  · exact hle
theorem usd_falseB {n : Nat} {pre : List Pr} (hp : OkP n pre) {x : Pr} (hx : x.1 < x.2 ∧ x.2 < n) (h : usd n pre x = false) (r : Nat → Bool) : runB pre r x.2 = true → runB pre r x.1 = true := by
  have h1 := usd_false hp hx h (fun i => b2i (r i))
  rw [runF_b2i] at h1
  cases h3 : runB pre r x.2 <;> cases h4 : runB pre r x.1 <;> intro h5 <;> first | rfl | (cases h5; done) | (have h1 : b2i (runB pre r x.2) ≤ b2i (runB pre r x.1) := h1; rw [h3, h4] at h1; exact absurd h1 (by decide))
theorem cexF_skip {x : Pr} {f : Nat → Int} (h : f x.2 ≤ f x.1) : cexF x f = f := by
  funext i
  unfold cexF
  by_cases h2 : i = x.2
  · rw [if_pos h2, Int.min_eq_right h, h2]
  · rw [if_neg h2]
    by_cases h1 : i = x.1
    · rw [if_pos h1, Int.max_eq_left h, h1]
    · rw [if_neg h1]
theorem xch_skip {x : Pr} {r : Nat → Bool} (h : r x.2 = true → r x.1 = true) : xch x r = r := by
  funext i
  unfold xch
  by_cases h2 : i = x.2
  · rw [if_pos h2, h2]; revert h; cases r x.2 <;> cases r x.1 <;> simp
  · rw [if_neg h2]
    by_cases h1 : i = x.1
    · rw [if_pos h1, h1]; revert h; cases r x.2 <;> cases r x.1 <;> simp
    · rw [if_neg h1]
theorem usd_congr {n : Nat} {p q : List Pr} (h : ∀ r, runB p r = runB q r) (x : Pr) : usd n p x = usd n q x := by
  unfold usd exch
  congr 1
  funext k
  rw [h]
theorem runF_snoc (p : List Pr) (x : Pr) (f : Nat → Int) : runF (p ++ [x]) f = cexF x (runF p f) := runF_append p [x] f
theorem runB_snoc (p : List Pr) (x : Pr) (f : Nat → Bool) : runB (p ++ [x]) f = xch x (runB p f) := runB_append p [x] f
theorem OkP.snoc {n : Nat} {p : List Pr} {x : Pr} (h : OkP n p) (hx : x.1 < x.2 ∧ x.2 < n) : OkP n (p ++ [x]) := fun y hy => by
  rcases List.mem_append.1 hy with hy | hy
  · exact h y hy
  · obtain rfl := List.mem_singleton.1 hy; exact hx

theorem trm_run {n : Nat} : ∀ (p pre q : List Pr), OkP n p → OkP n pre → (∀ f, runF q f = runF pre f) → ∀ f, runF (q ++ trmL n pre p) f = runF (pre ++ p) f
  | [], pre, q, _, _, h, f => by rw [trmL, List.append_nil, List.append_nil]; exact h f
  | x :: p, pre, q, hp, hpre, h, f => by
    rw [trmL]
    cases hu : usd n pre x with
    | true =>
      rw [if_pos rfl]
      have := trm_run p (pre ++ [x]) (q ++ [x]) hp.tail (hpre.snoc hp.head) (fun f => by rw [runF_snoc, runF_snoc, h]) f
      rwa [List.append_assoc, List.append_assoc] at this
    | false =>
      rw [if_neg (by decide)]
      have := trm_run p (pre ++ [x]) q hp.tail (hpre.snoc hp.head) (fun f => by rw [runF_snoc, h, cexF_skip (usd_false hpre hp.head hu f)]) f
      rwa [List.append_assoc pre] at this
theorem trm_twice {n : Nat} : ∀ (p pre q : List Pr), OkP n p → OkP n pre → (∀ r, runB q r = runB pre r) → trmL n q (trmL n pre p) = trmL n pre p
  | [], pre, q, _, _, h => rfl
  | x :: p, pre, q, hp, hpre, h => by
    rw [trmL]
    cases hu : usd n pre x with
    | true =>
      rw [if_pos rfl, trmL, usd_congr h, hu, if_pos rfl]
      rw [trm_twice p (pre ++ [x]) (q ++ [x]) hp.tail (hpre.snoc hp.head) (fun r => by rw [runB_snoc, runB_snoc, h])]
    | false =>
      rw [if_neg (by decide)]
      exact trm_twice p (pre ++ [x]) q hp.tail (hpre.snoc hp.head) (fun r => by rw [runB_snoc, h, xch_skip (usd_falseB hpre hp.head hu r)])
theorem trm_len {n : Nat} : ∀ (p pre : List Pr) (i : Nat), (uslL n pre i p).length + (trmL n pre p).length = p.length
  | [], _, _ => rfl
  | x :: p, pre, i => by
    have ih := trm_len (n := n) p (pre ++ [x]) (i + 1)
    unfold uslL at *
    rw [stp, trmL, List.filter_cons]
    cases hu : usd n pre x with
    | true => simp only [Bool.not_true, Bool.false_eq_true, if_false, if_true, List.length_cons]; omega
    | false => simp only [Bool.not_false, Bool.false_eq_true, if_false, if_true, List.map_cons, List.length_cons]; omega
theorem trm_sub {n : Nat} : ∀ (p pre : List Pr), (trmL n pre p).Sublist p
  | [], _ => List.Sublist.refl _
  | x :: p, pre => by
    rw [trmL]
    split
    · exact (trm_sub p _).cons_cons x
    · exact (trm_sub p _).cons x
theorem usl_mem {n : Nat} {p : List Pr} {k : Nat} (h : k ∈ uslL n [] 0 p) : ∃ x, p[k]? = some x ∧ usd n (p.take k) x = false := by
  unfold uslL at h
  obtain ⟨y, hy, rfl⟩ := List.mem_map.1 h
  obtain ⟨h1, h2⟩ := List.mem_filter.1 hy
  obtain ⟨j, hj, he⟩ := List.mem_iff_getElem.1 h1
  have hj' : j < p.length := by rw [stp_len] at hj; exact hj
  have h3 := stp_get n p [] 0 j p[j] (List.getElem?_eq_getElem hj')
  rw [List.getElem?_eq_getElem hj, he] at h3
  injection h3 with h3
  rw [h3] at h2 ⊢
  simp only [Nat.zero_add, List.nil_append] at h2 ⊢
  exact ⟨p[j], List.getElem?_eq_getElem hj', by simpa using h2⟩

/-- the last round of each place, and the greatest one -/
def dStep (s : (Nat → Nat) × Nat) (x : Pr) : (Nat → Nat) × Nat :=
  ((fun i => if i = x.1 ∨ i = x.2 then max (s.1 x.1) (s.1 x.2) + 1 else s.1 i), max s.2 (max (s.1 x.1) (s.1 x.2) + 1))
def depS (p : List Pr) : (Nat → Nat) × Nat := p.foldl dStep (fun _ => 0, 0)
def depL (p : List Pr) : Nat := (depS p).2
theorem depS_snoc (p : List Pr) (x : Pr) : depS (p ++ [x]) = dStep (depS p) x := by simp [depS]
theorem dStep_mono {s t : (Nat → Nat) × Nat} (h : (∀ i, s.1 i ≤ t.1 i) ∧ s.2 ≤ t.2) (x : Pr) : (∀ i, (dStep s x).1 i ≤ (dStep t x).1 i) ∧ (dStep s x).2 ≤ (dStep t x).2 := by
  have h1 := h.1 x.1
  have h2 := h.1 x.2
  have h3 := h.2
  refine ⟨fun i => ?_, ?_⟩
  · have := h.1 i
    simp only [dStep]; split <;> omega
  · simp only [dStep]; omega
theorem dStep_ge (s : (Nat → Nat) × Nat) (x : Pr) : (∀ i, s.1 i ≤ (dStep s x).1 i) ∧ s.2 ≤ (dStep s x).2 := by
  refine ⟨fun i => ?_, by simp only [dStep]; omega⟩
  simp only [dStep]; split
  · rename_i h; rcases h with rfl | rfl <;> omega
  · omega
theorem dep_sub {p q : List Pr} (h : q.Sublist p) : ∀ {s t : (Nat → Nat) × Nat}, ((∀ i, s.1 i ≤ t.1 i) ∧ s.2 ≤ t.2) → (∀ i, (q.foldl dStep s).1 i ≤ (p.foldl dStep t).1 i) ∧ (q.foldl dStep s).2 ≤ (p.foldl dStep t).2 := by
  induction h with
  | slnil => intro s t h; exact h
  | cons x _ ih => intro s t h; exact ih ⟨fun i => Nat.le_trans (h.1 i) ((dStep_ge t x).1 i), Nat.le_trans h.2 (dStep_ge t x).2⟩
  | cons_cons x _ ih => intro s t h; exact ih (dStep_mono h x)
theorem depL_sub {p q : List Pr} (h : q.Sublist p) : depL q ≤ depL p := (dep_sub h (s := (fun _ => 0, 0)) (t := (fun _ => 0, 0)) ⟨fun _ => Nat.le_refl _, Nat.le_refl _⟩).2
theorem depS_le (p : List Pr) : (∀ i, (depS p).1 i ≤ p.length) ∧ (depS p).2 ≤ p.length := by
  suffices H : ∀ (p : List Pr) (s : (Nat → Nat) × Nat) (m : Nat), ((∀ i, s.1 i ≤ m) ∧ s.2 ≤ m) → (∀ i, (p.foldl dStep s).1 i ≤ m + p.length) ∧ (p.foldl dStep s).2 ≤ m + p.length by
    have := H p (fun _ => 0, 0) 0 ⟨fun _ => Nat.le_refl _, Nat.le_refl _⟩
    simpa [depS] using this
  intro p
  induction p with
  | nil => intro s m h; exact h
  | cons x p ih =>
    intro s m h
    have h1 := h.1 x.1
    have h2 := h.1 x.2
    have h3 := h.2
    have := ih (dStep s x) (m + 1) ⟨fun i => by have := h.1 i; simp only [dStep]; split <;> omega, by simp only [dStep]; omega⟩
    rw [List.length_cons, show m + (p.length + 1) = m + 1 + p.length by omega]
    exact this
/-- the round of each pair -/
def rndL (p : List Pr) : List Nat := (List.range p.length).map fun k => max ((depS (p.take k)).1 (p.getD k (0, 0)).1) ((depS (p.take k)).1 (p.getD k (0, 0)).2) + 1
/-- a place is one of a pair's -/
def tch (x : Pr) (a : Nat) : Bool := decide (x.1 = a) || decide (x.2 = a)
/-- the greatest round of the first pairs that have a place -/
def lst (p : List Pr) (a : Nat) : Nat → Nat
  | 0 => 0
  | k + 1 => if tch (p.getD k (0, 0)) a then max (lst p a k) ((rndL p).getD k 0) else lst p a k
theorem rnd_get {p : List Pr} {k : Nat} (hk : k < p.length) : (rndL p).getD k 0 = max ((depS (p.take k)).1 (p.getD k (0, 0)).1) ((depS (p.take k)).1 (p.getD k (0, 0)).2) + 1 := by
  simp [rndL, List.getD_eq_getElem?_getD, hk]
theorem take_snoc' {p : List Pr} {k : Nat} (hk : k < p.length) : p.take (k + 1) = p.take k ++ [p.getD k (0, 0)] := by
  rw [List.take_add_one, List.getElem?_eq_getElem hk, List.getD_eq_getElem?_getD, List.getElem?_eq_getElem hk]; rfl
theorem lst_eq (p : List Pr) (a : Nat) : ∀ k, k ≤ p.length → lst p a k = (depS (p.take k)).1 a
  | 0, _ => by simp [lst, depS]
  | k + 1, h => by
    have ih := lst_eq p a k (by omega)
    rw [lst, take_snoc' (by omega), depS_snoc, ih, rnd_get (by omega)]
    simp only [dStep]
    generalize p.getD k (0, 0) = x
    have hb : tch x a = true ↔ a = x.1 ∨ a = x.2 := by simp only [tch, Bool.or_eq_true, decide_eq_true_eq]; omega
    by_cases h1 : a = x.1 ∨ a = x.2
    · rw [if_pos (hb.2 h1), if_pos h1]
      rcases h1 with rfl | rfl <;> omega
    · rw [if_neg (fun h => h1 (hb.1 h)), if_neg h1]
/-- two pairs have a place in common -/
def shr (y x : Pr) : Bool := decide (y.1 = x.1) || decide (y.1 = x.2) || decide (y.2 = x.1) || decide (y.2 = x.2)
theorem shr_tch (y x : Pr) : shr y x = (tch y x.1 || tch y x.2) := by
  rw [Bool.eq_iff_iff]; simp only [shr, tch, Bool.or_eq_true, decide_eq_true_eq]; omega
/-- a round, as the reference finds it -/
def rin (p : List Pr) (x : Pr) : Nat → Nat
  | 0 => 1
  | k + 1 => if shr (p.getD k (0, 0)) x then max (rin p x k) ((rndL p).getD k 0 + 1) else rin p x k
theorem rin_eq (p : List Pr) (x : Pr) : ∀ k, k ≤ p.length → rin p x k = max (lst p x.1 k) (lst p x.2 k) + 1
  | 0, _ => by simp [rin, lst]
  | k + 1, h => by
    have ih := rin_eq p x k (by omega)
    rw [rin, lst, lst, ih, shr_tch]
    cases tch (p.getD k (0, 0)) x.1 <;> cases tch (p.getD k (0, 0)) x.2 <;> simp <;> omega
theorem rin_rnd {p : List Pr} {k : Nat} (hk : k < p.length) : rin p (p.getD k (0, 0)) k = (rndL p).getD k 0 := by
  rw [rin_eq p _ k (by omega), lst_eq p _ k (by omega), lst_eq p _ k (by omega), rnd_get hk]
theorem dep_snoc2 {p : List Pr} {k : Nat} (hk : k < p.length) : depL (p.take (k + 1)) = max (depL (p.take k)) ((rndL p).getD k 0) := by
  unfold depL
  rw [take_snoc' hk, depS_snoc, rnd_get hk]
  rfl

end Bm
end

/- Plain laws of the programme that is built: it puts all rows in order. -/
section
set_option linter.unusedSimpArgs false
set_option linter.unusedVariables false
namespace Bm

/-- the pairs of places that are so far apart -/
def innB (n part rest apart : Nat) : List Pr := ((List.range (n - apart)).filter fun i => Nat.beq (i &&& part) rest).map fun i => (i, i + apart)
def midB : Nat → Nat → Nat → Nat → Nat → Nat → List Pr
  | 0, _, _, _, _, _ => []
  | k + 1, n, part, far, rest, apart => innB n part rest apart ++ (if far = part then [] else midB k n part (far / 2) part (far - part))
def outB : Nat → Nat → Nat → Nat → List Pr
  | 0, _, _, _ => []
  | k + 1, n, top, part => if part = 0 then [] else midB 9 n part top 0 part ++ outB k n top (part / 2)
def topB (n : Nat) : Nat := if n ≤ 2 then 1 else if n ≤ 4 then 2 else if n ≤ 8 then 4 else 8
def buildL (n : Nat) : List Pr := outB 9 n (topB n) (topB n)

/-- all rows of dark and bright lamps at once, a number for each place -/
def cexW (x : Pr) (L : List Nat) : List Nat := (L.set x.1 (L.getD x.1 0 ||| L.getD x.2 0)).set x.2 (L.getD x.1 0 &&& L.getD x.2 0)
def runW (p : List Pr) (L : List Nat) : List Nat := p.foldl (fun L x => cexW x L) L
theorem cexW_len (x : Pr) (L : List Nat) : (cexW x L).length = L.length := by simp [cexW]
theorem cexW_bit {x : Pr} {L : List Nat} (h : x.1 < x.2 ∧ x.2 < L.length) (k i : Nat) (hi : i < L.length) : ((cexW x L).getD i 0).testBit k = xch x (fun i => (L.getD i 0).testBit k) i := by
  unfold cexW xch
  simp only [List.getD_eq_getElem?_getD, List.getElem?_set, List.length_set]
  by_cases e2 : x.2 = i
  · subst e2; simp [h.2]
  · have : ¬ i = x.2 := fun e => e2 e.symm
    rw [if_neg e2, if_neg this]
    by_cases e1 : x.1 = i
    · subst e1; simp [hi]
    · have : ¬ i = x.1 := fun e => e1 e.symm
      rw [if_neg e1, if_neg this]
theorem runW_bit (n k : Nat) : ∀ (p : List Pr), OkP n p → ∀ L : List Nat, L.length = n → ∀ i, i < n → ((runW p L).getD i 0).testBit k = runB p (fun i => (L.getD i 0).testBit k) i
  | [], _, _, _, _, _ => rfl
  | x :: p, hp, L, hl, i, hi => by
    show ((runW p (cexW x L)).getD i 0).testBit k = runB p (xch x fun i => (L.getD i 0).testBit k) i
    rw [runW_bit n k p hp.tail _ (by rw [cexW_len, hl]) i hi]
    exact runB_congr p hp.tail (fun i hi => cexW_bit (by rw [hl]; exact hp.head) k i (by rw [hl]; exact hi)) i hi
/-- the number of all rows at a place: 2^b zeros and 2^b ones, again and again -/
def repW : Nat → Nat → Nat
  | b, 0 => 0
  | b, m + 1 => repW b m ||| ((2 ^ (2 ^ b) - 1) <<< (2 ^ b + 2 ^ (b + 1) * m))
def tabW (n : Nat) : List Nat := (List.range n).map fun i => repW (n - 1 - i) (2 ^ i)
/-- what is to be looked at: valid pairs, not too many, and each row in order behind them -/
def okOrd : List Nat → Bool
  | a :: b :: L => Nat.beq (b &&& a) b && okOrd (b :: L)
  | _ => true
def okTab (n : Nat) : Bool := (List.range n).all fun i => (List.range (2 ^ n)).all fun k => ((tabW n).getD i 0).testBit k == k.testBit (n - 1 - i)
def okAll (n : Nat) : Bool := (buildL n).all (fun x => decide (x.1 < x.2) && decide (x.2 < n)) && decide ((buildL n).length ≤ n * (n - 1) / 2) && okTab n && okOrd (runW (buildL n) (tabW n))
set_option maxRecDepth 100000 in
theorem okAll_all : ((List.range 11).all fun i => okAll (i + 2)) = true := by decide +kernel
theorem okAll_at {n : Nat} (h1 : 2 ≤ n) (h2 : n ≤ 12) : okAll n = true := by
  have := List.all_eq_true.1 okAll_all (n - 2) (by simp; omega)
  rwa [show n - 2 + 2 = n by omega] at this
theorem okOrd_at : ∀ (L : List Nat), okOrd L = true → ∀ i, i + 1 < L.length → L.getD (i + 1) 0 &&& L.getD i 0 = L.getD (i + 1) 0
  | [], _, i, h => by simp at h
  | [a], _, i, h => by simp at h
  | a :: b :: L, ho, 0, h => by
    simp only [okOrd, Bool.and_eq_true] at ho
    simpa using Nat.eq_of_beq_eq_true ho.1
  | a :: b :: L, ho, i + 1, h => by
    simp only [okOrd, Bool.and_eq_true] at ho
    have := okOrd_at (b :: L) ho.2 i (by simpa using h)
    simpa using this
theorem build_ok {n : Nat} (h1 : 2 ≤ n) (h2 : n ≤ 12) : OkP n (buildL n) ∧ (buildL n).length ≤ n * (n - 1) / 2 := by
  have := okAll_at h1 h2
  unfold okAll at this
  simp only [Bool.and_eq_true, List.all_eq_true, decide_eq_true_eq] at this
  exact ⟨fun x hx => this.1.1.1 x hx, this.1.1.2⟩
theorem runW_len (p : List Pr) : ∀ L, (runW p L).length = L.length := by
  induction p with
  | nil => intro L; rfl
  | cons x p ih => intro L; show (runW p (cexW x L)).length = _; rw [ih, cexW_len]
theorem build_sorts {n : Nat} (h1 : 2 ≤ n) (h2 : n ≤ 12) (k : Nat) (hk : k < 2 ^ n) : unord n (fun _ _ => true) (runB (buildL n) (tab n k)) = false := by
  have := okAll_at h1 h2
  unfold okAll at this
  simp only [Bool.and_eq_true] at this
  obtain ⟨⟨-, ht⟩, ho⟩ := this
  obtain ⟨hok, -⟩ := build_ok h1 h2
  have htl : (tabW n).length = n := by simp [tabW]
  have hb : ∀ i, i < n → ((runW (buildL n) (tabW n)).getD i 0).testBit k = runB (buildL n) (tab n k) i := fun i hi => by
    rw [runW_bit n k _ hok _ htl i hi]
    refine runB_congr _ hok (fun i hi => ?_) i hi
    unfold okTab at ht
    simp only [List.all_eq_true, List.mem_range, beq_iff_eq] at ht
    exact ht i hi k hk
  have hadj : ∀ i, i + 1 < n → runB (buildL n) (tab n k) (i + 1) = true → runB (buildL n) (tab n k) i = true := fun i hi h => by
    have h3 := okOrd_at _ ho i (by rw [runW_len, htl]; exact hi)
    have h4 := congrArg (fun x => x.testBit k) h3
    simp only [Nat.testBit_and] at h4
    rw [hb (i + 1) hi, hb i (by omega), h] at h4
    simpa using h4
  have hall : ∀ i j, i ≤ j → j < n → runB (buildL n) (tab n k) j = true → runB (buildL n) (tab n k) i = true := by
    intro i j hij
    induction hij with
    | refl => intro _ h; exact h
    | step _ ih => intro hj h; exact ih (by omega) (hadj _ hj h)
  cases hc : unord n (fun _ _ => true) (runB (buildL n) (tab n k)) with
  | false => rfl
  | true =>
    obtain ⟨j, i, hj, hi, -, e1, e2⟩ := unord_iff.1 hc
    rw [hall i j (by omega) hj e1] at e2
    cases e2

end Bm
end

/- Plain laws of bars: fractions in least terms, the power of a lamp, its span; places. -/
section
set_option linter.unusedSimpArgs false
set_option linter.unusedVariables false
namespace Bm

def red (n d : Int) : Int × Int := (n / (Int.gcd n d : Int), d / (Int.gcd n d : Int))
theorem gcd_pos {n d : Int} (hd : 1 ≤ d) : 1 ≤ (Int.gcd n d : Int) := by
  have : 0 < Int.gcd n d := Int.gcd_pos_of_ne_zero_right _ (by omega)
  omega
theorem red_spec {n d : Int} (hn : 0 ≤ n) (hd : 1 ≤ d) : ∃ g : Int, 1 ≤ g ∧ n = (red n d).1 * g ∧ d = (red n d).2 * g ∧ 0 ≤ (red n d).1 ∧ 1 ≤ (red n d).2 ∧ Int.gcd (red n d).1 (red n d).2 = 1 ∧ (red n d).1 ≤ n ∧ (red n d).2 ≤ d := by
  have hg := gcd_pos (n := n) hd
  have e1 : n = (red n d).1 * (Int.gcd n d : Int) := (Int.ediv_mul_cancel (Int.gcd_dvd_left ..)).symm
  have e2 : d = (red n d).2 * (Int.gcd n d : Int) := (Int.ediv_mul_cancel (Int.gcd_dvd_right ..)).symm
  refine ⟨_, hg, e1, e2, Int.ediv_nonneg hn (by omega), ?_, ?_, ?_, ?_⟩
  · rcases Int.lt_or_le 0 (red n d).2 with h | h
    · omega
    · have : (red n d).2 * (Int.gcd n d : Int) ≤ 0 := Int.mul_nonpos_of_nonpos_of_nonneg h (by omega)
      omega
  · exact Int.gcd_ediv_gcd_ediv_gcd (Int.gcd_pos_of_ne_zero_right _ (by omega))
  · exact Int.ediv_le_self _ hn
  · exact Int.ediv_le_self _ (by omega)
theorem dvd_of_cop {a b c : Int} (h : a ∣ c * b) (hg : Int.gcd a b = 1) : a ∣ c := by
  have h1 : (a.natAbs : Nat) ∣ c.natAbs * b.natAbs := by rw [← Int.natAbs_mul]; exact Int.natAbs_dvd_natAbs.2 h
  have h2 : Nat.Coprime a.natAbs b.natAbs := hg
  exact Int.natAbs_dvd_natAbs.1 (h2.dvd_of_dvd_mul_right h1)
theorem red_uniq {a b c d : Int} (hb : 0 < b) (hd : 0 < d) (h1 : Int.gcd a b = 1) (h2 : Int.gcd c d = 1) (h : a * d = c * b) : a = c ∧ b = d := by
  have e1 : b ∣ d := by
    have : b ∣ d * a := ⟨c, by rw [Int.mul_comm d a, h, Int.mul_comm]⟩
    exact dvd_of_cop this (by rw [Int.gcd_comm]; exact h1)
  have e2 : d ∣ b := by
    have : d ∣ b * c := ⟨a, by rw [Int.mul_comm b c, ← h, Int.mul_comm]⟩
    exact dvd_of_cop this (by rw [Int.gcd_comm]; exact h2)
  have e3 : b = d := Int.dvd_antisymm (by omega) (by omega) e1 e2
  subst e3
  exact ⟨Int.eq_of_mul_eq_mul_right (by omega) h, rfl⟩
theorem red_of {n d a b : Int} (hn : 0 ≤ n) (hd : 1 ≤ d) (hb : 1 ≤ b) (hg : Int.gcd a b = 1) (h : a * d = n * b) : red n d = (a, b) := by
  obtain ⟨g, g1, e1, e2, p1, p2, hg2, -, -⟩ := red_spec hn hd
  generalize red n d = r at *
  obtain ⟨x, y⟩ := r
  dsimp only at *
  have hx : a * y = x * b := by
    have : (a * y) * g = (x * b) * g := by
      rw [e1, e2] at h
      calc a * y * g = a * (y * g) := by rw [Int.mul_assoc]
        _ = x * g * b := h
        _ = x * b * g := by rw [Int.mul_assoc, Int.mul_assoc, Int.mul_comm g b]
    exact Int.eq_of_mul_eq_mul_right (by omega) this
  obtain ⟨h3, h4⟩ := red_uniq (by omega) (by omega) hg hg2 hx
  rw [h3, h4]
theorem red_self {a b : Int} (ha : 0 ≤ a) (hb : 1 ≤ b) (hg : Int.gcd a b = 1) : red a b = (a, b) := red_of ha hb hb hg rfl

/-- the light of the lamp alone -/
def lgt (p s t : Int) : Int := max 0 (1000000 * p - t * s * s)
/-- the power of the lamp by a truth -/
def pwr (l p s t : Int) : Int × Int := red (lgt p s t * (l - s) * (l - s)) (1000000 * s * s)
theorem cop_dvd {a b c d : Int} (h : Int.gcd a b = 1) (h1 : c ∣ a) (h2 : d ∣ b) : Int.gcd c d = 1 := by
  have h3 : Nat.Coprime a.natAbs b.natAbs := h
  exact (h3.coprime_dvd_left (Int.natAbs_dvd_natAbs.2 h1)).coprime_dvd_right (Int.natAbs_dvd_natAbs.2 h2)
theorem cop_mul {a b c d : Int} (h1 : Int.gcd a c = 1) (h2 : Int.gcd a d = 1) (h3 : Int.gcd b c = 1) (h4 : Int.gcd b d = 1) : Int.gcd (a * b) (c * d) = 1 := by
  show Nat.gcd (a * b).natAbs (c * d).natAbs = 1
  rw [Int.natAbs_mul, Int.natAbs_mul]
  have k1 : Nat.Coprime a.natAbs c.natAbs := h1
  have k2 : Nat.Coprime a.natAbs d.natAbs := h2
  have k3 : Nat.Coprime b.natAbs c.natAbs := h3
  have k4 : Nat.Coprime b.natAbs d.natAbs := h4
  exact (Nat.Coprime.mul_right k1 k2).mul_left (Nat.Coprime.mul_right k3 k4)
/-- the power as the reference finds it -/
def rpw (f n L : Int) : Int × Int :=
  ((red (red f n).1 (red L 1000000).2).1 * (red (red L 1000000).1 (red f n).2).1, (red (red f n).1 (red L 1000000).2).2 * (red (red L 1000000).1 (red f n).2).2)
theorem rpw_eq {f n L : Int} (hf : 0 ≤ f) (hn : 1 ≤ n) (hL : 0 ≤ L) : rpw f n L = red (L * f) (1000000 * n) := by
  unfold rpw
  obtain ⟨g1, a1, e1, e2, p1, p2, c1, -, -⟩ := red_spec hf hn
  obtain ⟨g2, a2, e3, e4, p3, p4, c2, -, -⟩ := red_spec (d := 1000000) hL (by omega)
  generalize red f n = k at *
  generalize red L 1000000 = m at *
  obtain ⟨k1, k2⟩ := k
  obtain ⟨m1, m2⟩ := m
  dsimp only at *
  obtain ⟨g3, a3, e5, e6, p5, p6, c3, -, -⟩ := red_spec p1 p4
  obtain ⟨g4, a4, e7, e8, p7, p8, c4, -, -⟩ := red_spec p3 p2
  generalize red k1 m2 = x at *
  generalize red m1 k2 = y at *
  obtain ⟨x1, x2⟩ := x
  obtain ⟨y1, y2⟩ := y
  dsimp only at *
  symm
  refine red_of (Int.mul_nonneg hL hf) (by omega) (Int.mul_pos (by omega) (by omega)) ?_ ?_
  · refine cop_mul c3 ?_ ?_ c4
    · exact cop_dvd c1 ⟨g3, e5⟩ ⟨g4, e8⟩
    · exact cop_dvd c2 ⟨g4, e7⟩ ⟨g3, e6⟩
  · rw [e4, e2, e3, e1, e5, e6, e7, e8]
    ac_rfl
theorem pwr_rpw {l p s t : Int} (hs : 1 ≤ s) (hl : s ≤ l) : rpw ((l - s) * (l - s)) (s * s) (lgt p s t) = pwr l p s t := by
  have h1 : 1 ≤ s * s := Int.mul_pos (by omega) (by omega)
  rw [rpw_eq (Int.mul_nonneg (by omega) (by omega)) h1 (by unfold lgt; omega), pwr, Int.mul_assoc, Int.mul_assoc 1000000]
theorem mul_mono {a b c d : Int} (h1 : a ≤ b) (h2 : c ≤ d) (hc : 0 ≤ c) (hb : 0 ≤ b) : a * c ≤ b * d :=
  Int.le_trans (Int.mul_le_mul_of_nonneg_right h1 hc) (Int.mul_le_mul_of_nonneg_left h2 hb)
/-- less light, and a screen farther from the standard: less power -/
theorem lgt_mono {p1 p2 s1 s2 t1 t2 : Int} (hp : p1 ≤ p2) (hp0 : 0 ≤ p1) (hs : s2 ≤ s1) (hs0 : 1 ≤ s2) (ht : t2 ≤ t1) (ht0 : 0 ≤ t2) : lgt p1 s1 t1 * (s2 * s2) ≤ lgt p2 s2 t2 * (s1 * s1) := by
  have q1 : 0 ≤ s1 * s1 := Int.mul_nonneg (by omega) (by omega)
  have q2 : 0 ≤ s2 * s2 := Int.mul_nonneg (by omega) (by omega)
  have q3 : s2 * s2 ≤ s1 * s1 := mul_mono hs hs (by omega) (by omega)
  have q0 : 0 ≤ lgt p2 s2 t2 * (s1 * s1) := Int.mul_nonneg (by unfold lgt; omega) q1
  by_cases h : 1000000 * p1 - t1 * s1 * s1 ≤ 0
  · have : lgt p1 s1 t1 = 0 := by unfold lgt; omega
    rw [this, Int.zero_mul]; exact q0
  · have e1 : lgt p1 s1 t1 = 1000000 * p1 - t1 * s1 * s1 := by unfold lgt; omega
    have e2 : 1000000 * p2 - t2 * s2 * s2 ≤ lgt p2 s2 t2 := by unfold lgt; omega
    have e3 := Int.mul_le_mul_of_nonneg_right e2 q1
    refine Int.le_trans ?_ e3
    rw [e1, Int.sub_mul, Int.sub_mul, Int.mul_assoc t1, Int.mul_assoc t2]
    have r1 : 1000000 * p1 * (s2 * s2) ≤ 1000000 * p2 * (s1 * s1) := mul_mono (by omega) q3 q2 (by omega)
    have r2 : t2 * (s2 * s2) * (s1 * s1) ≤ t1 * (s1 * s1) * (s2 * s2) := by
      calc t2 * (s2 * s2) * (s1 * s1) = t2 * ((s1 * s1) * (s2 * s2)) := by ac_rfl
        _ ≤ t1 * ((s1 * s1) * (s2 * s2)) := Int.mul_le_mul_of_nonneg_right ht (Int.mul_nonneg q1 q2)
        _ = t1 * (s1 * s1) * (s2 * s2) := by ac_rfl
    omega
/-- one fraction is at most another one -/
def leR (a b : Int × Int) : Prop := a.1 * b.2 ≤ b.1 * a.2
theorem red_le {n d n' d' : Int} (hn : 0 ≤ n) (hd : 1 ≤ d) (hn' : 0 ≤ n') (hd' : 1 ≤ d') (h : n * d' ≤ n' * d) : leR (red n d) (red n' d') := by
  obtain ⟨g1, a1, e1, e2, p1, p2, c1, -, -⟩ := red_spec hn hd
  obtain ⟨g2, a2, e3, e4, p3, p4, c2, -, -⟩ := red_spec hn' hd'
  unfold leR
  generalize red n d = k at *
  generalize red n' d' = m at *
  obtain ⟨k1, k2⟩ := k
  obtain ⟨m1, m2⟩ := m
  dsimp only at *
  rw [e1, e4, e3, e2] at h
  have h2 : (k1 * m2) * (g1 * g2) ≤ (m1 * k2) * (g1 * g2) := by
    calc (k1 * m2) * (g1 * g2) = k1 * g1 * (m2 * g2) := by ac_rfl
      _ ≤ m1 * g2 * (k2 * g1) := h
      _ = (m1 * k2) * (g1 * g2) := by ac_rfl
  exact Int.le_of_mul_le_mul_right h2 (Int.mul_pos (by omega) (by omega))
theorem pwr_mono {l p1 p2 s1 s2 t1 t2 : Int} (hp : p1 ≤ p2) (hp0 : 0 ≤ p1) (hs : s2 ≤ s1) (hs0 : 1 ≤ s2) (hl : s1 ≤ l) (ht : t2 ≤ t1) (ht0 : 0 ≤ t2) : leR (pwr l p1 s1 t1) (pwr l p2 s2 t2) := by
  have q1 : 1 ≤ s1 * s1 := Int.mul_pos (by omega) (by omega)
  have q2 : 1 ≤ s2 * s2 := Int.mul_pos (by omega) (by omega)
  have f1 : 0 ≤ (l - s1) * (l - s1) := Int.mul_nonneg (by omega) (by omega)
  have f2 : 0 ≤ (l - s2) * (l - s2) := Int.mul_nonneg (by omega) (by omega)
  have f3 : (l - s1) * (l - s1) ≤ (l - s2) * (l - s2) := mul_mono (by omega) (by omega) (by omega) (by omega)
  have g1 : 0 ≤ lgt p1 s1 t1 := by unfold lgt; omega
  have g2 : 0 ≤ lgt p2 s2 t2 := by unfold lgt; omega
  unfold pwr
  rw [Int.mul_assoc, Int.mul_assoc, Int.mul_assoc, Int.mul_assoc 1000000]
  refine red_le (Int.mul_nonneg g1 f1) (by omega) (Int.mul_nonneg g2 f2) (by omega) ?_
  have h := mul_mono (lgt_mono hp hp0 hs hs0 ht ht0) f3 f1 (Int.mul_nonneg g2 (by omega))
  have h2 := Int.mul_le_mul_of_nonneg_left h (show (0 : Int) ≤ 1000000 by omega)
  calc lgt p1 s1 t1 * ((l - s1) * (l - s1)) * (1000000 * (s2 * s2)) = 1000000 * (lgt p1 s1 t1 * (s2 * s2) * ((l - s1) * (l - s1))) := by ac_rfl
    _ ≤ 1000000 * (lgt p2 s2 t2 * (s1 * s1) * ((l - s2) * (l - s2))) := h2
    _ = lgt p2 s2 t2 * ((l - s2) * (l - s2)) * (1000000 * (s1 * s1)) := by ac_rfl
theorem pwr_spec {l p s t : Int} (hs : 1 ≤ s) (hl : s ≤ l) : 0 ≤ (pwr l p s t).1 ∧ 1 ≤ (pwr l p s t).2 ∧ Int.gcd (pwr l p s t).1 (pwr l p s t).2 = 1 := by
  have q1 : 1 ≤ s * s := Int.mul_pos (by omega) (by omega)
  obtain ⟨g, -, -, -, h1, h2, h3, -, -⟩ := red_spec (n := lgt p s t * (l - s) * (l - s)) (d := 1000000 * s * s) (by rw [Int.mul_assoc]; exact Int.mul_nonneg (by unfold lgt; omega) (Int.mul_nonneg (by omega) (by omega))) (by rw [Int.mul_assoc]; omega)
  exact ⟨h1, h2, h3⟩
/-- the lamp as the standard, the standard as the lamp -/
theorem pwr_back {l p s W : Int} (hs : 1 ≤ s) (hl : s < l) (hp : 0 ≤ p) (h : pwr l p s 0 = (W, 1)) : pwr l W (l - s) 0 = (p, 1) := by
  have q1 : 1 ≤ s * s := Int.mul_pos (by omega) (by omega)
  have q2 : 1 ≤ (l - s) * (l - s) := Int.mul_pos (by omega) (by omega)
  have e0 : ∀ x y : Int, 0 ≤ x → lgt x y 0 = 1000000 * x := fun x y hx => by unfold lgt; simp; omega
  have hW : 0 ≤ W := by have := (pwr_spec (p := p) (t := 0) hs (by omega : s ≤ l)).1; rw [h] at this; exact this
  unfold pwr at h ⊢
  rw [e0 _ _ hp] at h
  rw [e0 _ _ hW]
  obtain ⟨g, hg, e1, e2, -, -, -, -, -⟩ := red_spec (n := 1000000 * p * (l - s) * (l - s)) (d := 1000000 * s * s) (by rw [Int.mul_assoc]; exact Int.mul_nonneg (by omega) (by omega)) (by rw [Int.mul_assoc]; omega)
  rw [h] at e1 e2
  dsimp only at e1 e2
  rw [Int.one_mul] at e2
  have e3 : p * ((l - s) * (l - s)) = W * (s * s) := by
    rw [← e2] at e1
    have : 1000000 * (p * ((l - s) * (l - s))) = 1000000 * (W * (s * s)) := by
      calc 1000000 * (p * ((l - s) * (l - s))) = 1000000 * p * (l - s) * (l - s) := by ac_rfl
        _ = W * (1000000 * s * s) := e1
        _ = _ := by ac_rfl
    omega
  have e4 : l - (l - s) = s := by omega
  rw [e4]
  refine red_of (by rw [Int.mul_assoc]; exact Int.mul_nonneg (by omega) (by omega)) (by rw [Int.mul_assoc]; omega) (by omega) (by simp) ?_
  calc p * (1000000 * (l - s) * (l - s)) = 1000000 * (p * ((l - s) * (l - s))) := by ac_rfl
    _ = 1000000 * (W * (s * s)) := by rw [e3]
    _ = 1000000 * W * s * s * 1 := by rw [Int.mul_one]; ac_rfl

end Bm
end
