/- Plain laws of outcomes: the odds of an outcome, where the iterator stands. -/
import Derived.Test.YtcmllkjgggcghaaEC6
namespace Go.Proofs.Ytcmllkjgggcghaa
set_option linter.unusedSimpArgs false
set_option linter.unusedVariables false

/-- the odds of the outcome with a number -/
def ocG (zs : List Pl) (n N : Nat) : Int := oddG zs (digs zs n N) n
def ocE (zs : List Pl) (n N : Nat) : Int := oddE zs (digs zs n N) n

theorem odd_congr (zs : List Pl) (f g : Nat → Nat) : ∀ k, (∀ i, i < k → f i = g i) → oddG zs f k = oddG zs g k ∧ oddE zs f k = oddE zs g k
  | 0, _ => ⟨rfl, rfl⟩
  | k + 1, h => by
    have h1 := odd_congr zs f g k (fun i hi => h i (by omega))
    simp only [oddG, oddE, h1.1, h1.2, h k (by omega), and_self]

/-- answers that stand at a number -/
structure At (zs : List Pl) (n N : Nat) (f : Nat → Nat) : Prop where
  fit : Fit zs f
  vl : vl (fun i => (plAt zs i).gn) n f = N
  out : ∀ i, n ≤ i → f i = 0

theorem lens_pos {zs : List Pl} {n : Nat} (hl : zs.length = n) (hg : ∀ p ∈ zs, Good p) : ∀ i, i < n → 0 < (plAt zs i).gn := by
  intro i hi
  have hget : zs[i]? = some zs[i] := List.getElem?_eq_getElem (by omega)
  have := (hg zs[i] (List.getElem_mem (by omega))).g2
  rw [plAt_eq hget]; omega

theorem fit_lt {zs : List Pl} {n : Nat} {f : Nat → Nat} (hl : zs.length = n) (hf : Fit zs f) : ∀ i, i < n → f i < (plAt zs i).gn := by
  intro i hi
  have hget : zs[i]? = some zs[i] := List.getElem?_eq_getElem (by omega)
  rw [plAt_eq hget]; exact hf i _ hget
theorem fit_of_lt {zs : List Pl} {n : Nat} {f : Nat → Nat} (hl : zs.length = n) (hf : ∀ i, i < n → f i < (plAt zs i).gn) : Fit zs f := by
  intro k p hk
  have hkn : k < n := by rw [← hl]; exact (List.getElem?_eq_some_iff.1 hk).1
  have := hf k hkn
  rw [plAt_eq hk] at this
  exact this

theorem vl_zero {L : Nat → Nat} : ∀ k, vl L k (fun _ => 0) = 0
  | 0 => rfl
  | k + 1 => by simp [vl, vl_zero k]

theorem At.start {zs : List Pl} {n : Nat} (hl : zs.length = n) (hg : ∀ p ∈ zs, Good p) : At zs n 0 (fun _ => 0) :=
  ⟨fit_of_lt hl (lens_pos hl hg), vl_zero n, fun _ _ => rfl⟩

theorem At.lt {zs : List Pl} {n N : Nat} {f : Nat → Nat} (h : At zs n N f) (hl : zs.length = n) : N < manyT zs := by
  rw [← mt_all hl, ← h.vl]
  exact vl_lt n f (fit_lt hl h.fit)

theorem At.odds {zs : List Pl} {n N : Nat} {f : Nat → Nat} (h : At zs n N f) (hl : zs.length = n) (hg : ∀ p ∈ zs, Good p) : oddG zs f n = ocG zs n N ∧ oddE zs f n = ocE zs n N := by
  have hN : N < mt (fun i => (plAt zs i).gn) n := by rw [mt_all hl]; exact h.lt hl
  have hd := dig_vl (L := fun i => (plAt zs i).gn) n N (fun _ => 0) (lens_pos hl hg) hN
  have := odd_congr zs f (digs zs n N) n (vl_inj n f _ (fit_lt hl h.fit) hd.2.1 (h.vl.trans hd.1.symm))
  exact this

theorem At.next {zs : List Pl} {n N : Nat} {f : Nat → Nat} (h : At zs n N f) (hl : zs.length = n) (hN : N + 1 < manyT zs) : At zs n (N + 1) (nextA (fun i => (plAt zs i).gn) n f) := by
  obtain ⟨h1, h2, h3, h4⟩ := next_vl (L := fun i => (plAt zs i).gn) n f (fit_lt hl h.fit)
  refine ⟨fit_of_lt hl h3, ?_, fun i hi => by rw [h4 i hi, h.out i hi]⟩
  rw [h1 (by rw [h.vl, mt_all hl]; exact hN), h.vl]
theorem At.last {zs : List Pl} {n N : Nat} {f : Nat → Nat} (h : At zs n N f) (hl : zs.length = n) (hN : N + 1 = manyT zs) : ∀ i, nextA (fun i => (plAt zs i).gn) n f i = 0 := by
  obtain ⟨h1, h2, h3, h4⟩ := next_vl (L := fun i => (plAt zs i).gn) n f (fit_lt hl h.fit)
  intro i
  rcases Nat.lt_or_ge i n with hi | hi
  · exact h2 (by rw [h.vl, mt_all hl]; exact hN) i hi
  · rw [h4 i hi, h.out i hi]
theorem At.zero {zs : List Pl} {n N : Nat} {f : Nat → Nat} (h : At zs n N f) (hn : n ≤ 6) (hz : ∀ i, i < 6 → f i = 0) : N = 0 := by
  rw [← h.vl, vl_congr n f (fun _ => 0) (fun i hi => hz i (by omega)), vl_zero]

/-- a first part of a count -/
theorem range_prefix {pre : List Nat} {x M : Nat} (h : (pre ++ [x]) <+: List.range M) : x < M ∧ pre = List.range x := by
  obtain ⟨t, ht⟩ := h
  have hlen := congrArg List.length ht
  simp at hlen
  have hx : pre.length < M := by omega
  have h1 : (List.range M)[pre.length]? = some x := by rw [← ht]; simp
  rw [List.getElem?_range hx] at h1
  injection h1 with h1
  subst h1
  refine ⟨hx, ?_⟩
  have h2 : (List.range M).take pre.length = pre := by rw [← ht]; simp [List.take_append]
  conv => lhs; rw [← h2, List.take_range, Nat.min_eq_left (by omega)]
theorem range_pre {pre : List Nat} {M : Nat} (h : pre <+: List.range M) : pre = List.range pre.length ∧ pre.length ≤ M := by
  have hl := h.length_le
  rw [List.length_range] at hl
  refine ⟨?_, hl⟩
  obtain ⟨t, ht⟩ := h
  have h2 : (List.range M).take pre.length = pre := by rw [← ht]; simp
  conv => lhs; rw [← h2, List.take_range, Nat.min_eq_left hl]

end Go.Proofs.Ytcmllkjgggcghaa
