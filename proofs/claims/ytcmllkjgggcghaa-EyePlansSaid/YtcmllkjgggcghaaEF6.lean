/- Walks of package eye: CheckBest whatever is handed in; the examples' values. -/
import Derived.Test.YtcmllkjgggcghaaEF5
import Derived.Test.YtcmllkjgggcghaaEF1
import Derived.Test.YtcmllkjgggcghaaEA9
import Derived.Test.YtcmllkjgggcghaaEC2
namespace Go.Proofs.Ytcmllkjgggcghaa
open Go.RowKit Go.Shelf
set_option linter.unusedSimpArgs false
set_option linter.unusedVariables false

theorem checkBest_any (A B : Option Addr) (n c Nn C : Nat) (zs : List Pl) (ks : List Int) (N D : Int) (w : World) (hz : Plates w A n zs) (hn : n ≤ 9223372036854775807) (hk : Ints w B Nn ks) (hN : Nn ≤ 9223372036854775807) (r : Int) (hr : r = checkBestP zs n ks N D) :
    Calls Try.prog 18 #[.slice A n c, .slice B Nn C, .agg #[.int .i64 N, .int .i64 D]] w (RetI r w) := by
  subst hr
  by_cases ht : testE zs = 0
  · by_cases hs : setE (manyT zs) ks = 0
    · have hl := hz.1
      obtain ⟨t1, t2, _⟩ := testE_ok ht
      cases hv : isTh N D with
      | true =>
        rw [show checkBestP zs n ks N D = if cbB (ocG zs n) (ocE zs n) ks N D (manyT zs) then 0 else 14 by simp [checkBestP, ht, hs, hv]]
        exact checkBest_ok A B n c Nn C zs ks N D w hz (by omega) hk ht hs hv _ rfl
      | false =>
        rw [show checkBestP zs n ks N D = 2 by simp [checkBestP, ht, hs, hv]]
        exact checkBest_th A B n c Nn C zs ks N D w hz hn hk hN ht hs hv
    · rw [show checkBestP zs n ks N D = setE (manyT zs) ks by simp [checkBestP, ht, hs]]
      exact checkBest_set A B n c Nn C zs ks N D w hz hn hk hN ht hs
  · rw [show checkBestP zs n ks N D = testE zs by simp [checkBestP, ht]]
    exact checkBest_bad A B n c Nn C zs ks N D w hz hn ht

/-- a threshold that is that of the strongest region: told by reckoning -/
def best2B (g e : Nat → Int) (M : Nat) (most : Int) (k0 : Nat) : Bool :=
  decide (most < regG g e M (0, 1)) && live g e k0 && decide (k0 < M) && decide (regG g e M (key g e k0) ≤ most) &&
    (List.range M).all fun k => !(live g e k && decide ((key g e k).1 * (key g e k0).2 < (key g e k0).1 * (key g e k).2)) || decide (most < regG g e M (key g e k))
theorem best2B_spec {g e : Nat → Int} {M : Nat} {most : Int} {k0 : Nat} (h : best2B g e M most k0 = true) : IsBest g e M most (key g e k0) := by
  unfold best2B at h
  simp only [Bool.and_eq_true, decide_eq_true_eq, List.all_eq_true, List.mem_range, Bool.or_eq_true, Bool.not_eq_true'] at h
  obtain ⟨⟨⟨⟨h1, h2⟩, h3⟩, h4⟩, h5⟩ := h
  refine .inr ⟨h1, ⟨k0, h3, h2, rfl⟩, h4, fun k hk hl hlt => ?_⟩
  rcases h5 k hk with h6 | h6
  · exfalso
    unfold lt at hlt
    rw [hl] at h6
    simp at h6
    omega
  · exact h6

section
variable (g1 g2 g3 g4 : Nat)
/-- the examples' test -/
def exT : List Pl := [exPl g1 g2, exPl g3 g4]
theorem ex_test : testE (exT g1 g2 g3 g4) = 0 := by kernel_rfl
theorem ex_whole : whole (exT g1 g2 g3 g4) = 9 := by kernel_rfl
theorem ex_many : manyT (exT g1 g2 g3 g4) = 9 := by kernel_rfl
theorem ex_odds : oddsP (exT g1 g2 g3 g4) 2 [1, 2] = ((1, 2), 0) := by kernel_rfl
theorem ex_region : regionP (exT g1 g2 g3 g4) 2 1 1 = ([5, 7, 8], 0) := by kernel_rfl
theorem ex_r21 : regL (exT g1 g2 g3 g4) 2 (2, 1) 9 = [8] := by kernel_rfl
theorem ex_r01 : regL (exT g1 g2 g3 g4) 2 (0, 1) 9 = [4, 5, 7, 8] := by kernel_rfl
theorem ex_b2 : best2B (ocG (exT g1 g2 g3 g4) 2) (ocE (exT g1 g2 g3 g4) 2) 9 2 5 = true := by kernel_rfl
theorem ex_k5 : key (ocG (exT g1 g2 g3 g4) 2) (ocE (exT g1 g2 g3 g4) 2) 5 = (2, 1) := by kernel_rfl
theorem ex_b9 : decide (regG (ocG (exT g1 g2 g3 g4) 2) (ocE (exT g1 g2 g3 g4) 2) 9 (0, 1) ≤ 9) = true := by kernel_rfl
theorem ex_c1 : checkBestP (exT g1 g2 g3 g4) 2 [5, 8] 2 1 = 0 := by kernel_rfl
theorem ex_c2 : checkBestP (exT g1 g2 g3 g4) 2 [5, 7] 2 1 = 14 := by kernel_rfl
end
theorem ex_tail : tailP 3 2 1 3 = ((7, 27), 0) := by kernel_rfl
theorem ex_p1 : planE 1 2 9 10 1 8 3 10 = ((3, 3), 0) := by kernel_rfl
theorem ex_p2 : planE 1 2 1 2 1 8 3 10 = ((0, 0), 22) := by kernel_rfl

end Go.Proofs.Ytcmllkjgggcghaa
