/- Walks of package eye: Best, whatever is handed in. -/
import Derived.Test.YtcmllkjgggcghaaED9
namespace Go.Proofs.Ytcmllkjgggcghaa
open Go.RowKit Go.Shelf
set_option linter.unusedSimpArgs false
set_option linter.unusedVariables false

theorem RetLRE.nil {w w' : World} {er : Int} {e : Ending} (h : e = .returned (.tuple #[.slice none 0 0, .agg #[.int .i64 0, .int .i64 0], .int .i64 er])) (hb : Below w.heap.size w w') : RetLRE [] (0, 0) er w e w' :=
  ⟨none, 0, 0, h, Ints.nil _ _, hb⟩

set_option maxHeartbeats 1000000 in
theorem best_bad (A : Option Addr) (n c : Nat) (zs : List Pl) (most : Int) (w : World) (hz : Plates w A n zs) (hn : n ≤ 9223372036854775807) (ht : testE zs ≠ 0) :
    Calls Try.prog 20 #[.slice A n c, .int .i64 most] w (RetLRE [] (0, 0) (testE zs) w) := by
  have kn := fun (W : World) (hb : Below w.heap.size w W) => newTest_bad A n c zs W (hz.below hb) hn ht
  have h0 : (testE zs == 0) = false := by simp [ht]
  have h1 : (testE zs != 0) = true := by simp [ht]
  generalize testE zs = e at *
  clear ht hz
  go_enter Try.func20, Try.ntmps20
  go_wp2_with fail
  go_step3
  go_wp2_with fail
  refine (kn _ (by repeat (first | with_reducible exact Below.refl _ _ | with_reducible assumption | with_reducible refine balloc ?_ _ | with_reducible refine bdrewN ?_ _ | with_reducible refine Below.drew ?_ | (with_reducible refine bset ?_ ?_ _; rotate_left; focus (first | assumption | omega | (simp; done) | (simp; omega))) | with_reducible refine bstep ?_ (by assumption) | assumption))).mono ?_
  rintro _ w1 ⟨rfl, hb1⟩
  replace B0 : Cs w1 (w.heap.size) #[.int .i64 0, .int .i64 0] := Cs.keep (by repeat (first | with_reducible assumption | (with_reducible refine Cs.new _ _ _ _ ?_; first | rfl | (simp; done)) | with_reducible refine Cs.alloc ?_ _ | with_reducible refine Cs.drewN ?_ _ | with_reducible refine Cs.drew ?_ | with_reducible refine Cs.set4 ?_ _ _ _ _ | (with_reducible refine Cs.other4 ?_ ?_ _ _ _ _; rotate_left; focus (first | assumption | omega | (simp; done) | (simp; omega))) | with_reducible refine Cs.set2 ?_ _ _ | (with_reducible refine Cs.other2 ?_ ?_ _ _; rotate_left; focus (first | assumption | omega | (simp; done) | (simp; omega))) | (with_reducible refine Cs.other ?_ ?_ _; rotate_left; focus (first | assumption | omega | (simp; done) | (simp; omega))) | with_reducible refine Cs.keep ?_ (by assumption) | assumption)) hb1
  replace hbw : Below w.heap.size w w1 := (by repeat (first | with_reducible exact Below.refl _ _ | with_reducible assumption | with_reducible refine balloc ?_ _ | with_reducible refine bdrewN ?_ _ | with_reducible refine Below.drew ?_ | (with_reducible refine bset ?_ ?_ _; rotate_left; focus (first | assumption | omega | (simp; done) | (simp; omega))) | with_reducible refine bstep ?_ (by assumption) | assumption))
  replace cB0 := B0.c
  replace fB0 := B0.f
  replace lB0 := B0.lt
  clear hb1
  clear kn
  go_wp2_with fail
  have B1 : Cs _ w.heap.size #[.int .i64 0, .int .i64 0] := B0.set2 (.int .i64 0) (.int .i64 0)
  have cB1 := B1.c
  have hbF := bset2 hbw (Nat.le_refl w.heap.size) (.int .i64 0) (.int .i64 0)
  try rw [Exit.noGoto_ret]
  exact bodyPost_ret (v := .tuple #[.slice none 0 0, .agg #[.int .i64 0, .int .i64 0], .int .i64 e]) (by simp [results, Try.results20, go_sem, cB0, fB0, lB0, cB1]) rfl (RetLRE.nil rfl hbF)

set_option maxHeartbeats 1000000 in
theorem best_neg (A : Option Addr) (n c : Nat) (zs : List Pl) (most : Int) (w : World) (hz : Plates w A n zs) (hn : n ≤ 9223372036854775807) (ht : testE zs = 0) (hm : most < 0) :
    Calls Try.prog 20 #[.slice A n c, .int .i64 most] w (RetLRE [] (0, 0) 3 w) := by
  have kn := fun (W : World) (hb : Below w.heap.size w W) => newTest_ok A n c zs W (hz.below hb) hn ht
  clear ht hz
  go_enter Try.func20, Try.ntmps20
  go_wp2_with fail
  go_step3
  go_wp2_with fail
  refine (kn _ (by repeat (first | with_reducible exact Below.refl _ _ | with_reducible assumption | with_reducible refine balloc ?_ _ | with_reducible refine bdrewN ?_ _ | with_reducible refine Below.drew ?_ | (with_reducible refine bset ?_ ?_ _; rotate_left; focus (first | assumption | omega | (simp; done) | (simp; omega))) | with_reducible refine bstep ?_ (by assumption) | assumption))).mono ?_
  rintro _ w1 ⟨g, rfl, hgw, Bg, hb1⟩
  replace B0 : Cs w1 (w.heap.size) #[.int .i64 0, .int .i64 0] := Cs.keep (by repeat (first | with_reducible assumption | (with_reducible refine Cs.new _ _ _ _ ?_; first | rfl | (simp; done)) | with_reducible refine Cs.alloc ?_ _ | with_reducible refine Cs.drewN ?_ _ | with_reducible refine Cs.drew ?_ | with_reducible refine Cs.set4 ?_ _ _ _ _ | (with_reducible refine Cs.other4 ?_ ?_ _ _ _ _; rotate_left; focus (first | assumption | omega | (simp; done) | (simp; omega))) | with_reducible refine Cs.set2 ?_ _ _ | (with_reducible refine Cs.other2 ?_ ?_ _ _; rotate_left; focus (first | assumption | omega | (simp; done) | (simp; omega))) | (with_reducible refine Cs.other ?_ ?_ _; rotate_left; focus (first | assumption | omega | (simp; done) | (simp; omega))) | with_reducible refine Cs.keep ?_ (by assumption) | assumption)) hb1
  replace hbw : Below w.heap.size w w1 := (by repeat (first | with_reducible exact Below.refl _ _ | with_reducible assumption | with_reducible refine balloc ?_ _ | with_reducible refine bdrewN ?_ _ | with_reducible refine Below.drew ?_ | (with_reducible refine bset ?_ ?_ _; rotate_left; focus (first | assumption | omega | (simp; done) | (simp; omega))) | with_reducible refine bstep ?_ (by assumption) | assumption))
  replace cB0 := B0.c
  replace fB0 := B0.f
  replace lB0 := B0.lt
  clear hb1
  clear kn
  go_wp2_with fail
  have B1 : Cs _ w.heap.size #[.int .i64 0, .int .i64 0] := B0.set2 (.int .i64 0) (.int .i64 0)
  have cB1 := B1.c
  have hbF := bset2 hbw (Nat.le_refl w.heap.size) (.int .i64 0) (.int .i64 0)
  try rw [Exit.noGoto_ret]
  exact bodyPost_ret (v := .tuple #[.slice none 0 0, .agg #[.int .i64 0, .int .i64 0], .int .i64 3]) (by simp [results, Try.results20, go_sem, cB0, fB0, lB0, cB1]) rfl (RetLRE.nil rfl hbF)

/-- what Best answers -/
def RetBest (zs : List Pl) (n : Nat) (most : Int) (w : World) (e : Ending) (w' : World) : Prop :=
  if testE zs ≠ 0 then RetLRE [] (0, 0) (testE zs) w e w' else if most < 0 then RetLRE [] (0, 0) 3 w e w' else ∃ t, IsBest (ocG zs n) (ocE zs n) (manyT zs) most t ∧ RetLRE (regL zs n t (manyT zs)) t 0 w e w'

theorem best_any (A : Option Addr) (n c : Nat) (zs : List Pl) (most : Int) (w : World) (hz : Plates w A n zs) (hn : n ≤ 9223372036854775807) (hm : most ≤ 9223372036854775807) :
    Calls Try.prog 20 #[.slice A n c, .int .i64 most] w (RetBest zs n most w) := by
  by_cases ht : testE zs = 0
  · have hl := hz.1
    obtain ⟨t1, t2, _⟩ := testE_ok ht
    by_cases h0 : most < 0
    · rw [show RetBest zs n most w = RetLRE [] (0, 0) 3 w by funext e w'; simp [RetBest, ht, h0]]
      exact best_neg A n c zs most w hz hn ht h0
    · rw [show RetBest zs n most w = fun e w' => ∃ t, IsBest (ocG zs n) (ocE zs n) (manyT zs) most t ∧ RetLRE (regL zs n t (manyT zs)) t 0 w e w' by funext e w'; simp [RetBest, ht, h0]]
      exact best_ok A n c zs most w hz (by omega) ht (by omega) hm
  · rw [show RetBest zs n most w = RetLRE [] (0, 0) (testE zs) w by funext e w'; simp [RetBest, ht]]
    exact best_bad A n c zs most w hz hn ht

end Go.Proofs.Ytcmllkjgggcghaa
