/- The walk of package unit's isPath, Path, Follow's parts. -/
import Derived.Test.YtkjoamindolonaaDoorUApp
import Derived.Test.YtkjoamindolonaaDoorUA7
import Derived.Deep.DeepCutAuto
namespace Go.Proofs.YtkjoamindolonaaDoor
open Go.RowKit Go.Shelf
set_option linter.unusedSimpArgs false
set_option linter.unusedVariables false
open Um (frac S4 spanB spanE sp on)

set_option maxHeartbeats 1000000 in
theorem on_any (p q p' q' n : Int) (w : World) (h1 : 0 ≤ p) (h2 : 0 ≤ q) (h3 : 0 ≤ p') (h4 : 0 ≤ q') (H1 : p ≤ 1000000000) (H2 : q ≤ 1000000000) (H3 : p' ≤ 1000000000) (H4 : q' ≤ 1000000000) (hn : 0 ≤ n) (hN : n ≤ 1000000000) :
    Calls Tryd.prog 70 #[.agg #[.int .i64 p, .int .i64 q, .int .i64 p', .int .i64 q'], .int .i64 n] w fun e w' => e = .returned (.agg #[.int .i64 (on (p, q, p', q') n).1, .int .i64 (on (p, q, p', q') n).2.1, .int .i64 (on (p, q, p', q') n).2.2.1, .int .i64 (on (p, q, p', q') n).2.2.2]) ∧ Below w.heap.size w w' := by
  have m1 : 0 ≤ n * p := Int.mul_nonneg hn h1
  have m2 : n * p ≤ 1000000000 * 1000000000 := Int.mul_le_mul hN H1 h1 (by omega)
  have m3 : 0 ≤ n * q := Int.mul_nonneg hn h2
  have m4 : n * q ≤ 1000000000 * 1000000000 := Int.mul_le_mul hN H2 h2 (by omega)
  unfold on
  go_enter Tryd.func70, Tryd.ntmps70
  go_wp2_with fail
  exact bodyPost_ret (v := .agg #[.int .i64 (n * p + p'), .int .i64 (n * q + q'), .int .i64 p, .int .i64 q]) (by simp [results, Tryd.results70, go_sem]) rfl ⟨rfl, (by repeat (first | with_reducible exact Below.refl _ _ | with_reducible assumption | with_reducible refine balloc ?_ _ | with_reducible refine bdrewN ?_ _ | with_reducible refine Below.drew ?_ | (with_reducible refine bset ?_ ?_ _; rotate_left; focus (first | assumption | omega | (simp; done) | (simp; omega))) | with_reducible refine bstep ?_ (by assumption) | assumption))⟩

set_option maxHeartbeats 1000000 in
theorem now_any (p q p' q' : Int) (w : World) :
    Calls Tryd.prog 55 #[.agg #[.int .i64 p, .int .i64 q, .int .i64 p', .int .i64 q']] w fun e w' => e = .returned (.agg #[.int .i64 p, .int .i64 q]) ∧ Below w.heap.size w w' := by
  go_enter Tryd.func55, Tryd.ntmps55
  go_wp2_with fail
  exact bodyPost_ret (v := .agg #[.int .i64 p, .int .i64 q]) (by simp [results, Tryd.results55, go_sem]) rfl ⟨rfl, (by repeat (first | with_reducible exact Below.refl _ _ | with_reducible assumption | with_reducible refine balloc ?_ _ | with_reducible refine bdrewN ?_ _ | with_reducible refine Below.drew ?_ | (with_reducible refine bset ?_ ?_ _; rotate_left; focus (first | assumption | omega | (simp; done) | (simp; omega))) | with_reducible refine bstep ?_ (by assumption) | assumption))⟩

end Go.Proofs.YtkjoamindolonaaDoor
