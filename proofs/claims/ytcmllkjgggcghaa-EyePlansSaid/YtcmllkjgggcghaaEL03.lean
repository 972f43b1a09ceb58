/- The walk of EyePlans. -/
import Derived.Test.YtcmllkjgggcghaaEF7
import Derived.Test.YtcmllkjgggcghaaEK03
namespace Go.Proofs.Ytcmllkjgggcghaa
open Go.RowKit Go.Shelf

theorem eyePlans_any (P R a1 b1 a2 b2 a3 b3 a4 b4 : Int) (w : World) :
    Calls Try.prog 5 #[.agg #[.int .i64 P, .int .i64 R], .agg #[.int .i64 a1, .int .i64 b1], .agg #[.int .i64 a2, .int .i64 b2], .agg #[.int .i64 a3, .int .i64 b3], .agg #[.int .i64 a4, .int .i64 b4]] w fun e w' => e = .returned (.bool true) ∧ Below w.heap.size w w' :=
  eyePlans_walk works_any P R a1 b1 a2 b2 a3 b3 a4 b4 w

end Go.Proofs.Ytcmllkjgggcghaa
