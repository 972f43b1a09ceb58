/- How many outcomes a test has: by digits, and by the product. -/
import Derived.Test.YtcmllkjgggcghaaEC5
namespace Go.Proofs.Ytcmllkjgggcghaa

theorem mt_many (zs : List Pl) : ∀ k, k ≤ zs.length → mt (fun i => (plAt zs i).gn) k = manyT (zs.take k)
  | 0, _ => by simp [mt, manyT]
  | k + 1, hk => by
    have hget : zs[k]? = some zs[k] := List.getElem?_eq_getElem (by omega)
    rw [mt, mt_many zs k (by omega), many_next hget, plAt_eq hget]

theorem mt_all {zs : List Pl} {n : Nat} (hl : zs.length = n) : mt (fun i => (plAt zs i).gn) n = manyT zs := by
  rw [mt_many zs n (by omega), List.take_of_length_le (by omega)]

end Go.Proofs.Ytcmllkjgggcghaa
