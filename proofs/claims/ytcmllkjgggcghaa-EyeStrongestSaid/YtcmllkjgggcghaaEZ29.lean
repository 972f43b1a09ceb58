/- EL07 -/
import Derived.Test.YtcmllkjgggcghaaEZ17
import Derived.Test.YtcmllkjgggcghaaEZ28
/- The walk of EyeStrongest. -/
section
namespace Go.Proofs.Ytcmllkjgggcghaa
open Go.RowKit Go.Shelf

theorem eyeStrongest_any (A B D : Option Addr) (n c N C m K : Nat) (zs : List Pl) (gs : List Int) (bs : List Bool) (most tN tD : Int) (w : World) (hz : Plates w A n zs) (hn : n ≤ 9223372036854775807) (hm : 0 ≤ most ∧ most ≤ 4294967295) (hk : Ints w B N gs) (hN : N ≤ 9223372036854775807 ∧ N ≤ C) (hb : Bools w D m bs) (hm2 : m ≤ 9223372036854775807) :
    Calls Try.prog 9 #[.slice A n c, .int .u32 most, .slice B N C, .agg #[.int .i64 tN, .int .i64 tD], .slice D m K] w fun e w' => e = .returned (.bool true) ∧ Below w.heap.size w w' :=
  eyeStrongest_walk works_any A B D n c N C m K zs gs bs most tN tD w hz hn hm hk hN hb hm2

end Go.Proofs.Ytcmllkjgggcghaa
end
