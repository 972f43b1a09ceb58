/- EL09 -/
import Derived.Test.YtcmllkjgggcghaaEZ17
import Derived.Test.YtcmllkjgggcghaaEZ44
/- The walk of EyeOrdered. -/
section
namespace Go.Proofs.Ytcmllkjgggcghaa
open Go.RowKit Go.Shelf

theorem eyeOrdered_any (A : Option Addr) (n c : Nat) (zs : List Pl) (most x y z : Int) (w : World) (hz : Plates w A n zs) (hn : n ≤ 9223372036854775807) (hm : 0 ≤ most ∧ most ≤ 4294967295) (hx : 0 ≤ x ∧ x ≤ 255) (hy : 0 ≤ y ∧ y ≤ 255) (hu : 0 ≤ z ∧ z ≤ 255) :
    Calls Try.prog 11 #[.slice A n c, .int .u32 most, .int .u8 x, .int .u8 y, .int .u8 z] w fun e w' => e = .returned (.bool true) ∧ Below w.heap.size w w' := by
  obtain ⟨a, rfl⟩ := Int.eq_ofNat_of_zero_le hx.1
  obtain ⟨b, rfl⟩ := Int.eq_ofNat_of_zero_le hy.1
  obtain ⟨d, rfl⟩ := Int.eq_ofNat_of_zero_le hu.1
  exact eyeOrdered_walk works_any A n c zs most a b d w hz hn hm (by omega) (by omega) (by omega)

end Go.Proofs.Ytcmllkjgggcghaa
end
