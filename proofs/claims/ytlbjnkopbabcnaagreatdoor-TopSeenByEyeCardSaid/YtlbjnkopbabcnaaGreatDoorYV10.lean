/- VW5 -/
import Derived.Test.YtlbjnkopbabcnaaGreatDoorYV05
import Derived.Test.YtlbjnkopbabcnaaGreatDoorProg

section
namespace Go.Proofs.YtlbjnkopbabcnaaGreatDoor
open Ev Go.RowKit
/-- the examples of a stage are as they are told: reckoned by the kernel -/
theorem yes_works05 : yes Tryz.prog 600 83 glC = true := by kernel_rfl
theorem works05_any (w : World) (hW : GlobW w) : Calls Tryz.prog 83 #[] w fun e w' => e = .returned (.bool true) ∧ Below w.heap.size w w' := glob_calls (by kernel_rfl) yes_works05 w hW
end Go.Proofs.YtlbjnkopbabcnaaGreatDoor
end
