/- VT VT4 -/
import Derived.Test.YtlbjnkopbabcnaaGreatDoorYV06
import Derived.Test.YtlbjnkopbabcnaaGreatDoorYV07
import Derived.Test.YtlbjnkopbabcnaaGreatDoorYV08
import Derived.Test.YtlbjnkopbabcnaaGreatDoorYB01
import Derived.Test.YtlbjnkopbabcnaaGreatDoorYV09
import Derived.Test.YtlbjnkopbabcnaaGreatDoorYV10
/- The examples of three stages, called one after the other. -/
section
namespace Go.Proofs.YtlbjnkopbabcnaaGreatDoor
open Go.RowKit Go.Shelf
set_option linter.unusedSimpArgs false
set_option linter.unusedVariables false
theorem GlobW.below {w w' : World} (h : GlobW w) (hb : Below w.heap.size w w') : GlobW w' := by
  intro k g p hg hp j hj
  have e := h k g p hg hp j hj
  rw [← e]
  have hlt : g < w.heap.size := by
    rw [List.getElem?_eq_getElem (by simpa using hj)] at e
    by_cases c : g < w.heap.size
    · exact c
    · simp [World.cell?, Array.getElem?_eq_none (Nat.le_of_not_lt c)] at e
  exact hb.cell (p := ⟨g, j, none⟩) hlt

set_option maxRecDepth 100000 in
set_option maxHeartbeats 4000000 in
theorem top_works03_any (w : World) (hW : GlobW w) :
    Calls Tryz.prog 51 #[] w fun e w' => e = .returned (.bool true) ∧ Below w.heap.size w w' := by
  have k1 := fun W h => works01_any W h
  have k2 := fun W h => works02_any W h
  have k3 := fun W h => works03_any W h
  have HW := Lib.hid hW
  clear hW
  go_enter Tryz.func51, Tryz.ntmps51
  go_wp2_with fail
  refine (k1 _ (HW.out.below blA)).mono ?_
  rintro e w1 ⟨rfl, hb1⟩
  go_wp2_with fail
  refine (k2 _ (HW.out.below blA)).mono ?_
  rintro e w2 ⟨rfl, hb2⟩
  go_wp2_with fail
  refine (k3 _ (HW.out.below blA)).mono ?_
  rintro e w3 ⟨rfl, hb3⟩
  go_wp2_with fail
  go_ret
  exact ⟨rfl, blA⟩
end Go.Proofs.YtlbjnkopbabcnaaGreatDoor
end

/- The examples of four stages, and of five. -/
section
namespace Go.Proofs.YtlbjnkopbabcnaaGreatDoor
open Go.RowKit Go.Shelf
set_option linter.unusedSimpArgs false
set_option linter.unusedVariables false
set_option maxRecDepth 100000 in
set_option maxHeartbeats 4000000 in
theorem top_works04_any (w : World) (hW : GlobW w) :
    Calls Tryz.prog 12 #[] w fun e w' => e = .returned (.bool true) ∧ Below w.heap.size w w' := by
  have k1 := fun W h => top_works03_any W h
  have k2 := fun W h => works04_any W h
  have HW := Lib.hid hW
  clear hW
  go_enter Tryz.func12, Tryz.ntmps12
  go_wp2_with fail
  refine (k1 _ (HW.out.below blA)).mono ?_
  rintro e w1 ⟨rfl, hb1⟩
  go_wp2_with fail
  refine (k2 _ (HW.out.below blA)).mono ?_
  rintro e w2 ⟨rfl, hb2⟩
  go_wp2_with fail
  go_ret
  exact ⟨rfl, blA⟩

set_option maxRecDepth 100000 in
set_option maxHeartbeats 4000000 in
theorem top_works05_any (w : World) (hW : GlobW w) :
    Calls Tryz.prog 35 #[] w fun e w' => e = .returned (.bool true) ∧ Below w.heap.size w w' := by
  have k1 := fun W h => top_works03_any W h
  have k2 := fun W h => works04_any W h
  have k3 := fun W h => works05_any W h
  have HW := Lib.hid hW
  clear hW
  go_enter Tryz.func35, Tryz.ntmps35
  go_wp2_with fail
  refine (k1 _ (HW.out.below blA)).mono ?_
  rintro e w1 ⟨rfl, hb1⟩
  go_wp2_with fail
  refine (k2 _ (HW.out.below blA)).mono ?_
  rintro e w2 ⟨rfl, hb2⟩
  go_wp2_with fail
  refine (k3 _ (HW.out.below blA)).mono ?_
  rintro e w3 ⟨rfl, hb3⟩
  go_wp2_with fail
  go_ret
  exact ⟨rfl, blA⟩
end Go.Proofs.YtlbjnkopbabcnaaGreatDoor
end
