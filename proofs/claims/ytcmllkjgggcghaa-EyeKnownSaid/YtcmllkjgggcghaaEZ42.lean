/- ETie5 -/
import Derived.Test.YtcmllkjgggcghaaEZ18
/- How no argument reads. -/
section
namespace Go.Proofs.Ytcmllkjgggcghaa
open Go.ChangeShapes Go.WideShapes Go.ChangeAt Go.RowKit
set_option linter.unusedVariables false
theorem trodAll_none {H : Type} {enc : TypeId × Value → H} {P : Program} {w : World} {base : Nat} {held : Bool} {spare : Nat → Bool} {args : Array Value} {ds : List (DataW H)} {ps : List MemPlace} (h : DataW.TrodAll enc P w base spare held [] args.toList ds ps) :
    args = #[] ∧ ds = [] ∧ ps = [] := by
  obtain ⟨e, rfl, rfl⟩ := trodAll_nil h
  exact ⟨by cases args; simp_all, rfl, rfl⟩
end Go.Proofs.Ytcmllkjgggcghaa
end
