/- PF1 -/
import Derived.Test.YtlbjnkopbabcnaaGreatDoorYP21
/- The walks of a case that is not too large. -/
section
namespace Go.Proofs.YtlbjnkopbabcnaaGreatDoor
open Go.RowKit Go.Shelf
set_option linter.unusedSimpArgs false
set_option linter.unusedVariables false

set_option maxRecDepth 100000 in
set_option maxHeartbeats 4000000 in
theorem case04_any (E : Option Addr) (m ce : Nat) (L : Option Addr) (n cl : Nat) (rs : List (RowR (Int × Int))) (ls : List (Int × Int)) (w : World) (h : Cse w E m L n rs ls) :
    Calls Tryz.prog 11 #[.agg #[.slice E m ce, .slice L n cl]] w fun e w' => (∃ q : Bool, e = .returned (.bool q) ∧ (q = true ↔ CaseOk n ls m rs)) ∧ Below w.heap.size w w' := by
  have k1 := fun (V : World) (hV : Below w.heap.size w V) => rcheckCase_any E m ce L n cl rs ls V (h.below hV)
  have hn := h.ml
  have hm := h.me
  clear h
  have no : ∀ {P : Prop}, ¬ P → (false = true ↔ P) := fun h => ⟨fun e => (by cases e), fun q => absurd q h⟩
  by_cases h1 : n ≤ 12
  · have h1i : (n : Int) ≤ 12 := by omega
    by_cases h2 : m ≤ 6
    · have h2i : (m : Int) ≤ 6 := by omega
      go_enter Tryz.func11, Tryz.ntmps11
      go_wp2_with fail
      refine (k1 _ blA).mono ?_
      rintro _ w1 ⟨⟨q, rfl, hq⟩, hb1⟩
      have hbF : Below w.heap.size w w1 := blA
      have Hq := Lib.hid hq
      clear hq hb1 k1
      by_cases q0 : q = 0
      · have hc := Lib.hid (Hq.out.1 q0)
        subst q0
        go_wp2_with fail
        go_ret
        exact ⟨⟨true, rfl, fun _ => hc.out, fun _ => rfl⟩, hbF⟩
      · have hc := Lib.hid (fun h => q0 (Hq.out.2 h))
        have q1 : (q = 0) = False := eq_false q0
        clear Hq
        go_wp2_with fail
        go_ret
        exact ⟨⟨false, by simp [q0], no hc.out⟩, hbF⟩
    · have h2i : ¬ (m : Int) ≤ 6 := by omega
      have hc := Lib.hid (show ¬ CaseOk n ls m rs from fun h => by have := h.2.2.1; omega)
      clear k1
      go_enter Tryz.func11, Tryz.ntmps11
      go_wp2_with fail
      go_ret
      exact ⟨.inl ⟨rfl, hc.out⟩, blA⟩
  · have h1i : ¬ (n : Int) ≤ 12 := by omega
    have hc := Lib.hid (show ¬ CaseOk n ls m rs from fun h => by have := h.2.1; omega)
    clear k1
    go_enter Tryz.func11, Tryz.ntmps11
    go_wp2_with fail
    go_ret
    exact ⟨.inl ⟨rfl, hc.out⟩, blA⟩
end Go.Proofs.YtlbjnkopbabcnaaGreatDoor
end
