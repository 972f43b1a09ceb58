/- ETie4 -/
import Derived.Test.YtcmllkjgggcghaaEZ18
import Derived.Test.YtcmllkjgggcghaaEZ26
/- How lists read as arguments: with their capacity; lists of truth values. -/
section
namespace Go.Proofs.Ytcmllkjgggcghaa
open Go.ChangeShapes Go.WideShapes Go.ChangeAt Go.RowKit
set_option linter.unusedSimpArgs false
set_option linter.unusedVariables false

section
variable {H : Type} {enc : TypeId × Value → H}
variable {W : World} {r : Reach} {b0 base : Nat} {sp : Nat → Bool} {held : Bool} {fuel : Nat} {v : Value} {d : DataW H} {p : List MemPlace} {cs : List Value} {x : DataW H × List MemPlace}

theorem trod_listC {T E : TypeId} (hT : Try.prog.underlying T = some (.slice E)) (hE : Try.prog.underlying E = some (.int .i64)) (hc : Try.prog.cellsOf E = 1) (hf : DataW.trod enc Try.prog W base sp held fuel T cs = some x) :
    ∃ (A : Option Addr) (n cap : Nat) (zs : List Int), cs = [.slice A n cap] ∧ Ints W A n zs ∧ n ≤ 9223372036854775807 ∧ n ≤ cap := by
  rcases open_ints hT hE hc hf with ⟨hcs, _⟩ | ⟨a, len', cap', zs, hcs, _, hl, hm, hz, _, hcell, _⟩
  · exact ⟨none, 0, 0, [], hcs, ⟨rfl, fun h => absurd h (by omega)⟩, by omega, by omega⟩
  · unfold maxLen at hm
    have hlen : len' ≤ zs.length := by rw [hz]; split <;> omega
    refine ⟨some a, len', cap', zs.take len', hcs, ⟨by simp; omega, fun hn => ?_⟩, by omega, by omega⟩
    obtain ⟨b, off, rfl, hc⟩ := ints_at hcell (by omega)
    refine ⟨b, off, rfl, cell_lt (hc 0 (by omega)), fun i hi => ?_⟩
    rw [hc i (by omega)]
    simp [List.getD_eq_getElem?_getD, List.getElem?_take_of_lt hi]
set_option maxRecDepth 100000 in
theorem arg_intsC (hv : Value.okWide Try.prog W r b0 23 v) (h : DataW.Trod enc Try.prog W base sp held 23 v d p) :
    ∃ (A : Option Addr) (n cap : Nat) (zs : List Int), v = .slice A n cap ∧ Ints W A n zs ∧ n ≤ 9223372036854775807 ∧ n ≤ cap := by
  obtain ⟨A, len, cap, rfl⟩ := okWide_slice Try.underlying23 hv
  obtain ⟨fuel, hf⟩ := h
  obtain ⟨A', n', cap', zs, e, h1, h2⟩ := trod_listC Try.underlying23 Try.underlying3 (by kernel_rfl) hf
  simp [Value.cells] at e
  obtain ⟨rfl, rfl, rfl⟩ := e
  exact ⟨A, len, cap, zs, rfl, h1, h2⟩

set_option maxRecDepth 100000 in
theorem arg_bools (hv : Value.okWide Try.prog W r b0 64 v) (h : DataW.Trod enc Try.prog W base sp held 64 v d p) :
    ∃ (A : Option Addr) (n cap : Nat) (zs : List Bool), v = .slice A n cap ∧ Bools W A n zs ∧ n ≤ 9223372036854775807 := by
  obtain ⟨A, len, cap, rfl⟩ := okWide_slice Try.underlying64 hv
  obtain ⟨fuel, hf⟩ := h
  rcases Go.Deep.open_slice1 Try.underlying64 (by kernel_rfl) hf with ⟨hcs, _⟩ | ⟨a, len', cap', m, k, V, D, Pp, hcs, _, hl, hm, hmm, _, hel⟩
  · simp [Value.cells] at hcs
    obtain ⟨rfl, rfl, rfl⟩ := hcs
    exact ⟨none, 0, 0, [], rfl, ⟨rfl, fun h => absurd h (by omega)⟩, by omega⟩
  · simp [Value.cells] at hcs
    obtain ⟨rfl, rfl, rfl⟩ := hcs
    unfold maxLen at hm
    have hlen : len ≤ m := by rw [hmm]; split <;> omega
    obtain ⟨B, hB⟩ := Go.Deep.choose_lt (α := Bool) (p := fun i b => W.cell? (a.add i) = some (.bool b)) (fun i hi => by
      obtain ⟨h1, h2⟩ := hel i hi
      obtain ⟨b, q1, _⟩ := DataW.trod_bool Try.underlying4 h2
      simp only [List.cons.injEq, and_true] at q1
      exact ⟨b, by rw [h1, q1]⟩)
    refine ⟨some a, len, cap, (List.range len).map B, rfl, ⟨by simp, fun hn => ?_⟩, by omega⟩
    obtain ⟨b, off, spot⟩ := a
    have hspot : spot = none := by
      have := hB 0 (by omega)
      simpa [Addr.add] using World.cell?_spot this
    subst hspot
    refine ⟨b, off, rfl, ?_, fun i hi => ?_⟩
    · have := hB 0 (by omega)
      rw [Go.WideShapes.add_plain] at this
      exact cell_lt this
    · have := hB i (by omega)
      rw [Go.WideShapes.add_plain] at this
      rw [this, List.getD_eq_getElem?_getD, List.getElem?_map, List.getElem?_range hi]
      rfl
end
end Go.Proofs.Ytcmllkjgggcghaa
end
