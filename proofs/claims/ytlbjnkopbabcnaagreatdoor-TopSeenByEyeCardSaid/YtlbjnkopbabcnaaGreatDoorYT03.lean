/- PT1 -/
import Derived.Test.YtlbjnkopbabcnaaGreatDoorYT01
import Derived.Test.YtlbjnkopbabcnaaGreatDoorYP03
import Derived.Test.YtlbjnkopbabcnaaGreatDoorYP05
/- How cases, rows of numbers and small numbers read as arguments. -/
section
namespace Go.Proofs.YtlbjnkopbabcnaaGreatDoor
open Go.ChangeShapes Go.WideShapes Go.ChangeAt Go.RowKit
set_option linter.unusedSimpArgs false
set_option linter.unusedVariables false

section
variable {H : Type} {enc : TypeId × Value → H}
variable {W : World} {r : Reach} {b0 base : Nat} {sp : Nat → Bool} {held : Bool} {fuel : Nat} {v : Value} {d : DataW H} {p : List MemPlace} {cs : List Value} {x : DataW H × List MemPlace}

theorem cellsYRange : Tryz.prog.cellsOf 41 = 2 := by kernel_rfl
theorem cellsYU16 : Tryz.prog.cellsOf 57 = 1 := by kernel_rfl
set_option maxRecDepth 100000 in
theorem slY_ints (h : DataW.trod enc Tryz.prog W base sp held fuel 30 cs = some x) :
    ∃ (A : Option Addr) (n cap : Nat) (zs : List Int), cs = [.slice A n cap] ∧ Ints W A n zs ∧ n ≤ 9223372036854775807 ∧ n ≤ cap := by
  rcases open_ints Tryz.underlying30 Tryz.underlying2 cellsTopI64 h with ⟨hcs, _⟩ | ⟨a, len, cap, zs, hcs, _, hl, hm, hz, _, hcell, _⟩
  · exact ⟨none, 0, 0, [], hcs, ⟨rfl, fun h => absurd h (by omega)⟩, by omega, by omega⟩
  · unfold maxLen at hm
    have hlen : len ≤ zs.length := by rw [hz]; split <;> omega
    refine ⟨some a, len, cap, zs.take len, hcs, ⟨by simp; omega, fun hn => ?_⟩, by omega, hl⟩
    obtain ⟨b, off, rfl, hc⟩ := ints_at hcell (by omega)
    refine ⟨b, off, rfl, cell_lt (hc 0 (by omega)), fun i hi => ?_⟩
    rw [hc i (by omega)]
    simp [List.getD_eq_getElem?_getD, List.getElem?_take_of_lt hi]
set_option maxRecDepth 100000 in
theorem slY_u16s (h : DataW.trod enc Tryz.prog W base sp held fuel 27 cs = some x) :
    ∃ (A : Option Addr) (n cap : Nat) (zs : List Int), cs = [.slice A n cap] ∧ U16s W A n zs ∧ n ≤ 9223372036854775807 ∧ n ≤ cap := by
  rcases open_ints Tryz.underlying27 Tryz.underlying57 cellsYU16 h with ⟨hcs, _⟩ | ⟨a, len, cap, zs, hcs, _, hl, hm, hz, _, hcell, hwf⟩
  · exact ⟨none, 0, 0, [], hcs, ⟨rfl, fun h => absurd h (by omega)⟩, by omega, by omega⟩
  · unfold maxLen at hm
    have hlen : len ≤ zs.length := by rw [hz]; split <;> omega
    refine ⟨some a, len, cap, zs.take len, hcs, ⟨by simp; omega, fun hn => ?_⟩, by omega, hl⟩
    obtain ⟨b, off, rfl, hc⟩ := ints_at hcell (by omega)
    refine ⟨b, off, rfl, cell_lt (hc 0 (by omega)), fun i hi => ?_⟩
    have e : (zs.take len).getD i 0 = zs.getD i 0 := by simp [List.getD_eq_getElem?_getD, List.getElem?_take_of_lt hi]
    have hb := bounds_u16 (hwf (zs.getD i 0) (by rw [List.getD_eq_getElem?_getD, List.getElem?_eq_getElem (by omega)]; exact List.getElem_mem _))
    rw [e]
    exact ⟨hc i (by omega), hb.1, hb.2⟩
set_option maxRecDepth 100000 in
theorem slY_ranges (h : DataW.trod enc Tryz.prog W base sp held fuel 23 cs = some x) :
    ∃ (A : Option Addr) (n cap : Nat) (zs : List (Int × Int)), cs = [.slice A n cap] ∧ Prs W A n zs ∧ n ≤ 9223372036854775807 ∧ n ≤ cap := by
  rcases Go.Deep.open_slice Tryz.underlying23 h with ⟨hcs, _⟩ | ⟨a, len, cap, m, k, D, Pl, hcs, _, hl, hm, hmm, _, hel⟩
  · exact ⟨none, 0, 0, [], hcs, ⟨rfl, fun h => absurd h (by omega)⟩, by omega, by omega⟩
  · unfold maxLen at hm
    have hlen : len ≤ m := by rw [hmm]; split <;> omega
    rw [cellsYRange] at hel
    have hq : ∀ i, i < m → ∃ x : Int × Int, W.cell? ((a.add (i * 2)).add 0) = some (.int .i64 x.1) ∧ W.cell? ((a.add (i * 2)).add 1) = some (.int .i64 x.2) := by
      intro i hi
      obtain ⟨cs', h1, h2⟩ := hel i hi
      obtain ⟨x, y, rfl, _⟩ := trod_pair Tryz.underlying41 cellsYRange Tryz.underlying2 cellsTopI64 rfl rfl rfl rfl h2
      exact ⟨(x, y), cells2 h1⟩
    obtain ⟨f, hf'⟩ := Go.Deep.choose_lt hq
    refine ⟨some a, len, cap, (List.range len).map f, hcs, ⟨by simp, fun hn => ?_⟩, by omega, hl⟩
    obtain ⟨b, off, spot⟩ := a
    have hspot : spot = none := by
      have := (hf' 0 (by omega)).1
      simpa [Addr.add] using World.cell?_spot this
    subst hspot
    have plain : ∀ i j, ((⟨b, off, none⟩ : Addr).add i).add j = ⟨b, off + i + j, none⟩ := by
      intro i j
      rw [Go.Deep.add_add, Go.WideShapes.add_plain, Nat.add_assoc]
    refine ⟨b, off, rfl, ?_, fun i x y hi => ?_⟩
    · have := (hf' 0 (by omega)).1
      rw [plain] at this
      exact cell_lt this
    · have hil : i < len := by have := (List.getElem?_eq_some_iff.1 hi).1; simpa using this
      have hget : f i = (x, y) := by
        rw [List.getElem?_map, List.getElem?_range hil] at hi
        simpa using hi
      have := hf' i (by omega)
      rw [plain, plain, hget] at this
      exact this
set_option maxRecDepth 100000 in
theorem slY_rows {α : Type} {Q : World → Option Addr → Nat → List α → Prop} {T E : TypeId} (hT : Tryz.prog.underlying T = some (.slice E)) (hc : Tryz.prog.cellsOf E = 1)
    (hQ : ∀ {fuel : Nat} {cs : List Value} {x : DataW H × List MemPlace}, DataW.trod enc Tryz.prog W base sp held fuel E cs = some x → ∃ (A : Option Addr) (n cap : Nat) (zs : List α), cs = [.slice A n cap] ∧ Q W A n zs ∧ n ≤ 9223372036854775807 ∧ n ≤ cap)
    (h : DataW.trod enc Tryz.prog W base sp held fuel T cs = some x) :
    ∃ (A : Option Addr) (n cap : Nat) (rs : List (RowR α)), cs = [.slice A n cap] ∧ RowsQ Q W A n rs ∧ n ≤ 9223372036854775807 ∧ n ≤ cap := by
  rcases Go.Deep.open_slice1 hT hc h with ⟨hcs, _⟩ | ⟨a, len, cap, m, n, V, D, Pl, hcs, _, hl, hm, hmm, _, hel⟩
  · exact ⟨none, 0, 0, [], hcs, RowsQ.nil _ _, by omega, by omega⟩
  · unfold maxLen at hm
    have hlen : len ≤ m := by rw [hmm]; split <;> omega
    have hq : ∀ i, i < m → ∃ y : RowR α, W.cell? (a.add i) = some (rrV y) ∧ Q W y.A y.n y.zs ∧ y.n ≤ 9223372036854775807 := fun i hi => by
      obtain ⟨h1, h2⟩ := hel i hi
      obtain ⟨A', n', c', zs', e, q1, q2, _⟩ := hQ h2
      exact ⟨⟨A', n', c', zs'⟩, by rw [h1]; simpa [rrV] using e, q1, q2⟩
    haveI : Inhabited (RowR α) := ⟨⟨none, 0, 0, []⟩⟩
    obtain ⟨f, hf⟩ := Go.Deep.choose_lt hq
    refine ⟨some a, len, cap, (List.range len).map f, hcs, ⟨by simp, fun hn => ?_, fun y hy => ?_⟩, by omega, hl⟩
    · obtain ⟨b, off, spot⟩ := a
      have hspot : spot = none := by
        have := (hf 0 (by omega)).1
        simpa [Addr.add] using World.cell?_spot this
      subst hspot
      refine ⟨b, off, rfl, ?_, fun i y hi => ?_⟩
      · have := (hf 0 (by omega)).1
        rw [Go.WideShapes.add_plain] at this
        exact cell_lt this
      · have hil : i < len := by have := (List.getElem?_eq_some_iff.1 hi).1; simpa using this
        have hget : f i = y := by
          rw [List.getElem?_map, List.getElem?_range hil] at hi
          simpa using hi
        have := (hf i (by omega)).1
        rw [Go.WideShapes.add_plain, hget] at this
        exact this
    · rw [List.mem_map] at hy
      obtain ⟨i, hi, rfl⟩ := hy
      rw [List.mem_range] at hi
      exact (hf i (by omega)).2
set_option maxRecDepth 100000 in
/-- a slice as an argument -/
theorem arg_sl {T E : TypeId} (hT : Tryz.prog.underlying T = some (.slice E)) (hv : Value.okWide Tryz.prog W r b0 T v) (h : DataW.Trod enc Tryz.prog W base sp held T v d p)
    {β : Type} {Q : Option Addr → Nat → β → Prop} (hs : ∀ {fuel : Nat} {cs : List Value} {x : DataW H × List MemPlace}, DataW.trod enc Tryz.prog W base sp held fuel T cs = some x → ∃ (A : Option Addr) (n cap : Nat) (zs : β), cs = [.slice A n cap] ∧ Q A n zs ∧ n ≤ 9223372036854775807 ∧ n ≤ cap) :
    ∃ (A : Option Addr) (n cap : Nat) (zs : β), v = .slice A n cap ∧ Q A n zs ∧ n ≤ 9223372036854775807 ∧ n ≤ cap := by
  obtain ⟨A, len, cap, rfl⟩ := okWide_slice hT hv
  obtain ⟨fuel, hf⟩ := h
  obtain ⟨A', n', c', zs, q, h0, m0, m1⟩ := hs hf
  simp [Value.cells] at q
  obtain ⟨rfl, rfl, rfl⟩ := q
  exact ⟨_, _, _, zs, rfl, h0, m0, m1⟩
set_option maxRecDepth 100000 in
theorem slY_rowsP (h : DataW.trod enc Tryz.prog W base sp held fuel 22 cs = some x) :
    ∃ (A : Option Addr) (n cap : Nat) (rs : List (RowR (Int × Int))), cs = [.slice A n cap] ∧ RowsP W A n rs ∧ n ≤ 9223372036854775807 ∧ n ≤ cap :=
  slY_rows Tryz.underlying22 (by kernel_rfl) slY_ranges h
set_option maxRecDepth 100000 in
theorem slY_rowsI (h : DataW.trod enc Tryz.prog W base sp held fuel 26 cs = some x) :
    ∃ (A : Option Addr) (n cap : Nat) (rs : List (RowR Int)), cs = [.slice A n cap] ∧ RowsI W A n rs ∧ n ≤ 9223372036854775807 ∧ n ≤ cap :=
  slY_rows Tryz.underlying26 (by kernel_rfl) slY_ints h
set_option maxRecDepth 100000 in
theorem argY_rowsI (hv : Value.okWide Tryz.prog W r b0 26 v) (h : DataW.Trod enc Tryz.prog W base sp held 26 v d p) :
    ∃ (A : Option Addr) (n cap : Nat) (rs : List (RowR Int)), v = .slice A n cap ∧ RowsI W A n rs ∧ n ≤ 9223372036854775807 ∧ n ≤ cap :=
  arg_sl Tryz.underlying26 hv h slY_rowsI
set_option maxRecDepth 100000 in
theorem argY_ints (hv : Value.okWide Tryz.prog W r b0 30 v) (h : DataW.Trod enc Tryz.prog W base sp held 30 v d p) :
    ∃ (A : Option Addr) (n cap : Nat) (zs : List Int), v = .slice A n cap ∧ Ints W A n zs ∧ n ≤ 9223372036854775807 ∧ n ≤ cap :=
  arg_sl Tryz.underlying30 hv h slY_ints
set_option maxRecDepth 100000 in
theorem argY_u16s (hv : Value.okWide Tryz.prog W r b0 27 v) (h : DataW.Trod enc Tryz.prog W base sp held 27 v d p) :
    ∃ (A : Option Addr) (n cap : Nat) (zs : List Int), v = .slice A n cap ∧ U16s W A n zs ∧ n ≤ 9223372036854775807 ∧ n ≤ cap :=
  arg_sl Tryz.underlying27 hv h slY_u16s
set_option maxRecDepth 100000 in
theorem argY_case (hv : Value.okWide Tryz.prog W r b0 25 v) (h : DataW.Trod enc Tryz.prog W base sp held 25 v d p) :
    ∃ (E : Option Addr) (m ce : Nat) (L : Option Addr) (n cl : Nat) (rs : List (RowR (Int × Int))) (ls : List (Int × Int)), v = .agg #[.slice E m ce, .slice L n cl] ∧ Cse W E m L n rs ls := by
  obtain ⟨cs, rfl, _⟩ := okWide_struct Tryz.underlying25 hv
  obtain ⟨fuel, hf⟩ := h
  obtain ⟨y0, y1, n, _, hl, g0, g1⟩ := trod_struct2 Tryz.underlying25 hf
  rw [show Tryz.prog.cellsOf 25 = 2 by kernel_rfl] at hl
  obtain ⟨e0, e1, hcs⟩ := len_two' hl
  rw [hcs] at g0 g1
  simp only [show Tryz.prog.cellsOf 22 = 1 by kernel_rfl, show Tryz.prog.cellsOf 23 = 1 by kernel_rfl, List.drop_zero, List.drop_succ_cons, List.take_succ_cons, List.take_zero] at g0 g1
  obtain ⟨E, m, ce, rs, q0, h0, m0, m0'⟩ := slY_rowsP g0
  obtain ⟨L, n, cl, ls, q1, h1, m1, m1'⟩ := slY_ranges g1
  simp only [List.cons.injEq, and_true] at q0 q1
  refine ⟨E, m, ce, L, n, cl, rs, ls, ?_, h0, h1, m0, m1⟩
  congr 1
  refine Array.ext' ?_
  have : cs.toList = [e0, e1] := by simpa [Value.cells] using hcs
  rw [this, q0, q1]
end
end Go.Proofs.YtlbjnkopbabcnaaGreatDoor
end
