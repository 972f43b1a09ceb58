/- BU1 BTie2 -/
import Derived.Test.YtmddpjlpbmfbgaaDoorBZ01
import Derived.Test.YtmddpjlpbmfbgaaDoorBZ17
/- Lists of small numbers in memory. -/
section
namespace Go.Proofs.YtmddpjlpbmfbgaaDoor
open Go.RowKit Go.Shelf
set_option linter.unusedSimpArgs false
set_option linter.unusedVariables false

/-- a list of small numbers -/
def U32s (w : World) (A : Option Addr) (n : Nat) (zs : List Int) : Prop :=
  zs.length = n ∧ (0 < n → ∃ b off, A = some ⟨b, off, none⟩ ∧ b < w.heap.size ∧ ∀ i, i < n → w.cell? ⟨b, off + i, none⟩ = some (.int .u32 (zs.getD i 0)) ∧ 0 ≤ zs.getD i 0 ∧ zs.getD i 0 ≤ 4294967295)
theorem U32s.below {w w' : World} {A : Option Addr} {n : Nat} {zs : List Int} (h : U32s w A n zs) (hb : Below w.heap.size w w') : U32s w' A n zs := by
  refine ⟨h.1, fun hn => ?_⟩
  obtain ⟨b, off, rfl, hlt, hc⟩ := h.2 hn
  exact ⟨b, off, rfl, Nat.lt_of_lt_of_le hlt hb.size, fun i hi => ⟨(hb.cell (p := ⟨b, off + i, none⟩) hlt).trans (hc i hi).1, (hc i hi).2⟩⟩
theorem U32s.at_ {w wr : World} {A : Option Addr} {n k : Nat} {zs : List Int} (h : U32s w A n zs) (hb : Below w.heap.size w wr) (hk : k < n) :
    ∃ b off, A = some ⟨b, off, none⟩ ∧ wr.cell? ⟨b, off + k, none⟩ = some (.int .u32 (zs.getD k 0)) ∧ 0 ≤ zs.getD k 0 ∧ zs.getD k 0 ≤ 4294967295 := by
  obtain ⟨b, off, rfl, hlt, hc⟩ := h.2 (by omega)
  exact ⟨b, off, rfl, (hb.cell (p := ⟨b, off + k, none⟩) hlt).trans (hc k hk).1, (hc k hk).2⟩

end Go.Proofs.YtmddpjlpbmfbgaaDoor
end

/- How arguments of layer 2 read: bars and truths; lists of small numbers, of pairs of them. -/
section
namespace Go.Proofs.YtmddpjlpbmfbgaaDoor
open Go.ChangeShapes Go.WideShapes Go.ChangeAt Go.RowKit
set_option linter.unusedSimpArgs false
set_option linter.unusedVariables false

section
variable {H : Type} {enc : TypeId × Value → H}
variable {W : World} {r : Reach} {b0 base : Nat} {sp : Nat → Bool} {held : Bool} {fuel : Nat} {v : Value} {d : DataW H} {p : List MemPlace} {cs : List Value} {x : DataW H × List MemPlace}

theorem len8 {α : Type} {l : List α} (h : l.length = 8) : ∃ a b c d e f g i, l = [a, b, c, d, e, f, g, i] := by
  match l, h with
  | [a, b, c, d, e, f, g, i], _ => exact ⟨a, b, c, d, e, f, g, i, rfl⟩
theorem len3 {α : Type} {l : List α} (h : l.length = 3) : ∃ a b c, l = [a, b, c] := by
  match l, h with
  | [a, b, c], _ => exact ⟨a, b, c, rfl⟩
theorem cellsRg : Tryd.prog.cellsOf 62 = 2 := by kernel_rfl
set_option maxRecDepth 100000 in
theorem trod_rg (h : DataW.trod enc Tryd.prog W base sp held fuel 62 cs = some x) : ∃ a b : Int, cs = [.int .i64 a, .int .i64 b] := by
  obtain ⟨a, b, e, _, _⟩ := trod_pair (E := 2) Tryd.underlying62 cellsRg Tryd.underlying2 cellsI64 rfl rfl rfl rfl h
  exact ⟨a, b, e⟩
theorem trod5 {P : Program} {t : TypeId} {f0 f1 f2 f3 f4 : Field} (ht : P.underlying t = some (.struct #[f0, f1, f2, f3, f4])) (h : DataW.trod enc P W base sp held fuel t cs = some x) :
    ∃ y0 y1 y2 y3 y4 n, cs.length = P.cellsOf t ∧ DataW.trod enc P W base sp held n f0.type ((cs.drop f0.offset).take (P.cellsOf f0.type)) = some y0 ∧ DataW.trod enc P W base sp held n f1.type ((cs.drop f1.offset).take (P.cellsOf f1.type)) = some y1 ∧
      DataW.trod enc P W base sp held n f2.type ((cs.drop f2.offset).take (P.cellsOf f2.type)) = some y2 ∧ DataW.trod enc P W base sp held n f3.type ((cs.drop f3.offset).take (P.cellsOf f3.type)) = some y3 ∧ DataW.trod enc P W base sp held n f4.type ((cs.drop f4.offset).take (P.cellsOf f4.type)) = some y4 := by
  obtain ⟨xs, n, _, _, hl, hlen, hf⟩ := DataW.trod_struct ht h
  match xs, hlen with
  | [y0, y1, y2, y3, y4], _ => exact ⟨y0, y1, y2, y3, y4, n, hl, by simpa using hf 0 f0 rfl, by simpa using hf 1 f1 rfl, by simpa using hf 2 f2 rfl, by simpa using hf 3 f3 rfl, by simpa using hf 4 f4 rfl⟩
theorem trod3 {P : Program} {t : TypeId} {f0 f1 f2 : Field} (ht : P.underlying t = some (.struct #[f0, f1, f2])) (h : DataW.trod enc P W base sp held fuel t cs = some x) :
    ∃ y0 y1 y2 n, cs.length = P.cellsOf t ∧ DataW.trod enc P W base sp held n f0.type ((cs.drop f0.offset).take (P.cellsOf f0.type)) = some y0 ∧ DataW.trod enc P W base sp held n f1.type ((cs.drop f1.offset).take (P.cellsOf f1.type)) = some y1 ∧
      DataW.trod enc P W base sp held n f2.type ((cs.drop f2.offset).take (P.cellsOf f2.type)) = some y2 := by
  obtain ⟨xs, n, _, _, hl, hlen, hf⟩ := DataW.trod_struct ht h
  match xs, hlen with
  | [y0, y1, y2], _ => exact ⟨y0, y1, y2, n, hl, by simpa using hf 0 f0 rfl, by simpa using hf 1 f1 rfl, by simpa using hf 2 f2 rfl⟩
set_option maxRecDepth 100000 in
theorem arg_bar (hv : Value.okWide Tryd.prog W r b0 75 v) (h : DataW.Trod enc Tryd.prog W base sp held 75 v d p) : ∃ l n p1 p2 s1 s2 t1 t2 : Int, v = .agg #[.int .i64 l, .int .i64 n, .int .i64 p1, .int .i64 p2, .int .i64 s1, .int .i64 s2, .int .i64 t1, .int .i64 t2] := by
  obtain ⟨cs, rfl, _⟩ := okWide_struct Tryd.underlying75 hv
  obtain ⟨fuel, hf⟩ := h
  obtain ⟨y0, y1, y2, y3, y4, n, hl, g0, g1, g2, g3, g4⟩ := trod5 Tryd.underlying75 hf
  rw [show Tryd.prog.cellsOf 75 = 8 by kernel_rfl] at hl
  obtain ⟨c0, c1, c2, c3, c4, c5, c6, c7, hcs⟩ := len8 hl
  rw [hcs] at g0 g1 g2 g3 g4
  simp only [cellsI64, cellsRg, List.drop_zero, List.drop_succ_cons, List.take_succ_cons, List.take_zero] at g0 g1 g2 g3 g4
  obtain ⟨a, e0, _, _⟩ := DataW.trod_int Tryd.underlying2 g0
  obtain ⟨b, e1, _, _⟩ := DataW.trod_int Tryd.underlying2 g1
  obtain ⟨p1, p2, e2⟩ := trod_rg g2
  obtain ⟨s1, s2, e3⟩ := trod_rg g3
  obtain ⟨t1, t2, e4⟩ := trod_rg g4
  simp only [List.cons.injEq, and_true] at e0 e1 e2 e3 e4
  refine ⟨a, b, p1, p2, s1, s2, t1, t2, ?_⟩
  congr 1
  refine Array.ext' ?_
  have : cs.toList = [c0, c1, c2, c3, c4, c5, c6, c7] := by simpa [Value.cells] using hcs
  rw [this, e0, e1, e2.1, e2.2, e3.1, e3.2, e4.1, e4.2]
set_option maxRecDepth 100000 in
theorem arg_truth (hv : Value.okWide Tryd.prog W r b0 79 v) (h : DataW.Trod enc Tryd.prog W base sp held 79 v d p) : ∃ a b c : Int, v = .agg #[.int .i64 a, .int .i64 b, .int .i64 c] := by
  obtain ⟨cs, rfl, _⟩ := okWide_struct Tryd.underlying79 hv
  obtain ⟨fuel, hf⟩ := h
  obtain ⟨y0, y1, y2, n, hl, g0, g1, g2⟩ := trod3 Tryd.underlying79 hf
  rw [show Tryd.prog.cellsOf 79 = 3 by kernel_rfl] at hl
  obtain ⟨c0, c1, c2, hcs⟩ := len3 hl
  rw [hcs] at g0 g1 g2
  simp only [cellsI64, List.drop_zero, List.drop_succ_cons, List.take_succ_cons, List.take_zero] at g0 g1 g2
  obtain ⟨a, e0, _, _⟩ := DataW.trod_int Tryd.underlying2 g0
  obtain ⟨b, e1, _, _⟩ := DataW.trod_int Tryd.underlying2 g1
  obtain ⟨c, e2, _, _⟩ := DataW.trod_int Tryd.underlying2 g2
  simp only [List.cons.injEq, and_true] at e0 e1 e2
  refine ⟨a, b, c, ?_⟩
  congr 1
  refine Array.ext' ?_
  have : cs.toList = [c0, c1, c2] := by simpa [Value.cells] using hcs
  rw [this, e0, e1, e2]

theorem cellsU32 : Tryd.prog.cellsOf 64 = 1 := by kernel_rfl
set_option maxRecDepth 100000 in
theorem arg_u32s (hv : Value.okWide Tryd.prog W r b0 36 v) (h : DataW.Trod enc Tryd.prog W base sp held 36 v d p) :
    ∃ (A : Option Addr) (n cap : Nat) (zs : List Int), v = .slice A n cap ∧ U32s W A n zs ∧ n ≤ 9223372036854775807 := by
  obtain ⟨A, len, cap, rfl⟩ := okWide_slice Tryd.underlying36 hv
  obtain ⟨fuel, hf⟩ := h
  rcases open_ints Tryd.underlying36 Tryd.underlying64 cellsU32 hf with ⟨hcs, _⟩ | ⟨a, len', cap', zs, hcs, _, hl, hm, hz, _, hcell, hwf⟩
  · simp [Value.cells] at hcs
    obtain ⟨rfl, rfl, rfl⟩ := hcs
    exact ⟨none, 0, 0, [], rfl, ⟨rfl, fun h => absurd h (by omega)⟩, by omega⟩
  · simp [Value.cells] at hcs
    obtain ⟨rfl, rfl, rfl⟩ := hcs
    unfold maxLen at hm
    have hlen : len ≤ zs.length := by rw [hz]; split <;> omega
    refine ⟨some a, len, cap, zs.take len, rfl, ⟨by simp; omega, fun hn => ?_⟩, by omega⟩
    obtain ⟨b, off, rfl, hc⟩ := ints_at hcell (by omega)
    refine ⟨b, off, rfl, cell_lt (hc 0 (by omega)), fun i hi => ?_⟩
    have e : (zs.take len).getD i 0 = zs.getD i 0 := by simp [List.getD_eq_getElem?_getD, List.getElem?_take_of_lt hi]
    have hb := bounds_u32 (hwf (zs.getD i 0) (by rw [List.getD_eq_getElem?_getD, List.getElem?_eq_getElem (by omega)]; exact List.getElem_mem _))
    rw [e]
    exact ⟨hc i (by omega), hb.1, hb.2⟩
end
end Go.Proofs.YtmddpjlpbmfbgaaDoor
end
