/- BU2 BTie3 -/
import Derived.Test.YtmddpjlpbmfbgaaDoorBZ01
import Derived.Test.YtmddpjlpbmfbgaaDoorBZ21
/- Lists of pairs of small numbers in memory. -/
section
namespace Go.Proofs.YtmddpjlpbmfbgaaDoor
open Go.RowKit Go.Shelf
set_option linter.unusedSimpArgs false
set_option linter.unusedVariables false

/-- a list of pairs of small numbers -/
def U8Prs (w : World) (A : Option Addr) (n : Nat) (zs : List (Int × Int)) : Prop :=
  zs.length = n ∧ (0 < n → ∃ b off, A = some ⟨b, off, none⟩ ∧ b < w.heap.size ∧ ∀ i x y, zs[i]? = some (x, y) →
    (w.cell? ⟨b, off + i * 2, none⟩ = some (.int .u8 x) ∧ w.cell? ⟨b, off + i * 2 + 1, none⟩ = some (.int .u8 y)) ∧ (0 ≤ x ∧ x ≤ 255) ∧ (0 ≤ y ∧ y ≤ 255))
theorem U8Prs.below {w w' : World} {A : Option Addr} {n : Nat} {zs : List (Int × Int)} (h : U8Prs w A n zs) (hb : Below w.heap.size w w') : U8Prs w' A n zs := by
  refine ⟨h.1, fun hn => ?_⟩
  obtain ⟨b, off, rfl, hlt, hc⟩ := h.2 hn
  exact ⟨b, off, rfl, Nat.lt_of_lt_of_le hlt hb.size, fun i x y hp => ⟨⟨(hb.cell (p := ⟨b, _, none⟩) hlt).trans (hc i x y hp).1.1, (hb.cell (p := ⟨b, _, none⟩) hlt).trans (hc i x y hp).1.2⟩, (hc i x y hp).2⟩⟩
theorem U8Prs.at_ {w wr : World} {A : Option Addr} {n k : Nat} {zs : List (Int × Int)} (h : U8Prs w A n zs) (hb : Below w.heap.size w wr) (hk : k < n) :
    ∃ b off x y, A = some ⟨b, off, none⟩ ∧ b < w.heap.size ∧ zs[k]? = some (x, y) ∧ wr.cell? ⟨b, off + k * 2, none⟩ = some (.int .u8 x) ∧ wr.cell? ⟨b, off + k * 2 + 1, none⟩ = some (.int .u8 y) ∧ (0 ≤ x ∧ x ≤ 255) ∧ (0 ≤ y ∧ y ≤ 255) := by
  obtain ⟨b, off, rfl, hlt, hc⟩ := h.2 (by omega)
  have hl : k < zs.length := by rw [h.1]; exact hk
  obtain ⟨⟨c0, c1⟩, hx, hy⟩ := hc k zs[k].1 zs[k].2 (List.getElem?_eq_getElem hl)
  exact ⟨b, off, zs[k].1, zs[k].2, rfl, hlt, List.getElem?_eq_getElem hl, (hb.cell (p := ⟨b, _, none⟩) hlt).trans c0, (hb.cell (p := ⟨b, _, none⟩) hlt).trans c1, hx, hy⟩

end Go.Proofs.YtmddpjlpbmfbgaaDoor
end

/- How arguments of layer 2 read: lists of pairs of small numbers; arrays of three numbers. -/
section
namespace Go.Proofs.YtmddpjlpbmfbgaaDoor
open Go.ChangeShapes Go.WideShapes Go.ChangeAt Go.RowKit
set_option linter.unusedSimpArgs false
set_option linter.unusedVariables false

section
variable {H : Type} {enc : TypeId × Value → H} {P : Program}
variable {W : World} {r : Reach} {b0 base : Nat} {sp : Nat → Bool} {held : Bool} {fuel : Nat} {v : Value} {d : DataW H} {p : List MemPlace} {cs : List Value} {x : DataW H × List MemPlace}

theorem okWide_array {t e : TypeId} {n : Nat} (ht : P.underlying t = some (.array n e)) (h : Value.okWide P W r b0 t v) : ∃ cs, v = .agg cs ∧ cs.size = P.cellsOf t := by
  simp only [Value.okWide, ht] at h
  obtain ⟨cs, h1, h2, _⟩ := h
  exact ⟨cs, h1, h2⟩
set_option maxRecDepth 100000 in
theorem trod_arr2 {T E : TypeId} {k : IntKind} (hu : Tryd.prog.underlying T = some (.array 2 E)) (hc : Tryd.prog.cellsOf T = 2) (hE : Tryd.prog.underlying E = some (.int k)) (hcE : Tryd.prog.cellsOf E = 1)
    (h : DataW.trod enc Tryd.prog W base sp held fuel T cs = some x) : ∃ a b : Int, cs = [.int k a, .int k b] ∧ (Lit.int k a).wf = true ∧ (Lit.int k b).wf = true := by
  obtain ⟨xs, m, -, -, hl, hx, hg⟩ := DataW.trod_array hu h
  rw [hc] at hl
  rw [hcE] at hg
  obtain ⟨c0, c1, rfl⟩ := len_two' hl
  match xs, hx with
  | [y0, y1], _ =>
    have h0 := hg 0 (by omega)
    have h1 := hg 1 (by omega)
    simp at h0 h1
    obtain ⟨a, q0, _, w0⟩ := DataW.trod_int hE h0
    obtain ⟨b, q1, _, w1⟩ := DataW.trod_int hE h1
    simp only [List.cons.injEq, and_true] at q0 q1
    subst q0 q1
    exact ⟨a, b, rfl, w0, w1⟩
set_option maxRecDepth 100000 in
theorem arg_u32x3 (hv : Value.okWide Tryd.prog W r b0 85 v) (h : DataW.Trod enc Tryd.prog W base sp held 85 v d p) : ∃ a b c : Int, v = .agg #[.int .u32 a, .int .u32 b, .int .u32 c] ∧ (0 ≤ a ∧ a ≤ 4294967295) ∧ (0 ≤ b ∧ b ≤ 4294967295) ∧ (0 ≤ c ∧ c ≤ 4294967295) := by
  obtain ⟨cs, rfl, _⟩ := okWide_array Tryd.underlying85 hv
  obtain ⟨fuel, hf⟩ := h
  obtain ⟨xs, m, -, -, hl, hx, hg⟩ := DataW.trod_array Tryd.underlying85 hf
  rw [show Tryd.prog.cellsOf 85 = 3 by kernel_rfl] at hl
  rw [cellsU32] at hg
  obtain ⟨c0, c1, c2, hcs⟩ := len3 hl
  match xs, hx with
  | [y0, y1, y2], _ =>
    have h0 := hg 0 (by omega)
    have h1 := hg 1 (by omega)
    have h2 := hg 2 (by omega)
    rw [hcs] at h0 h1 h2
    simp at h0 h1 h2
    obtain ⟨a, q0, _, w0⟩ := DataW.trod_int Tryd.underlying64 h0
    obtain ⟨b, q1, _, w1⟩ := DataW.trod_int Tryd.underlying64 h1
    obtain ⟨c, q2, _, w2⟩ := DataW.trod_int Tryd.underlying64 h2
    simp only [List.cons.injEq, and_true] at q0 q1 q2
    subst q0 q1 q2
    refine ⟨a, b, c, ?_, bounds_u32 w0, bounds_u32 w1, bounds_u32 w2⟩
    congr 1
    exact Array.ext' (by simpa [Value.cells] using hcs)

set_option maxRecDepth 100000 in
theorem arg_u8x2s (hv : Value.okWide Tryd.prog W r b0 47 v) (h : DataW.Trod enc Tryd.prog W base sp held 47 v d p) :
    ∃ (A : Option Addr) (n cap : Nat) (zs : List (Int × Int)), v = .slice A n cap ∧ U8Prs W A n zs ∧ n ≤ 9223372036854775807 := by
  obtain ⟨A, len, cap, rfl⟩ := okWide_slice Tryd.underlying47 hv
  obtain ⟨fuel, hf⟩ := h
  have hc : Tryd.prog.cellsOf 50 = 2 := by kernel_rfl
  rcases Go.Deep.open_slice Tryd.underlying47 hf with ⟨hcs, _⟩ | ⟨a, len', cap', m, k, D, Pl, hcs, _, hl, hm, hmm, _, hel⟩
  · simp [Value.cells] at hcs
    obtain ⟨rfl, rfl, rfl⟩ := hcs
    exact ⟨none, 0, 0, [], rfl, ⟨rfl, fun h => absurd h (by omega)⟩, by omega⟩
  · simp [Value.cells] at hcs
    obtain ⟨rfl, rfl, rfl⟩ := hcs
    unfold maxLen at hm
    have hlen : len ≤ m := by rw [hmm]; split <;> omega
    rw [hc] at hel
    have hq : ∀ i, i < m → ∃ x : Int × Int, (W.cell? ((a.add (i * 2)).add 0) = some (.int .u8 x.1) ∧ W.cell? ((a.add (i * 2)).add 1) = some (.int .u8 x.2)) ∧ (0 ≤ x.1 ∧ x.1 ≤ 255) ∧ (0 ≤ x.2 ∧ x.2 ≤ 255) := by
      intro i hi
      obtain ⟨cs', h1, h2⟩ := hel i hi
      obtain ⟨x, y, rfl, w0, w1⟩ := trod_arr2 Tryd.underlying50 hc Tryd.underlying5 cellsU8 h2
      exact ⟨(x, y), cells2 h1, bounds_u8 w0, bounds_u8 w1⟩
    obtain ⟨f, hf'⟩ := Go.Deep.choose_lt hq
    refine ⟨some a, len, cap, (List.range len).map f, rfl, ⟨by simp, fun hn => ?_⟩, by omega⟩
    obtain ⟨b, off, spot⟩ := a
    have hspot : spot = none := by
      have := (hf' 0 (by omega)).1.1
      simpa [Addr.add] using World.cell?_spot this
    subst hspot
    have plain : ∀ i j, ((⟨b, off, none⟩ : Addr).add i).add j = ⟨b, off + i + j, none⟩ := by
      intro i j
      rw [Go.Deep.add_add, Go.WideShapes.add_plain, Nat.add_assoc]
    refine ⟨b, off, rfl, ?_, fun i x y hi => ?_⟩
    · have := (hf' 0 (by omega)).1.1
      rw [plain] at this
      exact cell_lt this
    · have hil : i < len := by have := (List.getElem?_eq_some_iff.1 hi).1; simpa using this
      have hget : f i = (x, y) := by
        rw [List.getElem?_map, List.getElem?_range hil] at hi
        simpa using hi
      have := hf' i (by omega)
      rw [plain, plain, hget] at this
      exact this
end
end Go.Proofs.YtmddpjlpbmfbgaaDoor
end
