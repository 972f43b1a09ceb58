/- ZC5 ZC6 -/
import Derived.Test.YtminplfgadhnnaaGreatDoorSC12
import Derived.Sort.LoopGhostIn
/- For the walk of draw: what its stores do to a table. -/
section
namespace Go.Proofs.YtminplfgadhnnaaGreatDoor
open Go.RowKit Go.Shelf
set_option linter.unusedSimpArgs false
set_option linter.unusedVariables false
open Zm

section
variable {W : World} {g : Nat} {L : Array Value} {B D : Nat → Int × Int}
/-- the two stores of a round over the gaps -/
theorem tz_lo (h : Tz W g L B D) {p : Nat} (hp : p < 11) (v : Int) : Tz (W.setCell ⟨g, 4 + p * 2, none⟩ (.int .i64 v)) g L (fun j => if j = p then (v, (B p).2) else B j) D := by
  refine h.set (by omega) (by omega) (fun i hi => ⟨?_, ?_⟩) (fun i hi => ⟨?_, ?_⟩)
  · by_cases e : i = p
    · subst e; rw [if_pos rfl, if_pos rfl]
    · rw [if_neg e, if_neg (by omega)]
  · by_cases e : i = p
    · subst e; rw [if_pos rfl, if_neg (by omega)]
    · rw [if_neg e, if_neg (by omega)]
  · rw [if_neg (by omega)]
  · rw [if_neg (by omega)]
theorem tz_hi (h : Tz W g L B D) {p : Nat} (hp : p < 11) (v : Int) : Tz (W.setCell ⟨g, 4 + p * 2 + 1, none⟩ (.int .i64 v)) g L (fun j => if j = p then ((B p).1, v) else B j) D := by
  refine h.set (by omega) (by omega) (fun i hi => ⟨?_, ?_⟩) (fun i hi => ⟨?_, ?_⟩)
  · by_cases e : i = p
    · subst e; rw [if_pos rfl, if_neg (by omega)]
    · rw [if_neg e, if_neg (by omega)]
  · by_cases e : i = p
    · subst e; rw [if_pos rfl, if_pos rfl]
    · rw [if_neg e, if_neg (by omega)]
  · rw [if_neg (by omega)]
  · rw [if_neg (by omega)]
/-- a range, stored at a degree -/
theorem tz_deg (h : Tz W g L B D) {k : Nat} (hk : k < 91) (a b : Int) : Tz ((W.setCell ⟨g, 26 + k * 2, none⟩ (.int .i64 a)).setCell ⟨g, 26 + k * 2 + 1, none⟩ (.int .i64 b)) g L B (fun j => if j = k then (a, b) else D j) := by
  have h1 : Tz (W.setCell ⟨g, 26 + k * 2, none⟩ (.int .i64 a)) g L B (fun j => if j = k then (a, (D k).2) else D j) := by
    refine h.set (by omega) (by omega) (fun i hi => ⟨?_, ?_⟩) (fun i hi => ⟨?_, ?_⟩)
    · rw [if_neg (by omega)]
    · rw [if_neg (by omega)]
    · by_cases e : i = k
      · subst e; rw [if_pos rfl, if_pos rfl]
      · rw [if_neg e, if_neg (by omega)]
    · by_cases e : i = k
      · subst e; rw [if_pos rfl, if_neg (by omega)]
      · rw [if_neg e, if_neg (by omega)]
  refine h1.set (by omega) (by omega) (fun i hi => ⟨?_, ?_⟩) (fun i hi => ⟨?_, ?_⟩)
  · rw [if_neg (by omega)]
  · rw [if_neg (by omega)]
  · by_cases e : i = k
    · subst e; rw [if_pos rfl, if_neg (by omega), if_pos rfl]
    · rw [if_neg e, if_neg (by omega), if_neg e]
  · by_cases e : i = k
    · subst e; rw [if_pos rfl, if_pos rfl]
    · rw [if_neg e, if_neg (by omega), if_neg e]
end

theorem zero2 (n : Nat) : (Builtin.zeroCells (Value.agg #[.int .i64 0, .int .i64 0]).cells n).toList = List.replicate (n * 2) (.int .i64 0) := by
  unfold Builtin.zeroCells
  apply List.ext_getElem
  · simp [Value.cells]
  · intro i h1 h2
    have hi : i % 2 = 0 ∨ i % 2 = 1 := by omega
    rcases hi with hi | hi <;> simp [Value.cells, hi]
theorem setCells_turns (g : Nat) : ∀ (vs : List Value) (o : Nat) (W : World), Turns (fun i => i = g) W (W.setCells g o vs)
  | [], _, W => Turns.refl _ W
  | v :: vs, o, W => (Turns.setCell (O := fun i => i = g) (p := ⟨g, o, none⟩) v rfl).trans (setCells_turns g vs (o + 1) _)
theorem setCells_size (g : Nat) : ∀ (vs : List Value) (o : Nat) (W : World), (W.setCells g o vs).heap.size = W.heap.size
  | [], _, W => rfl
  | v :: vs, o, W => (setCells_size g vs (o + 1) _).trans (by simp [World.setCell])
theorem run_clear_deg {W : World} {g : Nat} {L : Array Value} {B D : Nat → Int × Int} (h : Tz W g L B D) (ty : TypeId) :
    ∃ W', (Builtin.clear_ #[23] ty #[.slice (some ⟨g, 26, none⟩) 91 91]).run Tryz.prog W = .ok (.tuple #[]) W' ∧ Tz W' g L B (fun _ => (0, 0)) ∧ Turns (fun i => i = g) W W' := by
  have hc : ∀ j, j < 182 → (W.cell? ⟨g, 26 + j, none⟩).isSome = true := fun j hj => by
    obtain ⟨c, hc | hc⟩ : ∃ c, j = c * 2 ∨ j = c * 2 + 1 := ⟨j / 2, by omega⟩
    · rw [hc, h.d0 c (by omega)]; rfl
    · rw [hc, ← Nat.add_assoc, h.d1 c (by omega)]; rfl
  have hz : ∀ w, (zeroValue 32).run Tryz.prog w = .ok (.agg #[.int .i64 0, .int .i64 0]) w := fun w => by simp [go_sem]
  obtain ⟨zs, hzs⟩ : ∃ zs : List Value, List.replicate 182 (.int .i64 0) = zs := ⟨_, rfl⟩
  have hzl : zs.length = 182 := by rw [← hzs, List.length_replicate]
  have hz0 : ∀ v ∈ zs, v = .int .i64 0 := fun v hv => by rw [← hzs] at hv; exact List.eq_of_mem_replicate hv
  have hzc : (Builtin.zeroCells (Value.agg #[.int .i64 0, .int .i64 0]).cells 91).toList = zs := by
    rw [← hzs]
    exact zero2 91
  have hst := run_storeCells_cells (P := Tryz.prog) g 26 zs 0 W (by rw [hzl]; simpa using hc) (by intro j _; exact h.fz _) (by intro v hv'; rw [hz0 v hv']; rfl)
  simp only [Nat.add_zero] at hst
  clear hzs
  refine ⟨W.setCells g 26 zs, by simp [Builtin.clear_, run_underlying Tryz.underlying23, hz, hzc, hst], ?_, ?_⟩
  · have hin : ∀ j, j < 182 → (W.setCells g 26 zs).cell? ⟨g, 26 + j, none⟩ = some (.int .i64 0) := fun j hj => by
      have := World.cell?_setCells_in g zs 26 W (by rw [hzl]; exact hc) j (by omega)
      rw [this, hz0 _ (List.getElem_mem _)]
    have hout : ∀ i, i < 26 → (W.setCells g 26 zs).cell? ⟨g, i, none⟩ = W.cell? ⟨g, i, none⟩ := fun i hi =>
      World.cell?_setCells_out g _ 26 W ⟨g, i, none⟩ (fun _ _ => .inl hi)
    refine ⟨Nat.lt_of_lt_of_le h.lt (Nat.le_of_eq (setCells_size g zs 26 W).symm), fun i hi => (hout i (by omega)).trans (h.hd i hi), fun i hi => (hout _ (by omega)).trans (h.a0 i hi), fun i hi => (hout _ (by omega)).trans (h.a1 i hi), fun k hk => hin (k * 2) (by omega), fun k hk => ?_, fun i => by rw [World.frozen?_setCells]; exact h.fz i⟩
    rw [Nat.add_assoc]
    exact hin (k * 2 + 1) (by omega)
  · exact setCells_turns g zs 26 W
end Go.Proofs.YtminplfgadhnnaaGreatDoor
end

/- The walk of package zone's draw: the bounds that are drawn in hold every true light. (Printed by gen/gen_zc6.py.) -/
section
namespace Go.Proofs.YtminplfgadhnnaaGreatDoor
open Go.RowKit Go.Shelf
set_option linter.unusedSimpArgs false
set_option linter.unusedVariables false
open Zm
attribute [local go_sem] Oper.semAt_some ang_eq

theorem expand133 {tmps : Array Value} (h : tmps.size = 133) : ∃ f : Nat → Value, (∀ i, i < 133 → tmps[i]? = some (f i)) ∧ tmps = #[f 0, f 1, f 2, f 3, f 4, f 5, f 6, f 7, f 8, f 9, f 10, f 11, f 12, f 13, f 14, f 15, f 16, f 17, f 18, f 19, f 20, f 21, f 22, f 23, f 24, f 25, f 26, f 27, f 28, f 29, f 30, f 31, f 32, f 33, f 34, f 35, f 36, f 37, f 38, f 39, f 40, f 41, f 42, f 43, f 44, f 45, f 46, f 47, f 48, f 49, f 50, f 51, f 52, f 53, f 54, f 55, f 56, f 57, f 58, f 59, f 60, f 61, f 62, f 63, f 64, f 65, f 66, f 67, f 68, f 69, f 70, f 71, f 72, f 73, f 74, f 75, f 76, f 77, f 78, f 79, f 80, f 81, f 82, f 83, f 84, f 85, f 86, f 87, f 88, f 89, f 90, f 91, f 92, f 93, f 94, f 95, f 96, f 97, f 98, f 99, f 100, f 101, f 102, f 103, f 104, f 105, f 106, f 107, f 108, f 109, f 110, f 111, f 112, f 113, f 114, f 115, f 116, f 117, f 118, f 119, f 120, f 121, f 122, f 123, f 124, f 125, f 126, f 127, f 128, f 129, f 130, f 131, f 132] := by
  refine ⟨fun i => tmps.getD i undef, fun i hi => by show tmps[i]? = some (tmps.getD i undef); rw [Array.getD_eq_getD_getElem?, Array.getElem?_eq_getElem (by omega)]; rfl, ?_⟩
  have e : tmps = ((List.range 133).map fun i => tmps.getD i undef).toArray := by
    apply Array.ext
    · simp [h]
    · intro i h1 h2
      simp [Array.getD_eq_getD_getElem?, Array.getElem?_eq_getElem h1]
  exact e

@[local go_sem] theorem ang_newL (B : Nat → Int × Int) (w : World) : (storeCells ⟨w.heap.size, 0, none⟩ (angA B).toList).run Tryz.prog (w.alloc (.cells #[.int .i64 0, .int .i64 0, .int .i64 0, .int .i64 0, .int .i64 0, .int .i64 0, .int .i64 0, .int .i64 0, .int .i64 0, .int .i64 0, .int .i64 0, .int .i64 0, .int .i64 0, .int .i64 0, .int .i64 0, .int .i64 0, .int .i64 0, .int .i64 0, .int .i64 0, .int .i64 0, .int .i64 0, .int .i64 0] 145)) = .ok () (w.alloc (.cells (angA B) 145)) := ang_new B w _ rfl

theorem Turns.thn {O O2 : Nat → Prop} {A W W' : World} (h : Turns O A W) (k : Turns O2 W W') (hO : ∀ i, O2 i → ¬ O i → A.heap.size ≤ i) : Turns O A W' :=
  ⟨k.os.trans h.os, k.tape.trans h.tape, k.output.trans h.output, Nat.le_trans h.size k.size, fun i hi hn => (k.block i (Nat.lt_of_lt_of_le hi h.size) (fun h2 => by have := hO i h2 hn; omega)).trans (h.block i hi hn)⟩
/-- what a round over the gaps keeps -/
structure IG (w : World) (bx b2 g : Nat) (L : Array Value) (fs : List Bool) (B D : Nat → Int × Int) (ds : List Deferred) (k : Nat) (W : World) : Prop where
  t : Tz W g L (psZ fs k B) D
  x : Cs W bx #[.pointer (some ⟨g, 0, none⟩)]
  c : W.heap[b2]? = some (.cells (angA B) 145 (0, 0))
  m : Marks (bx + 1) ds W
  u : Turns (fun i => i = g) w W

theorem IG.turns {w : World} {bx b2 g : Nat} {L : Array Value} {fs : List Bool} {B D : Nat → Int × Int} {ds : List Deferred} {k : Nat} {V V' : World} {O : Nat → Prop} (h : IG w bx b2 g L fs B D ds k V) (ht : Turns O V V') (hg : ¬ O g) (hx : ¬ O bx) (h2 : ¬ O b2) (hm : ∀ r, O r → ∀ d ∈ ds, d.target ≠ .collected r) (hw : ∀ i, O i → w.heap.size ≤ i) : IG w bx b2 g L fs B D ds k V' :=
  ⟨h.t.turns ht hg, h.x.turns ht hx, (ht.block b2 (Array.getElem?_eq_some_iff.1 h.c).1 h2).trans h.c, h.m.turns ht hm, h.u.thn ht (fun i hi _ => hw i hi)⟩
theorem seqIn_both {F : Fence} {n : Nat} {P : Program} {ops : Array Oper} {Q : Exit → Act → World → Prop} {S : World → Prop} {i j mi mj m' : Nat} {r : List Stp} {a : Act} {w : World}
    (h1 : wpSeqIn F n P ops Q S (.o i 0 :: .o j 0 :: r) a w) (h2 : wpSeqIn F n P ops Q S (.o j 0 :: .o i 0 :: r) a w) : wpSeqIn F n P ops Q S (.b i j mi mj m' :: r) a w := ⟨h1, h2⟩
theorem leavesM_tmps {F : Fence} {n : Nat} {P : Program} {fn : Func} {tmps tmps' : Array Value} {R : Ending → World → Prop} (h0 : fn.results = #[]) : ∀ (ds : List Deferred) (u : FrameMode) (w : World), LeavesInM F n P fn tmps R ds u w → LeavesInM F n P fn tmps' R ds u w
  | [], u, w, h => by
    have e : results fn tmps = results fn tmps' := by unfold results; rw [h0]; simp
    cases u with
    | run => exact h
    | panicking c => exact h
    | returning =>
      obtain ⟨v, h1, h2⟩ := h
      exact ⟨v, by rw [← e]; exact h1, h2⟩
  | d :: ds, u, w, ⟨h1, h2⟩ => ⟨h1, h2.imp (fun ⟨r, w', a, b, c⟩ => ⟨r, w', a, b, leavesM_tmps h0 ds u w' c⟩) (fun ⟨hn, fv, cap, f, args, a, b, c, hc⟩ => ⟨hn, fv, cap, f, args, a, b, c, hc.mono fun e u' w' he => by
      cases e with
      | returned v => exact leavesM_tmps h0 ds _ w' he
      | panicked q => exact leavesM_tmps h0 ds _ w' he
      | outgrown => exact he⟩)⟩
/-- what the other regions of a round read -/
def S5 (bx g bg z4 z5 p r : Nat) (a0 a1 c0 c1 : Int) (U : World) : Prop :=
  U.cell? ⟨bx, 0, none⟩ = some (.pointer (some ⟨g, 0, none⟩)) ∧ U.cell? ⟨bg, 0, none⟩ = some (.int .i64 (p : Nat)) ∧ U.cell? ⟨bg, 1, none⟩ = some (.int .i64 (r : Nat)) ∧
    U.cell? ⟨z4, 0, none⟩ = some (.int .i64 a0) ∧ U.cell? ⟨z4, 1, none⟩ = some (.int .i64 a1) ∧ U.cell? ⟨z5, 0, none⟩ = some (.int .i64 c0) ∧ U.cell? ⟨z5, 1, none⟩ = some (.int .i64 c1)
theorem seqIn_end {F : Fence} {n : Nat} {P : Program} {ops : Array Oper} {Q : Exit → Act → World → Prop} {S : World → Prop} {a : Act} {w : World} (K : World → Prop) (hk : K w) (h : ∀ U, K U → Q .normal a U) : wpSeqIn F n P ops Q S [] a w := h w hk
def S15 (bx g bg p r : Nat) (a b : Int) (U : World) : Prop :=
  U.cell? ⟨bx, 0, none⟩ = some (.pointer (some ⟨g, 0, none⟩)) ∧ U.cell? ⟨bg, 0, none⟩ = some (.int .i64 (p : Nat)) ∧ U.cell? ⟨bg, 1, none⟩ = some (.int .i64 (r : Nat)) ∧ U.cell? ⟨g, 4 + r * 2, none⟩ = some (.int .i64 a) ∧ U.cell? ⟨g, 4 + p * 2 + 1, none⟩ = some (.int .i64 b)
def S19 (bx g b1 o1 n1 c1 i : Nat) (y0 a b : Int) (U : World) : Prop :=
  U.cell? ⟨bx, 0, none⟩ = some (.pointer (some ⟨g, 0, none⟩)) ∧ U.cell? ⟨g, 0, none⟩ = some (.slice (some ⟨b1, o1, none⟩) n1 c1) ∧ U.cell? ⟨b1, o1, none⟩ = some (.int .i64 y0) ∧ U.cell? ⟨g, 4 + i * 2, none⟩ = some (.int .i64 a) ∧ U.cell? ⟨g, 4 + i * 2 + 1, none⟩ = some (.int .i64 b)
/-- what a round over the gaps keeps, when degrees are laid -/
structure IH (w : World) (bx g : Nat) (L : Array Value) (an : List Int) (x : Nat → Int) (C : Nat → Int × Int) (ds : List Deferred) (k : Nat) (W : World) : Prop where
  t : ∃ D, Tz W g L C D ∧ ∀ j, j < k → ∀ q, aN an j < q → q < aN an (j + 1) → In2 (x q) (D q)
  x : Cs W bx #[.pointer (some ⟨g, 0, none⟩)]
  m : Marks (bx + 1) ds W
  u : Turns (fun i => i = g) w W
theorem IH.turns {w : World} {bx g : Nat} {L : Array Value} {an : List Int} {x : Nat → Int} {C : Nat → Int × Int} {ds : List Deferred} {k : Nat} {V V' : World} {O : Nat → Prop} (h : IH w bx g L an x C ds k V) (ht : Turns O V V') (hg : ¬ O g) (hx : ¬ O bx) (hm : ∀ r, O r → ∀ d ∈ ds, d.target ≠ .collected r) (hw : ∀ i, O i → w.heap.size ≤ i) : IH w bx g L an x C ds k V' :=
  ⟨by obtain ⟨D, t, p⟩ := h.t; exact ⟨D, t.turns ht hg, p⟩, h.x.turns ht hx, h.m.turns ht hm, h.u.thn ht (fun i hi _ => hw i hi)⟩
/-- what the first region of a round reads -/
def S4 (bx g bg p r : Nat) (a0 a1 c0 c1 : Int) (U : World) : Prop :=
  U.cell? ⟨bx, 0, none⟩ = some (.pointer (some ⟨g, 0, none⟩)) ∧ U.cell? ⟨bg, 0, none⟩ = some (.int .i64 (p : Nat)) ∧ U.cell? ⟨bg, 1, none⟩ = some (.int .i64 (r : Nat)) ∧
    U.cell? ⟨g, 4 + p * 2, none⟩ = some (.int .i64 a0) ∧ U.cell? ⟨g, 4 + p * 2 + 1, none⟩ = some (.int .i64 a1) ∧ U.cell? ⟨g, 4 + r * 2, none⟩ = some (.int .i64 c0) ∧ U.cell? ⟨g, 4 + r * 2 + 1, none⟩ = some (.int .i64 c1)

set_option maxRecDepth 100000 in
set_option maxHeartbeats 16000000 in
theorem draw_ok (g : Nat) (A1 : Option Addr) (n1 c1 : Nat) (A2 : Option Addr) (n2 c2 : Nat) (A3 : Option Addr) (n3 c3 : Nat) (A4 : Option Addr) (n4 c4 : Nat) (an : List Int) (ls : List (Int × Int)) (fs : List Bool) (ws : List Int) (w : World) (B0 : Nat → Int × Int) (D0 : Nat → Int × Int) (x : Nat → Int) (hT : Tz w g #[.slice A1 n1 c1, .slice A2 n2 c2, .slice A3 n3 c3, .slice A4 n4 c4] B0 D0) (h : Lmp w A1 n1 c1 A2 n2 c2 A3 n3 c3 A4 n4 c4 an ls fs ws) (ho : LampOk an ls fs ws) (hx : TrueL an ls fs n4 x) (hB : InvB n1 (fun i => x (aN an i)) B0)
    (hA : ∀ b off, 0 < n1 → A1 = some ⟨b, off, none⟩ → b ≠ g) (hA3 : ∀ b off, 0 < n3 → A3 = some ⟨b, off, none⟩ → b ≠ g) :
    Calls Tryz.prog 144 #[.pointer (some ⟨g, 0, none⟩)] w fun e w' => (∃ v, e = .returned v) ∧ (∃ B D, Tz w' g #[.slice A1 n1 c1, .slice A2 n2 c2, .slice A3 n3 c3, .slice A4 n4 c4] B D ∧ ∀ k, k < n4 → In2 (x k) (D k)) ∧ Turns (fun i => i = g) w w' := by
  have hgl := hT.lt
  have hl1 := h.h1.1
  have hl3 := h.h3.1
  have hl4 := h.h4.1
  have hn10 : n1 ≤ 10 := by have := ho.n10; omega
  have hn3 : n3 + 1 = n1 := by have := ho.fsl; omega
  have hw4 : n4 ≤ 91 := by have := ho.ws91; omega
  have hv := tr_gap ho (by rw [hl4]; exact hx)
  rw [hl1] at hv
  have HT := Lib.hid hT
  have H := Lib.hid h
  have HO := Lib.hid ho
  have HX := Lib.hid hx
  have HB := Lib.hid hB
  have HV := Lib.hid hv
  have HA := Lib.hid hA
  have HA3 := Lib.hid hA3
  clear hT h ho hx hB hv hA hA3
  refine (callsIn_wide (n := 8)).1 ?_
  refine callsIn_of_wp_marks Tryz.func144 rfl trivial ?_ rfl
  simp only [Tryz.ntmps144, List.size_toArray, List.length_cons, List.length_nil, Nat.reduceAdd, Nat.reduceSub, Array.replicate_succ, Array.replicate_zero, List.push_toArray, List.append_toArray, List.nil_append, List.cons_append]
  gi_wp2_with fail
  obtain ⟨bx, hbx⟩ : ∃ b, w.heap.size = b := ⟨_, rfl⟩
  have hX0 : Cs (w.alloc (.cells #[.pointer (some ⟨g, 0, none⟩)] 81)) bx #[.pointer (some ⟨g, 0, none⟩)] := Cs.new _ _ _ _ hbx
  have hU0 : Below w.heap.size w (w.alloc (.cells #[.pointer (some ⟨g, 0, none⟩)] 81)) := blA
  rw [hbx] at hgl
  refine wpIn_loop_ghost (fun m a W => ∃ B, wid B 11 = m ∧ a.tmps.size = 133 ∧ a.tmps[1]? = some (.pointer (some ⟨bx, 0, none⟩)) ∧ InvB n1 (fun i => x (aN an i)) B ∧ Marks (bx + 1) a.defers W ∧ Tz W g #[.slice A1 n1 c1, .slice A2 n2 c2, .slice A3 n3 c3, .slice A4 n4 c4] B D0 ∧ Cs W bx #[.pointer (some ⟨g, 0, none⟩)] ∧ Turns (fun i => i = g) w W) (wid B0 11) ?_ ?_
  · exact ⟨B0, rfl, rfl, by rw [hbx]; rfl, HB.out, Marks.nil _ _, HT.out.below hU0, hX0, Turns.of_below hU0⟩
  clear hX0 hU0
  rintro m ⟨tmps, ds⟩ W ⟨B, rfl, hsz, h1, hB, hM, hT, hX, hU⟩
  dsimp only at hsz h1 hM
  obtain ⟨f, hf, he⟩ := expand133 hsz
  have hf1 := hf 1 (by omega)
  rw [h1] at hf1
  injection hf1 with hf1
  subst he
  rw [← hf1]
  clear hf1 hf h1 hsz
  have cX := hX.c
  have lX := hX.lt
  have hTg := hT.lt
  gi_wp2_with (refine wpListIn_load_at rfl _ _ rfl ⟨g, 4, none⟩ (by rfl) _ (load_ang hT) ?_)
  obtain ⟨W2, hW2⟩ : ∃ V, W.alloc (.cells (angA B) 145) = V := ⟨_, rfl⟩
  have hb02 : Below W.heap.size W W2 := by rw [← hW2]; exact blA
  have hC2 : W2.heap[W.heap.size]? = some (.cells (angA B) 145 (0, 0)) := by rw [← hW2]; exact heap_alloc_new W _
  rw [hW2]
  obtain ⟨b2, hb2⟩ : ∃ b, W.heap.size = b := ⟨_, rfl⟩
  rw [hb2] at hC2 lX ⊢
  have hs2 : b2 < W2.heap.size := (Array.getElem?_eq_some_iff.1 hC2).1
  clear cX hW2
  refine ⟨trivial, (callsIn_wide.2 (gapsF_any g W2)).mono ?_⟩
  rintro _ W3 ⟨rfl, hbg, hb3⟩
  have hT3 := (hT.below hb02).below hb3
  have hX3 := (hX.keep hb02).keep hb3
  have hC3 := (hb3.block b2 hs2).trans hC2
  have hM3 : Marks (bx + 1) ds W3 := (hM.turns (O := fun _ => False) (Turns.of_below hb02) (fun _ h => h.elim)).turns (O := fun _ => False) (Turns.of_below hb3) (fun _ h => h.elim)
  have hU3 : Turns (fun i => i = g) w W3 := (hU.trans (Turns.of_below hb02)).trans (Turns.of_below hb3)
  have hSg : Sg W3 W2.heap.size g A1 n1 c1 A2 n2 c2 A3 n3 c3 A4 n4 c4 an ls fs ws := ⟨hbg, hT3.hd 0 (by omega), hT3.hd 2 (by omega), H.out.h1.turns hU3 HA.out, H.out.h3.turns hU3 HA3.out⟩
  have hs3 : W2.heap.size < W3.heap.size := hbg.lt
  have hmlt := fun d hd r e => (hM3.lt d hd r e).2
  clear hT hX hC2 hM hU hb02 hb3 hTg hbg
  gi_wp2_with fail
  refine range_gaps (by omega) W2.heap.size g _ _ _ _ _ _ _ _ _ _ _ _ _ _ _ _ hSg HO.out hn10 (by omega) HA.out HA3.out rfl rfl (IG w bx b2 g #[.slice A1 n1 c1, .slice A2 n2 c2, .slice A3 n3 c3, .slice A4 n4 c4] fs B D0 ds) ?hI ⟨hT3, hX3, hC3, hM3, hU3⟩
    (fun k a' V => IG w bx b2 g #[.slice A1 n1 c1, .slice A2 n2 c2, .slice A3 n3 c3, .slice A4 n4 c4] fs B D0 ds k V ∧ ∃ bg, W3.heap.size + 2 ≤ bg ∧ Cs V bg #[.int .i64 (hiG fs k : Nat), .int .i64 (loG fs k : Nat)] ∧ a'.tmps.size = 133 ∧ a'.tmps[1]? = some (.pointer (some ⟨bx, 0, none⟩)) ∧ a'.tmps[3]? = some (.pointer (some ⟨bg, 0, none⟩)) ∧ a'.defers = []) ?hAx ?hassign ?hbody ?hdone
  case hI =>
    rintro k V V' h ht
    exact h.turns ht (by omega) (by omega) (by omega) (fun r hr d hd e => by have := hmlt d hd r e; omega) (fun i hi => by omega)
  case hAx =>
    rintro k a' V V' ⟨h, bg, q1, q2, q3⟩ ht
    exact ⟨h.turns ht (by omega) (by omega) (by omega) (fun r hr d hd e => by have := hmlt d hd r e; omega) (fun i hi => by omega), bg, q1, q2.turns ht (by omega), q3⟩
  case hassign =>
    intro l k V K hk hi hV hK
    unfold encG
    gi_wp2_with fail
    have hbV : Below V.heap.size V (V.alloc (.cells #[.int .i64 (hiG fs k : Nat), .int .i64 (loG fs k : Nat)] 219)) := blA
    exact hK _ _ (Turns.of_below hbV) ⟨hi.turns (O := fun _ => False) (Turns.of_below hbV) id id id (fun _ h => h.elim) (fun _ h => h.elim), V.heap.size, hV, Cs.new _ _ _ _ rfl, rfl, rfl, rfl, rfl⟩
  case hbody =>
    rintro l k ⟨tmps', ds'⟩ V hk ⟨hI, bg, hbg, hC, hs', q1, q3, hd⟩ hV
    dsimp only at hs' q1 q3 hd
    subst hd
    obtain ⟨e, he, he'⟩ := expand133 hs'
    have e1 := he 1 (by omega)
    have e3 := he 3 (by omega)
    rw [q1] at e1
    rw [q3] at e3
    injection e1 with e1
    injection e3 with e3
    subst he'
    rw [← e1, ← e3]
    clear e1 e3 he hs' q1 q3 hT3 hX3 hC3 hM3 hU3 hSg
    have hG := hlG fs k
    have hbgl := hC.lt
    have Hrl : Hid (psZ fs (k + 1) B = rlx fs k (psZ fs k B)) := Lib.hid rfl
    have hCt := hI.t
    have HS4 : Hid (∀ U, Below V.heap.size V U → S4 bx g bg (hiG fs k) (loG fs k) (psZ fs k B (hiG fs k)).1 (psZ fs k B (hiG fs k)).2 (psZ fs k B (loG fs k)).1 (psZ fs k B (loG fs k)).2 U) := Lib.hid (fun U hU => by
      have t := hI.t.below hU
      exact ⟨(hI.x.keep hU).c 0, (hC.keep hU).c 0, (hC.keep hU).c 1, t.a0 _ (by omega), t.a1 _ (by omega), t.a0 _ (by omega), t.a1 _ (by omega)⟩)
    have HI := Lib.hid hI
    have HC := Lib.hid hC
    have hpI : ((hiG fs k : Nat) : Int) < 11 := by omega
    have hrI : ((loG fs k : Nat) : Int) < 11 := by omega
    have hpN : hiG fs k < 11 := by omega
    have hrN : loG fs k < 11 := by omega
    clear hI hC hCt
    generalize hCC : psZ fs k B = C at *
    have HCC := Lib.hid hCC
    clear hCC
    obtain ⟨p, hp⟩ : ∃ p, hiG fs k = p := ⟨_, rfl⟩
    obtain ⟨r, hr⟩ : ∃ r, loG fs k = r := ⟨_, rfl⟩
    rw [hp, hr] at HS4 hG
    rw [hp] at hpI hpN
    rw [hr] at hrI hrN
    gi_wp2_with fail
    refine wpIn_region_seq (S := S4 bx g bg p r (C p).1 (C p).2 (C r).1 (C r).2) [.t 0 1, .t 1 3, .t 2 7, .t 3 15, .t 4 31, .t 5 63, .t 6 127, .t 7 255, .t 8 511, .t 9 1023, .t 10 2047, .t 11 4095, .t 12 8191, .t 13 16383, .b 14 15 32767 49151 65535, .o 16 131071, .o 17 262143] (by kernel_rfl) (by kernel_rfl) (by kernel_rfl) (by as_aux_lemma => kernel_rfl) (by kernel_rfl) (fun c a d v w h => by cases d <;> exact h) (HS4.out _ (Below.refl _ _).drew) (fun _ => ?_)
    iterate 14 (refine seqIn_take (v := ?_) rfl (by rfl) (fun _ => rfl) ?_ ?_; rotate_left; focus (intro w9 hSw; obtain ⟨s1, s2, s3, s4, s5, s6, s7⟩ := hSw; (go_simp; (try simp only [hpI, hrI, hpN, hrN, and_self, if_true, if_false]) <;> with_reducible rfl)); try simp only [Act.put, List.setIfInBounds_toArray, List.set_cons_zero, List.set_cons_succ])
    refine seqIn_both ?_ ?_
    · skip
      refine seqIn_one rfl (by rfl) ?_
      go_simp
      refine ⟨HS4.out _ blA, ?_⟩
      try simp only [Act.put, List.setIfInBounds_toArray, List.set_cons_zero, List.set_cons_succ]
      refine seqIn_one rfl (by rfl) ?_
      go_simp
      refine ⟨HS4.out _ blA, ?_⟩
      try simp only [Act.put, List.setIfInBounds_toArray, List.set_cons_zero, List.set_cons_succ]
      refine seqIn_one rfl (by rfl) ?_
      go_simp
      refine ⟨HS4.out _ blA, ?_⟩
      try simp only [Act.put, List.setIfInBounds_toArray, List.set_cons_zero, List.set_cons_succ]
      refine seqIn_one rfl (by rfl) ?_
      go_simp
      refine ⟨HS4.out _ blA, ?_⟩
      try simp only [Act.put, List.setIfInBounds_toArray, List.set_cons_zero, List.set_cons_succ]
      refine seqIn_end (fun U => Below V.heap.size V U ∧ Cs U V.heap.size #[.int .i64 (C p).1, .int .i64 (C p).2] ∧ Cs U (V.heap.size + 1) #[.int .i64 (C r).1, .int .i64 (C r).2]) ⟨blA, csA, csA⟩ ?_
      rintro U ⟨hU, hZ4, hZ5⟩
      obtain ⟨z4, hz4⟩ : ∃ z, V.heap.size = z := ⟨_, rfl⟩
      obtain ⟨z5, hz5⟩ : ∃ z, (V.heap.size + 1) = z := ⟨_, rfl⟩
      rw [hz5] at hZ5 ⊢
      rw [hz4] at hZ4 ⊢
      have hgV : g < V.heap.size := by omega
      have hbxV : bx < V.heap.size := by omega
      have HS5 : Hid (∀ U', Turns (fun i => i = g) U U' → S5 bx g bg z4 z5 p r (C p).1 (C p).2 (C r).1 (C r).2 U') := Lib.hid (fun U' ht => by
        have c1 := (HI.out.x.keep hU).turns ht (by omega)
        have c2 := (HC.out.keep hU).turns ht (by omega)
        have c3 := hZ4.turns ht (by omega)
        have c4 := hZ5.turns ht (by omega)
        rw [hp, hr] at c2
        exact ⟨c1.c 0, c2.c 0, c2.c 1, c3.c 0, c3.c 1, c4.c 0, c4.c 1⟩)
      have HT5 : Hid (Tz U g #[.slice A1 n1 c1, .slice A2 n2 c2, .slice A3 n3 c3, .slice A4 n4 c4] C D0) := Lib.hid (by rw [← HCC.out]; exact HI.out.t.below hU)
      have d0 := HT5.out.a0 p hpN
      have fz := HT5.out.fz
      have hgU := HT5.out.lt
      gi_wp2_with fail
      refine wpIn_region_seq (S := S5 bx g bg z4 z5 p r (C p).1 (C p).2 (C r).1 (C r).2) [.t 0 1, .t 1 3, .t 2 7, .t 3 15, .t 4 31, .t 5 63, .t 6 127, .t 8 383, .t 9 895, .o 7 1023, .t 10 2047, .t 11 4095, .o 12 8191] (by kernel_rfl) (by kernel_rfl) (by kernel_rfl) (by as_aux_lemma => kernel_rfl) (by kernel_rfl) (fun c a d v w h => by cases d <;> exact h) (HS5.out _ (Turns.refl _ _).drew) (fun _ => ?_)
      iterate 9 (refine seqIn_take (v := ?_) rfl (by rfl) (fun _ => rfl) ?_ ?_; rotate_left; focus (intro w9 hSw; obtain ⟨s1, s2, s3, s4, s5, s6, s7⟩ := hSw; (go_simp; (try simp only [hpI, hpN, and_self, if_true, if_false]) <;> with_reducible rfl)); try simp only [Act.put, List.setIfInBounds_toArray, List.set_cons_zero, List.set_cons_succ])
      refine seqIn_one rfl (by rfl) ?_
      go_simp
      try simp only [Act.put, List.setIfInBounds_toArray, List.set_cons_zero, List.set_cons_succ]
      iterate 2 (refine seqIn_take (v := ?_) rfl (by rfl) (fun _ => rfl) ?_ ?_; rotate_left; focus (intro w9 hSw; obtain ⟨s1, s2, s3, s4, s5, s6, s7⟩ := hSw; (go_simp; (try simp only [hpI, hpN, and_self, if_true, if_false]) <;> with_reducible rfl)); try simp only [Act.put, List.setIfInBounds_toArray, List.set_cons_zero, List.set_cons_succ])
      refine seqIn_one rfl (by rfl) ?_
      go_simp
      refine ⟨HS5.out _ (Turns.drew (Turns.setCell _ rfl)), ?_⟩
      try simp only [Act.put, List.setIfInBounds_toArray, List.set_cons_zero, List.set_cons_succ]
      obtain ⟨va, hva⟩ : ∃ v, (if (C p).1 < (C r).1 then (C r).1 else (C p).1) = v := ⟨_, rfl⟩
      rw [hva]
      refine seqIn_end (fun V2 => Turns (fun i => i = g) U V2 ∧ Tz V2 g #[.slice A1 n1 c1, .slice A2 n2 c2, .slice A3 n3 c3, .slice A4 n4 c4] (fun j => if j = p then (va, (C p).2) else C j) D0) ⟨Turns.drew (Turns.setCell _ rfl), (tz_lo HT5.out hpN va).drew⟩ ?_
      rintro V2 ⟨hU2, hT2⟩
      have HT6 := Lib.hid hT2
      have d1 := hT2.a1 r hrN
      have fz2 := hT2.fz
      have hg2 := hT2.lt
      clear d0 fz hgU hT2
      gi_wp2_with fail
      refine wpIn_region_seq (S := S5 bx g bg z4 z5 p r (C p).1 (C p).2 (C r).1 (C r).2) [.t 0 1, .t 1 3, .t 2 7, .t 3 15, .t 4 31, .t 5 63, .t 6 127, .t 8 383, .t 9 895, .o 7 1023, .t 10 2047, .t 11 4095, .o 12 8191] (by kernel_rfl) (by kernel_rfl) (by kernel_rfl) (by as_aux_lemma => kernel_rfl) (by kernel_rfl) (fun c a d v w h => by cases d <;> exact h) (HS5.out _ hU2.drew) (fun _ => ?_)
      iterate 9 (refine seqIn_take (v := ?_) rfl (by rfl) (fun _ => rfl) ?_ ?_; rotate_left; focus (intro w9 hSw; obtain ⟨s1, s2, s3, s4, s5, s6, s7⟩ := hSw; (go_simp; (try simp only [hrI, hrN, and_self, if_true, if_false]) <;> with_reducible rfl)); try simp only [Act.put, List.setIfInBounds_toArray, List.set_cons_zero, List.set_cons_succ])
      refine seqIn_one rfl (by rfl) ?_
      go_simp
      try simp only [Act.put, List.setIfInBounds_toArray, List.set_cons_zero, List.set_cons_succ]
      iterate 2 (refine seqIn_take (v := ?_) rfl (by rfl) (fun _ => rfl) ?_ ?_; rotate_left; focus (intro w9 hSw; obtain ⟨s1, s2, s3, s4, s5, s6, s7⟩ := hSw; (go_simp; (try simp only [hrI, hrN, and_self, if_true, if_false]) <;> with_reducible rfl)); try simp only [Act.put, List.setIfInBounds_toArray, List.set_cons_zero, List.set_cons_succ])
      refine seqIn_one rfl (by rfl) ?_
      go_simp
      refine ⟨HS5.out _ (hU2.trans (Turns.drew (Turns.setCell _ rfl))), ?_⟩
      try simp only [Act.put, List.setIfInBounds_toArray, List.set_cons_zero, List.set_cons_succ]
      obtain ⟨vb, hvb⟩ : ∃ v, (if (C p).2 < (C r).2 then (C p).2 else (C r).2) = v := ⟨_, rfl⟩
      rw [hvb]
      refine seqIn_end (fun V3 => Turns (fun i => i = g) U V3 ∧ Tz V3 g #[.slice A1 n1 c1, .slice A2 n2 c2, .slice A3 n3 c3, .slice A4 n4 c4] (rlx fs k C) D0) ⟨hU2.trans (Turns.drew (Turns.setCell _ rfl)), (Tz.congr (tz_hi HT6.out hrN vb) (fun i _ => by
        rw [rlx_hl, hp, hr, ← hva, ← hvb]
        dsimp only
        by_cases e1 : i = r
        · subst e1
          rw [if_pos rfl, if_pos rfl, if_neg (fun e => hG.1 e.symm)]
          refine Prod.ext rfl ?_
          show (if (C p).2 < (C i).2 then (C p).2 else (C i).2) = min (C i).2 (C p).2
          split <;> omega
        · rw [if_neg e1, if_neg e1]
          by_cases e2 : i = p
          · subst e2
            rw [if_pos rfl, if_pos rfl]
            refine Prod.ext ?_ rfl
            show (if (C i).1 < (C r).1 then (C r).1 else (C i).1) = max (C i).1 (C r).1
            split <;> omega
          · rw [if_neg e2, if_neg e2]) (fun _ _ => rfl)).drew⟩ ?_
      rintro V3 ⟨hU3, hT3⟩
      have hVV : Turns (fun i => i = g) V V3 := (Turns.of_below hU).trans hU3
      have HT7 := Lib.hid hT3
      clear d1 fz2 hg2 hT3 hU2 HT6 HS5
      gi_wp2_with fail
      have hb2V : b2 < V.heap.size := by omega
      exact ⟨hVV, fun i hi => (HT7.out.hd i hi).trans (HI.out.t.hd i hi).symm, ⟨by rw [Hrl.out]; exact HT7.out, HI.out.x.turns hVV (by omega), (hVV.block b2 hb2V (by omega)).trans HI.out.c, HI.out.m.turns hVV (fun r' hr' d hd e => by have := HI.out.m.lt d hd r' e; omega), HI.out.u.trans hVV⟩⟩
    · skip
      refine seqIn_one rfl (by rfl) ?_
      go_simp
      refine ⟨HS4.out _ blA, ?_⟩
      try simp only [Act.put, List.setIfInBounds_toArray, List.set_cons_zero, List.set_cons_succ]
      refine seqIn_one rfl (by rfl) ?_
      go_simp
      refine ⟨HS4.out _ blA, ?_⟩
      try simp only [Act.put, List.setIfInBounds_toArray, List.set_cons_zero, List.set_cons_succ]
      refine seqIn_one rfl (by rfl) ?_
      go_simp
      refine ⟨HS4.out _ blA, ?_⟩
      try simp only [Act.put, List.setIfInBounds_toArray, List.set_cons_zero, List.set_cons_succ]
      refine seqIn_one rfl (by rfl) ?_
      go_simp
      refine ⟨HS4.out _ blA, ?_⟩
      try simp only [Act.put, List.setIfInBounds_toArray, List.set_cons_zero, List.set_cons_succ]
      refine seqIn_end (fun U => Below V.heap.size V U ∧ Cs U (V.heap.size + 1) #[.int .i64 (C p).1, .int .i64 (C p).2] ∧ Cs U V.heap.size #[.int .i64 (C r).1, .int .i64 (C r).2]) ⟨blA, csA, csA⟩ ?_
      rintro U ⟨hU, hZ4, hZ5⟩
      obtain ⟨z4, hz4⟩ : ∃ z, (V.heap.size + 1) = z := ⟨_, rfl⟩
      obtain ⟨z5, hz5⟩ : ∃ z, V.heap.size = z := ⟨_, rfl⟩
      rw [hz4] at hZ4 ⊢
      rw [hz5] at hZ5 ⊢
      have hgV : g < V.heap.size := by omega
      have hbxV : bx < V.heap.size := by omega
      have HS5 : Hid (∀ U', Turns (fun i => i = g) U U' → S5 bx g bg z4 z5 p r (C p).1 (C p).2 (C r).1 (C r).2 U') := Lib.hid (fun U' ht => by
        have c1 := (HI.out.x.keep hU).turns ht (by omega)
        have c2 := (HC.out.keep hU).turns ht (by omega)
        have c3 := hZ4.turns ht (by omega)
        have c4 := hZ5.turns ht (by omega)
        rw [hp, hr] at c2
        exact ⟨c1.c 0, c2.c 0, c2.c 1, c3.c 0, c3.c 1, c4.c 0, c4.c 1⟩)
      have HT5 : Hid (Tz U g #[.slice A1 n1 c1, .slice A2 n2 c2, .slice A3 n3 c3, .slice A4 n4 c4] C D0) := Lib.hid (by rw [← HCC.out]; exact HI.out.t.below hU)
      have d0 := HT5.out.a0 p hpN
      have fz := HT5.out.fz
      have hgU := HT5.out.lt
      gi_wp2_with fail
      refine wpIn_region_seq (S := S5 bx g bg z4 z5 p r (C p).1 (C p).2 (C r).1 (C r).2) [.t 0 1, .t 1 3, .t 2 7, .t 3 15, .t 4 31, .t 5 63, .t 6 127, .t 8 383, .t 9 895, .o 7 1023, .t 10 2047, .t 11 4095, .o 12 8191] (by kernel_rfl) (by kernel_rfl) (by kernel_rfl) (by as_aux_lemma => kernel_rfl) (by kernel_rfl) (fun c a d v w h => by cases d <;> exact h) (HS5.out _ (Turns.refl _ _).drew) (fun _ => ?_)
      iterate 9 (refine seqIn_take (v := ?_) rfl (by rfl) (fun _ => rfl) ?_ ?_; rotate_left; focus (intro w9 hSw; obtain ⟨s1, s2, s3, s4, s5, s6, s7⟩ := hSw; (go_simp; (try simp only [hpI, hpN, and_self, if_true, if_false]) <;> with_reducible rfl)); try simp only [Act.put, List.setIfInBounds_toArray, List.set_cons_zero, List.set_cons_succ])
      refine seqIn_one rfl (by rfl) ?_
      go_simp
      try simp only [Act.put, List.setIfInBounds_toArray, List.set_cons_zero, List.set_cons_succ]
      iterate 2 (refine seqIn_take (v := ?_) rfl (by rfl) (fun _ => rfl) ?_ ?_; rotate_left; focus (intro w9 hSw; obtain ⟨s1, s2, s3, s4, s5, s6, s7⟩ := hSw; (go_simp; (try simp only [hpI, hpN, and_self, if_true, if_false]) <;> with_reducible rfl)); try simp only [Act.put, List.setIfInBounds_toArray, List.set_cons_zero, List.set_cons_succ])
      refine seqIn_one rfl (by rfl) ?_
      go_simp
      refine ⟨HS5.out _ (Turns.drew (Turns.setCell _ rfl)), ?_⟩
      try simp only [Act.put, List.setIfInBounds_toArray, List.set_cons_zero, List.set_cons_succ]
      obtain ⟨va, hva⟩ : ∃ v, (if (C p).1 < (C r).1 then (C r).1 else (C p).1) = v := ⟨_, rfl⟩
      rw [hva]
      refine seqIn_end (fun V2 => Turns (fun i => i = g) U V2 ∧ Tz V2 g #[.slice A1 n1 c1, .slice A2 n2 c2, .slice A3 n3 c3, .slice A4 n4 c4] (fun j => if j = p then (va, (C p).2) else C j) D0) ⟨Turns.drew (Turns.setCell _ rfl), (tz_lo HT5.out hpN va).drew⟩ ?_
      rintro V2 ⟨hU2, hT2⟩
      have HT6 := Lib.hid hT2
      have d1 := hT2.a1 r hrN
      have fz2 := hT2.fz
      have hg2 := hT2.lt
      clear d0 fz hgU hT2
      gi_wp2_with fail
      refine wpIn_region_seq (S := S5 bx g bg z4 z5 p r (C p).1 (C p).2 (C r).1 (C r).2) [.t 0 1, .t 1 3, .t 2 7, .t 3 15, .t 4 31, .t 5 63, .t 6 127, .t 8 383, .t 9 895, .o 7 1023, .t 10 2047, .t 11 4095, .o 12 8191] (by kernel_rfl) (by kernel_rfl) (by kernel_rfl) (by as_aux_lemma => kernel_rfl) (by kernel_rfl) (fun c a d v w h => by cases d <;> exact h) (HS5.out _ hU2.drew) (fun _ => ?_)
      iterate 9 (refine seqIn_take (v := ?_) rfl (by rfl) (fun _ => rfl) ?_ ?_; rotate_left; focus (intro w9 hSw; obtain ⟨s1, s2, s3, s4, s5, s6, s7⟩ := hSw; (go_simp; (try simp only [hrI, hrN, and_self, if_true, if_false]) <;> with_reducible rfl)); try simp only [Act.put, List.setIfInBounds_toArray, List.set_cons_zero, List.set_cons_succ])
      refine seqIn_one rfl (by rfl) ?_
      go_simp
      try simp only [Act.put, List.setIfInBounds_toArray, List.set_cons_zero, List.set_cons_succ]
      iterate 2 (refine seqIn_take (v := ?_) rfl (by rfl) (fun _ => rfl) ?_ ?_; rotate_left; focus (intro w9 hSw; obtain ⟨s1, s2, s3, s4, s5, s6, s7⟩ := hSw; (go_simp; (try simp only [hrI, hrN, and_self, if_true, if_false]) <;> with_reducible rfl)); try simp only [Act.put, List.setIfInBounds_toArray, List.set_cons_zero, List.set_cons_succ])
      refine seqIn_one rfl (by rfl) ?_
      go_simp
      refine ⟨HS5.out _ (hU2.trans (Turns.drew (Turns.setCell _ rfl))), ?_⟩
      try simp only [Act.put, List.setIfInBounds_toArray, List.set_cons_zero, List.set_cons_succ]
      obtain ⟨vb, hvb⟩ : ∃ v, (if (C p).2 < (C r).2 then (C p).2 else (C r).2) = v := ⟨_, rfl⟩
      rw [hvb]
      refine seqIn_end (fun V3 => Turns (fun i => i = g) U V3 ∧ Tz V3 g #[.slice A1 n1 c1, .slice A2 n2 c2, .slice A3 n3 c3, .slice A4 n4 c4] (rlx fs k C) D0) ⟨hU2.trans (Turns.drew (Turns.setCell _ rfl)), (Tz.congr (tz_hi HT6.out hrN vb) (fun i _ => by
        rw [rlx_hl, hp, hr, ← hva, ← hvb]
        dsimp only
        by_cases e1 : i = r
        · subst e1
          rw [if_pos rfl, if_pos rfl, if_neg (fun e => hG.1 e.symm)]
          refine Prod.ext rfl ?_
          show (if (C p).2 < (C i).2 then (C p).2 else (C i).2) = min (C i).2 (C p).2
          split <;> omega
        · rw [if_neg e1, if_neg e1]
          by_cases e2 : i = p
          · subst e2
            rw [if_pos rfl, if_pos rfl]
            refine Prod.ext ?_ rfl
            show (if (C i).1 < (C r).1 then (C r).1 else (C i).1) = max (C i).1 (C r).1
            split <;> omega
          · rw [if_neg e2, if_neg e2]) (fun _ _ => rfl)).drew⟩ ?_
      rintro V3 ⟨hU3, hT3⟩
      have hVV : Turns (fun i => i = g) V V3 := (Turns.of_below hU).trans hU3
      have HT7 := Lib.hid hT3
      clear d1 fz2 hg2 hT3 hU2 HT6 HS5
      gi_wp2_with fail
      have hb2V : b2 < V.heap.size := by omega
      exact ⟨hVV, fun i hi => (HT7.out.hd i hi).trans (HI.out.t.hd i hi).symm, ⟨by rw [Hrl.out]; exact HT7.out, HI.out.x.turns hVV (by omega), (hVV.block b2 hb2V (by omega)).trans HI.out.c, HI.out.m.turns hVV (fun r' hr' d hd e => by have := HI.out.m.lt d hd r' e; omega), HI.out.u.trans hVV⟩⟩
  case hdone =>
    intro V hI hD
    have hB' := hB.ps (fs := fs) HV.out (m := n3) (by omega)
    have hnar := ps_nar fs B n3
    have hM : Marks (bx + 1) ({ target := .collected W3.heap.size, args := #[] } :: ds) V := hI.m.cons (by omega) hD (fun d hd e => by have := hmlt d hd _ e; omega)
    have hT7 := hI.t
    have hX7 := hI.x
    have hC7 := hI.c
    have hU7 := hI.u
    clear hI hT3 hX3 hC3 hM3 hU3 hSg
    generalize psZ fs n3 B = C at *
    gi_wp2_with fail
    refine wpIn_region_seq (S := fun U => U.cell? ⟨bx, 0, none⟩ = some (.pointer (some ⟨g, 0, none⟩)) ∧ Tz U g #[.slice A1 n1 c1, .slice A2 n2 c2, .slice A3 n3 c3, .slice A4 n4 c4] C D0 ∧ U.heap[b2]? = some (.cells (angA B) 145 (0, 0))) [.t 0 1, .t 1 3, .t 2 7, .t 3 15, .t 4 31, .t 5 63] (by kernel_rfl) (by kernel_rfl) (by kernel_rfl) (by as_aux_lemma => kernel_rfl) (by kernel_rfl) (fun c a d v w h => by cases d with | none => exact h | some t => exact leavesM_tmps rfl _ _ _ h) ⟨hX7.drew.c 0, hT7.drew, hC7⟩ (fun _ => ?_)
    iterate 3 (refine seqIn_take (v := ?_) rfl (by rfl) (fun _ => rfl) ?_ ?_; rotate_left; focus (intro w9 hSw; obtain ⟨s1, s2, s3⟩ := hSw; (go_simp; (try simp only [and_self, if_true, if_false]) <;> with_reducible rfl)); try simp only [Act.put, List.setIfInBounds_toArray, List.set_cons_zero, List.set_cons_succ])
    refine seqIn_take (v := .agg (angA C)) rfl (by rfl) (fun _ => rfl) (fun U hU => exec_load_at _ _ rfl ⟨g, 4, none⟩ (by rfl) _ (load_ang hU.2.1)) ?_
    try simp only [Act.put, List.setIfInBounds_toArray, List.set_cons_zero, List.set_cons_succ]
    refine seqIn_take (v := .agg (angA B)) rfl (by rfl) (fun _ => rfl) (fun U hU => exec_load_at _ _ rfl ⟨b2, 0, none⟩ (by rfl) _ (run_loadVar_row U b2 _ _ (angA B) (0, 0) _ hU.2.2 bndT_under rfl (by rw [bndT_size, angA_size]))) ?_
    try simp only [Act.put, List.setIfInBounds_toArray, List.set_cons_zero, List.set_cons_succ]
    refine seqIn_take (v := .bool (eqAng C B)) rfl (by rfl) (fun _ => rfl) (fun U hU => by go_simp) ?_
    try simp only [Act.put, List.setIfInBounds_toArray, List.set_cons_zero, List.set_cons_succ]
    refine seqIn_end (fun U => U = V.drew) rfl ?_
    rintro U rfl
    cases hq : eqAng C B with
    | false =>
      obtain ⟨i, hi, hne⟩ := eqAng_no hq
      gi_wp2_with fail
      exact ⟨wid C 11, wid_lt hnar (fun i _ => (hB'.all i).2.1) hi (fun e => hne e.symm), C, rfl, rfl, rfl, hB', ⟨hM.at_, hM.nd⟩, hT7.drew, hX7.drew, hU7.drew⟩
    | true =>
      have hr0 := run_clear_deg hT7.drew 0
      obtain ⟨W9, hrun, hT9, ht9⟩ := hr0
      have hX9 := hX7.drew.turns ht9 (by omega)
      have hM9 : Marks (bx + 1) ({ target := .collected W3.heap.size, args := #[] } :: ds) W9 := Marks.turns (W := V.drew) ⟨hM.at_, hM.nd⟩ ht9 (fun r hr d hd e => by have := hM.lt d hd r e; omega)
      have hU9 : Turns (fun i => i = g) w W9 := hU7.drew.trans ht9
      have cX9 := hX9.c
      have lX9 := hX9.lt
      clear hT7 hX7 hC7 hU7 hM hD hnar hB
      gi_wp2_with fail
      refine ⟨trivial, (callsIn_wide.2 (gapsF_any g W9)).mono ?_⟩
      rintro _ W10 ⟨rfl, hbg, hb10⟩
      have hT10 := hT9.below hb10
      have hX10 := hX9.keep hb10
      have hM10 := hM9.turns (O := fun _ => False) (Turns.of_below hb10) (fun _ h => h.elim)
      have hU10 : Turns (fun i => i = g) w W10 := hU9.trans (Turns.of_below hb10)
      have hSg : Sg W10 W9.heap.size g A1 n1 c1 A2 n2 c2 A3 n3 c3 A4 n4 c4 an ls fs ws := ⟨hbg, hT10.hd 0 (by omega), hT10.hd 2 (by omega), H.out.h1.turns hU10 HA.out, H.out.h3.turns hU10 HA3.out⟩
      have hs10 : W9.heap.size < W10.heap.size := hbg.lt
      have hmlt2 := fun d hd r e => (hM10.lt d hd r e).2
      generalize hdsE : { target := Target.collected W3.heap.size, args := (#[] : Array Value) } :: ds = ds2 at *
      clear hrun hT9 ht9 hX9 hM9 hU9 cX9 hb10 hbg hdsE
      gi_wp2_with fail
      refine range_gaps (by omega) W9.heap.size g _ _ _ _ _ _ _ _ _ _ _ _ _ _ _ _ hSg HO.out hn10 (by omega) HA.out HA3.out rfl rfl (IH w bx g #[.slice A1 n1 c1, .slice A2 n2 c2, .slice A3 n3 c3, .slice A4 n4 c4] an x C ds2) ?hI2 ⟨⟨_, hT10, fun j hj => absurd hj (by omega)⟩, hX10, hM10, hU10⟩
        (fun k a' V => IH w bx g #[.slice A1 n1 c1, .slice A2 n2 c2, .slice A3 n3 c3, .slice A4 n4 c4] an x C ds2 k V ∧ ∃ bg, W10.heap.size + 2 ≤ bg ∧ Cs V bg #[.int .i64 (hiG fs k : Nat), .int .i64 (loG fs k : Nat)] ∧ Cs V (bg + 1) #[.int .i64 (aN an k : Nat), .int .i64 (aN an (k + 1) : Nat)] ∧ a'.tmps.size = 133 ∧ a'.tmps[1]? = some (.pointer (some ⟨bx, 0, none⟩)) ∧ a'.tmps[6]? = some (.pointer (some ⟨bg, 0, none⟩)) ∧ a'.tmps[7]? = some (.pointer (some ⟨bg + 1, 0, none⟩)) ∧ a'.defers = []) ?hAx2 ?hassign2 ?hbody2 ?hdone2
      case hI2 =>
        rintro k V V' h ht
        exact h.turns ht (by omega) (by omega) (fun r hr d hd e => by have := hmlt2 d hd r e; omega) (fun i hi => by omega)
      case hAx2 =>
        rintro k a' V V' ⟨h, bg, q1, q2, q2', q3⟩ ht
        exact ⟨h.turns ht (by omega) (by omega) (fun r hr d hd e => by have := hmlt2 d hd r e; omega) (fun i hi => by omega), bg, q1, q2.turns ht (by omega), q2'.turns ht (by omega), q3⟩
      case hassign2 =>
        intro l k V K hk hi hV hK
        unfold encG
        gi_wp2_with fail
        have hbV : Below V.heap.size V ((V.alloc (.cells #[.int .i64 (hiG fs k : Nat), .int .i64 (loG fs k : Nat)] 219)).alloc (.cells #[.int .i64 (aN an k : Nat), .int .i64 (aN an (k + 1) : Nat)] 220)) := blA
        exact hK _ _ (Turns.of_below hbV) ⟨hi.turns (O := fun _ => False) (Turns.of_below hbV) id id (fun _ h => h.elim) (fun _ h => h.elim), V.heap.size, hV, csA, csA, rfl, rfl, rfl, rfl, rfl⟩
      case hbody2 =>
        rintro l k ⟨tmps', ds'⟩ V hk ⟨hI, bg, hbg, hC, hC2, hs', q1, q3, q4, hd⟩ hV
        dsimp only at hs' q1 q3 q4 hd
        subst hd
        obtain ⟨e, he, he'⟩ := expand133 hs'
        have e1 := he 1 (by omega)
        have e6 := he 6 (by omega)
        have e7 := he 7 (by omega)
        rw [q1] at e1
        rw [q3] at e6
        rw [q4] at e7
        injection e1 with e1
        injection e6 with e6
        injection e7 with e7
        subst he'
        rw [← e1, ← e6, ← e7]
        clear e1 e6 e7 he hs' q1 q3 q4 hT10 hX10 hM10 hU10 hSg
        have hG := hlG fs k
        have cC2 := hC2.c
        have lC2 := hC2.lt
        have haa : aN an k < aN an (k + 1) := HO.out.aN_lt (by omega) (by omega)
        have hab : aN an (k + 1) < n4 := by have := HO.out.aN_ws (i := k + 1) (by omega); omega
        gi_wp2_with fail
        have Hgap : Hid (∀ q, aN an k ≤ q → q ≤ aN an (k + 1) → In2 (x q) ((C (loG fs k)).1, (C (hiG fs k)).2)) := Lib.hid (fun q h1 h2 => gap_in (ws := ws) HO.out (by rw [hl4]; exact HX.out) (by rw [hl1]; exact hB') (i := k) (by omega) h1 h2)
        obtain ⟨D1, hT1, hD1⟩ := hI.t
        have HIx := Lib.hid hI.x
        have HIm := Lib.hid hI.m
        have HIu := Lib.hid hI.u
        have HC := Lib.hid hC
        have HC2 := Lib.hid hC2
        have HT1 := Lib.hid hT1
        have HT0 := Lib.hid hT1
        have HD1 := Lib.hid hD1
        clear hI hC hC2 hT1 hD1 cC2
        obtain ⟨p, hp⟩ : ∃ p, hiG fs k = p := ⟨_, rfl⟩
        obtain ⟨r, hr⟩ : ∃ r, loG fs k = r := ⟨_, rfl⟩
        rw [hp, hr] at HC Hgap hG
        have hpI : (p : Int) < 11 := by omega
        have hrI : (r : Int) < 11 := by omega
        have hpN : p < 11 := by omega
        have hrN : r < 11 := by omega
        gi_loopw [8] (fun s8 wr => ∃ (q : Nat) (WR : World) (D : Nat → Int × Int), aN an k < q ∧ q ≤ aN an (k + 1) ∧ s8 = .int .i64 (q : Nat) ∧ Hid (WR = wr) ∧ Hid (Tz WR g #[.slice A1 n1 c1, .slice A2 n2 c2, .slice A3 n3 c3, .slice A4 n4 c4] C D) ∧ Hid ((∀ j, j < k → ∀ q, aN an j < q → q < aN an (j + 1) → In2 (x q) (D q)) ∧ ∀ q', aN an k < q' → q' < q → In2 (x q') (D q')) ∧ Turns (fun i => i = g) V WR) (fun s8 _ => aN an (k + 1) - (intOf s8).toNat)
        case atStart => exact ⟨aN an k + 1, _, D1, by omega, by omega, by go_num, Lib.hid rfl, HT1, Lib.hid ⟨HD1.out, fun q' h1 h2 => absurd h2 (by omega)⟩, Turns.refl _ _⟩
        case round =>
          obtain ⟨q, WR, D, hq1, hq2, rfl, HWR, HT, HD, ht⟩ := hrel
          obtain rfl := HWR.out
          clear HWR HT1 HD1
          have cC2 := (HC2.out.turns ht (by omega)).c
          by_cases hlt : q < aN an (k + 1)
          · have hltI : (q : Int) < ((aN an (k + 1) : Nat) : Int) := by omega
            gi_wp2_with fail
            have HS15 : Hid (∀ U, Turns (fun _ => False) WR U → S15 bx g bg p r (C r).1 (C p).2 U) := Lib.hid (fun U hu => by
              have c1 := (HIx.out.turns ht (by omega)).turns hu id
              have c2 := (HC.out.turns ht (by omega)).turns hu id
              have c3 := HT.out.turns hu id
              exact ⟨c1.c 0, c2.c 0, c2.c 1, c3.a0 r hrN, c3.a1 p hpN⟩)
            have hq91 : q < 91 := by omega
            have hq91I : (q : Int) < 91 := by omega
            have d0 := HT.out.d0 q hq91
            have d1 := HT.out.d1 q hq91
            have fz := HT.out.fz
            have lg := HT.out.lt
            refine wpIn_region_seq (S := S15 bx g bg p r (C r).1 (C p).2) [.t 0 1, .t 1 3, .t 2 7, .t 3 15, .t 4 31, .t 5 63, .t 6 127, .t 7 255, .t 8 511, .t 9 1023, .t 10 2047, .t 11 4095, .t 12 8191, .t 13 16383, .t 14 32767, .t 15 65535, .t 16 131071, .t 17 262143, .t 18 524287, .t 19 1048575, .t 20 2097151, .t 21 4194303, .o 22 8388607] (by kernel_rfl) (by kernel_rfl) (by kernel_rfl) (by as_aux_lemma => kernel_rfl) (by kernel_rfl) (fun c a d v w h => by cases d <;> exact h) (HS15.out _ (Turns.refl _ _).drew) (fun _ => ?_)
            iterate 22 (refine seqIn_take (v := ?_) rfl (by rfl) (fun _ => rfl) ?_ ?_; rotate_left; focus (intro w9 hSw; obtain ⟨s1, s2, s3, s4, s5⟩ := hSw; (go_simp; (try simp only [hpI, hrI, hpN, hrN, hq91, hq91I, and_self, if_true, if_false]) <;> with_reducible rfl)); try simp only [Act.put, List.setIfInBounds_toArray, List.set_cons_zero, List.set_cons_succ])
            refine seqIn_one rfl (by rfl) ?_
            go_simp
            have T16 := (tz_deg HT.out hq91 (C r).1 (C p).2).drew
            have t16 : Turns (fun i => i = g) WR ((WR.setCell ⟨g, 26 + q * 2, none⟩ (.int .i64 (C r).1)).setCell ⟨g, 26 + q * 2 + 1, none⟩ (.int .i64 (C p).2)).drew := ((Turns.setCell (O := fun i => i = g) (p := ⟨g, 26 + q * 2, none⟩) _ rfl).trans (Turns.setCell (O := fun i => i = g) (p := ⟨g, 26 + q * 2 + 1, none⟩) _ rfl)).drew
            refine ⟨⟨((HIx.out.turns ht (by omega)).turns t16 (by omega)).c 0, ((HC.out.turns ht (by omega)).turns t16 (by omega)).c 0, ((HC.out.turns ht (by omega)).turns t16 (by omega)).c 1, T16.a0 r hrN, T16.a1 p hpN⟩, ?_⟩
            try simp only [Act.put, List.setIfInBounds_toArray, List.set_cons_zero, List.set_cons_succ]
            refine seqIn_end (fun U => Turns (fun i => i = g) WR U ∧ Tz U g #[.slice A1 n1 c1, .slice A2 n2 c2, .slice A3 n3 c3, .slice A4 n4 c4] C (fun j => if j = q then ((C r).1, (C p).2) else D j)) ⟨t16, T16⟩ ?_
            clear T16 t16
            rintro U ⟨hu, hTu⟩
            have HTu := Lib.hid hTu
            clear hTu d0 d1 fz lg cC2 HS15
            gi_wp2_with fail
            go_roundw
            case rel =>
              refine ⟨q + 1, U, _, by omega, by omega, by go_num, Lib.hid rfl, HTu, Lib.hid ⟨fun j hj q' h1 h2 => ?_, fun q' h1 h2 => ?_⟩, ht.trans hu⟩
              · have hle := HO.out.aN_le (i := j + 1) (k := k) (by omega) (by omega)
                show In2 (x q') (if q' = q then _ else D q')
                rw [if_neg (by omega)]
                exact HD.out.1 j hj q' h1 h2
              · show In2 (x q') (if q' = q then _ else D q')
                by_cases e : q' = q
                · rw [if_pos e, e]; exact Hgap.out q (by omega) (by omega)
                · rw [if_neg e]; exact HD.out.2 q' h1 (by omega)
            case measure => simp [intOf]; omega
          · obtain rfl : q = aN an (k + 1) := by omega
            have hltI : ¬ ((aN an (k + 1) : Nat) : Int) < ((aN an (k + 1) : Nat) : Int) := by omega
            gi_wp2_with fail
            obtain ⟨hD2, hD3⟩ := HD.out
            exact ⟨ht, fun i hi => (HT.out.hd i hi).trans (HT0.out.hd i hi).symm, ⟨⟨D, HT.out, fun j hj q' h1 h2 => by
              by_cases e : j = k
              · subst e; exact hD3 q' h1 h2
              · exact hD2 j (by omega) q' h1 h2⟩, HIx.out.turns ht (by omega), HIm.out.turns ht (fun r' hr' d hd e => by have := HIm.out.lt d hd r' e; omega), HIu.out.trans ht⟩⟩
      case hdone2 =>
        intro V hI hD
        have hM2 := hI.m.cons (a := #[]) (r := W10.heap.size) (by omega) hD (fun d hd e => by have := hmlt2 d hd _ e; omega)
        obtain ⟨D1, hT1, hD1⟩ := hI.t
        have hX1 := hI.x
        have hU1 := hI.u
        have cX1 := hX1.c
        have lX1 := hX1.lt
        have c10 : V.cell? ⟨g, 0, none⟩ = some (.slice A1 n1 c1) := hT1.hd 0 (by omega)
        have lg1 := hT1.lt
        clear hI hD hT10 hX10 hM10 hU10 hSg
        gi_wp2_with fail
        clear cX1 c10
        have hT0 := hT1
        gi_loopw [108] (fun s108 wr => ∃ (i : Nat) (WR : World) (D : Nat → Int × Int), i ≤ n1 ∧ s108 = .int .i64 (i : Nat) ∧ Hid (WR = wr) ∧ Hid (Tz WR g #[.slice A1 n1 c1, .slice A2 n2 c2, .slice A3 n3 c3, .slice A4 n4 c4] C D) ∧ Hid ((∀ j, j < n3 → ∀ q, aN an j < q → q < aN an (j + 1) → In2 (x q) (D q)) ∧ ∀ j, j < i → In2 (x (aN an j)) (D (aN an j))) ∧ Turns (fun i => i = g) V WR) (fun s108 _ => n1 - (intOf s108).toNat)
        case atStart => exact ⟨0, _, D1, by omega, rfl, Lib.hid rfl, Lib.hid hT1, Lib.hid ⟨hD1, fun j hj => absurd hj (by omega)⟩, Turns.refl _ _⟩
        case round =>
          obtain ⟨i, WR, D, hi, rfl, HWR, HT, HD, ht⟩ := hrel
          obtain rfl := HWR.out
          clear HWR hT1 hD1 hT0
          by_cases hin : i < n1
          · have hinI : (i : Int) < (n1 : Int) := by omega
            have hint := H.out.h1.turns (hU1.trans ht) HA.out
            obtain ⟨b1, o1, rfl, hl1b, ci⟩ := hint.at0 (Below.refl _ _) hin
            have c0 := hint.cell0 0 (by omega)
            rw [HO.out.aN_int (i := i) (by omega)] at ci
            rw [Nat.add_zero] at c0
            have hbd0 := HO.out.bd 0 (by omega)
            have hbdi := HO.out.bd i (by omega)
            rw [HO.out.aN_int (i := i) (by omega)] at hbdi
            have hain : aN an i < n4 := by have := HO.out.aN_ws (i := i) (by omega); omega
            have Hin : Hid (In2 (x (aN an i)) (C i)) := Lib.hid (ang_in (an := an) (by rw [hl1]; exact hB') (by omega))
            have Hinj : Hid (∀ j, j < i → aN an j < aN an i) := Lib.hid (fun j hj => HO.out.aN_lt hj (by omega))
            have Hgapi : Hid (∀ j, j < n3 → ∀ q, aN an j < q → q < aN an (j + 1) → q ≠ aN an i) := Lib.hid (fun j hj q h1 h2 e => by
              rcases Nat.lt_or_ge j i with h | h
              · have := HO.out.aN_le (i := j + 1) (k := i) (by omega) (by omega); omega
              · have := HO.out.aN_le (i := i) (k := j) (by omega) (by omega); omega)
            obtain ⟨y0, hy0⟩ : ∃ y, an.getD 0 0 = y := ⟨_, rfl⟩
            rw [hy0] at ci c0 hbd0 hbdi
            obtain ⟨a, ha⟩ : ∃ a, aN an i = a := ⟨_, rfl⟩
            rw [ha] at ci hbdi hain Hin Hinj Hgapi
            have hw1 : IntKind.i64.wrap (y0 + ((a : Nat) : Int) - y0) = (a : Nat) := by rw [IntWalk.i64_in _ (by omega)]; omega
            have haI : ((a : Nat) : Int) < 91 := by omega
            have haN : a < 91 := by omega
            have hiI : (i : Int) < 11 := by omega
            have hiN : i < 11 := by omega
            have hk3 : (0 : Int) < (n1 : Int) := by omega
            have hk3n : 0 < n1 := by omega
            clear hint hy0
            gi_wp2_with fail
            have hS0 : S19 bx g b1 o1 n1 c1 i y0 (C i).1 (C i).2 WR.drew := ⟨(hX1.turns ht (by omega)).c 0, HT.out.hd 0 (by omega), c0, HT.out.a0 i hiN, HT.out.a1 i hiN⟩
            have d0 := HT.out.d0 a haN
            have d1 := HT.out.d1 a haN
            have fz := HT.out.fz
            have lg := HT.out.lt
            refine wpIn_region_seq (S := S19 bx g b1 o1 n1 c1 i y0 (C i).1 (C i).2) [.t 0 1, .t 1 3, .t 2 7, .t 3 15, .t 4 31, .t 5 63, .t 6 127, .t 7 255, .t 8 511, .t 9 1023, .t 10 2047, .t 11 4095, .t 12 8191, .t 13 16383, .t 14 32767, .t 15 65535, .t 16 131071, .t 17 262143, .t 18 524287, .o 19 1048575] (by kernel_rfl) (by kernel_rfl) (by kernel_rfl) (by as_aux_lemma => kernel_rfl) (by kernel_rfl) (fun c a d v w h => by cases d with | none => exact h | some t => exact leavesM_tmps rfl _ _ _ h) hS0 (fun _ => ?_)
            iterate 19 (refine seqIn_take (v := ?_) rfl (by rfl) (fun _ => rfl) ?_ ?_; rotate_left; focus (intro w9 hSw; obtain ⟨s1, s2, s3, s4, s5⟩ := hSw; (go_simp; (try simp only [hw1, haI, haN, hiI, hiN, hk3, hk3n, and_self, if_true, if_false]) <;> with_reducible rfl)); try simp only [Act.put, List.setIfInBounds_toArray, List.set_cons_zero, List.set_cons_succ])
            refine seqIn_one rfl (by rfl) ?_
            go_simp
            have T16 := (tz_deg HT.out haN (C i).1 (C i).2).drew
            have t16 : Turns (fun i => i = g) WR ((WR.setCell ⟨g, 26 + a * 2, none⟩ (.int .i64 (C i).1)).setCell ⟨g, 26 + a * 2 + 1, none⟩ (.int .i64 (C i).2)).drew := ((Turns.setCell (O := fun i => i = g) (p := ⟨g, 26 + a * 2, none⟩) _ rfl).trans (Turns.setCell (O := fun i => i = g) (p := ⟨g, 26 + a * 2 + 1, none⟩) _ rfl)).drew
            have hb1g : b1 ≠ g := HA.out b1 o1 (by omega) rfl
            refine ⟨⟨((hX1.turns ht (by omega)).turns t16 (by omega)).c 0, T16.hd 0 (by omega), (World.cell?_of_block (a := ⟨b1, o1, none⟩) (t16.block b1 hl1b hb1g)).trans c0, T16.a0 i hiN, T16.a1 i hiN⟩, ?_⟩
            try simp only [Act.put, List.setIfInBounds_toArray, List.set_cons_zero, List.set_cons_succ]
            refine seqIn_end (fun U => Turns (fun i => i = g) WR U ∧ Tz U g #[.slice (some ⟨b1, o1, none⟩) n1 c1, .slice A2 n2 c2, .slice A3 n3 c3, .slice A4 n4 c4] C (fun j => if j = a then ((C i).1, (C i).2) else D j)) ⟨t16, T16⟩ ?_
            clear T16 t16
            rintro U ⟨hu, hTu⟩
            have HTu := Lib.hid hTu
            clear hTu d0 d1 fz lg hS0 ci c0
            gi_wp2_with fail
            go_roundw
            case rel =>
              refine ⟨i + 1, U, _, by omega, by go_num, Lib.hid rfl, HTu, Lib.hid ⟨fun j hj q h1 h2 => ?_, fun j hj => ?_⟩, ht.trans hu⟩
              · show In2 (x q) (if q = a then _ else D q)
                rw [if_neg (Hgapi.out j hj q h1 h2)]
                exact HD.out.1 j hj q h1 h2
              · show In2 (x (aN an j)) (if aN an j = a then _ else D (aN an j))
                by_cases e : j = i
                · rw [e, ha, if_pos rfl]; exact Hin.out
                · have := Hinj.out j (by omega)
                  rw [if_neg (by omega)]
                  exact HD.out.2 j (by omega)
            case measure => simp [intOf]; omega
          · obtain rfl : n1 = i := by omega
            have hii : ¬ (n1 : Int) < (n1 : Int) := by omega
            gi_wp2_with fail
            refine Marks.leave _ _ (hM2.turns ht (fun r hr d hd e => by have := hM2.lt d hd r e; omega)) (fun W' hw => ⟨_, results_none rfl _ _ _, ⟨_, rfl⟩, ⟨C, D, HT.out.turns hw (by omega), fun k hk => ?_⟩, (hU1.trans ht).thn hw (fun i hi _ => by omega)⟩)
            rcases Nat.eq_zero_or_pos k with hk0 | hk0
            · have := HD.out.2 0 (by omega)
              rw [aN_zero] at this
              rw [hk0]; exact this
            · have hwl := HO.out.wsl
              obtain ⟨i, g1, g2, g3⟩ := gap_ex HO.out (k := k) hk0 (an.length - 1) (by omega) (by omega)
              by_cases e : k = aN an (i + 1)
              · rw [e]; exact HD.out.2 (i + 1) (by omega)
              · exact HD.out.1 i (by omega) k g2 (by omega)
end Go.Proofs.YtminplfgadhnnaaGreatDoor
end
