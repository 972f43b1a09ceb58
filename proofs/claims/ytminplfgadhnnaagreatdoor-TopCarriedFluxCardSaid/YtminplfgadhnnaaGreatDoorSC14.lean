/- ZC7 ZS2 CF1 EN4 BU1 BF1 BF3 BM8 BM12 ZS1 VT ZS3 BK12A -/
import Derived.Test.YtminplfgadhnnaaGreatDoorSC13
import Derived.Test.YtminplfgadhnnaaGreatDoorSC11
import Derived.Test.YtminplfgadhnnaaGreatDoorSC04
import Derived.BigQuiet
import Derived.Test.YtminplfgadhnnaaGreatDoorSC07
import Derived.Test.YtminplfgadhnnaaGreatDoorSC08
import Derived.Test.YtminplfgadhnnaaGreatDoorSC01
import Derived.Test.YtminplfgadhnnaaGreatDoorSC10
import Derived.Test.YtminplfgadhnnaaGreatDoorTV06
import Derived.Test.YtminplfgadhnnaaGreatDoorTV07
import Derived.Test.YtminplfgadhnnaaGreatDoorTV08
import Derived.Test.YtminplfgadhnnaaGreatDoorSC12
import Derived.Test.YtminplfgadhnnaaGreatDoorSC09
/- Walks of package zone: newTable, span, open, Span: the span holds the flux of every true lantern. (Printed by gen/gen_zc7.py.) -/
section
namespace Go.Proofs.YtminplfgadhnnaaGreatDoor
open Go.RowKit Go.Shelf
set_option linter.unusedSimpArgs false
set_option linter.unusedVariables false
open Zm

/-- ranges, cell by cell -/
def flat2 (zs : List (Int × Int)) : List Value := zs.flatMap fun x => [.int .i64 x.1, .int .i64 x.2]
theorem flat2_len : ∀ zs : List (Int × Int), (flat2 zs).length = zs.length * 2
  | [] => rfl
  | x :: zs => by
    have := flat2_len zs
    unfold flat2 at this ⊢
    simp only [List.flatMap_cons, List.length_append, List.length_cons, List.length_nil, this]
    omega
theorem flat2_get : ∀ (zs : List (Int × Int)) (i : Nat), i < zs.length → (flat2 zs)[i * 2]? = some (.int .i64 (zs.getD i (0, 0)).1) ∧ (flat2 zs)[i * 2 + 1]? = some (.int .i64 (zs.getD i (0, 0)).2)
  | [], i, h => by simp at h
  | x :: zs, 0, h => ⟨rfl, rfl⟩
  | x :: zs, i + 1, h => by
    have ih := flat2_get zs i (by simpa using h)
    have e : flat2 (x :: zs) = .int .i64 x.1 :: .int .i64 x.2 :: flat2 zs := rfl
    rw [e, show (i + 1) * 2 = i * 2 + 1 + 1 by omega]
    exact ih
theorem flat2_at (zs : List (Int × Int)) (j : Nat) (v : Value) (h : (flat2 zs)[j]? = some v) : ∃ i, i < zs.length ∧ ((j = i * 2 ∧ v = .int .i64 (zs.getD i (0, 0)).1) ∨ (j = i * 2 + 1 ∧ v = .int .i64 (zs.getD i (0, 0)).2)) := by
  have hj : j < zs.length * 2 := by have := (List.getElem?_eq_some_iff.1 h).1; rwa [flat2_len] at this
  obtain ⟨i, hi⟩ : ∃ i, j = i * 2 ∨ j = i * 2 + 1 := ⟨j / 2, by omega⟩
  rcases hi with rfl | rfl
  · rw [(flat2_get zs i (by omega)).1] at h
    injection h with h
    exact ⟨i, by omega, .inl ⟨rfl, h.symm⟩⟩
  · rw [(flat2_get zs i (by omega)).2] at h
    injection h with h
    exact ⟨i, by omega, .inr ⟨rfl, h.symm⟩⟩
theorem rngT_size : (Tryz.prog.info? 32).map (·.size) = some 2 := by kernel_rfl

set_option maxRecDepth 100000 in
/-- the ranges of a lamp, copied into a table -/
theorem run_copy_rng {W : World} {g : Nat} {L : Array Value} {D : Nat → Int × Int} (hT : Tz W g L (fun _ => (0, 0)) D) (A2 : Option Addr) (n2 c2 : Nat) (ls : List (Int × Int)) (h : Prs W A2 n2 ls) (h1 : 1 ≤ n2) (h2 : n2 ≤ 10) (ty : TypeId) :
    ∃ W', (Builtin.copy_ #[23, 23] ty #[.slice (some ⟨g, 4, none⟩) 11 11, .slice A2 n2 c2]).run Tryz.prog W = .ok (goInt n2) W' ∧ Tz W' g L (b0 ls) D ∧ Turns (fun i => i = g) W W' := by
  have hl := h.1
  obtain ⟨b, off, rfl, hlt, hcell⟩ := h.2 (by omega)
  obtain ⟨i, hi, hs⟩ := Option.map_eq_some_iff.1 rngT_size
  have hu := Tryz.underlying23
  obtain ⟨zs, hzs⟩ : ∃ zs, flat2 ls = zs := ⟨_, rfl⟩
  have hzl : zs.length = n2 * 2 := by rw [← hzs, flat2_len, hl]
  have hzat : ∀ (j : Nat) (v : Value), zs[j]? = some v → ∃ i, i < n2 ∧ ((j = i * 2 ∧ v = .int .i64 (b0 ls i).1) ∨ (j = i * 2 + 1 ∧ v = .int .i64 (b0 ls i).2)) := fun j v hv => by
    rw [← hzs] at hv
    have := flat2_at ls j v hv
    rwa [hl] at this
  have hzget : ∀ i, i < n2 → zs[i * 2]? = some (.int .i64 (b0 ls i).1) ∧ zs[i * 2 + 1]? = some (.int .i64 (b0 ls i).2) := fun i hi => by rw [← hzs]; exact flat2_get ls i (by omega)
  clear hzs
  have hc : ∀ j, j < zs.length → (W.cell? ⟨g, 4 + j, none⟩).isSome = true := fun j hj => by
    obtain ⟨c, hc | hc⟩ : ∃ c, j = c * 2 ∨ j = c * 2 + 1 := ⟨j / 2, by omega⟩
    · rw [hc, hT.a0 c (by omega)]; rfl
    · rw [hc, ← Nat.add_assoc, hT.a1 c (by omega)]; rfl
  have hst := run_storeCells_cells (P := Tryz.prog) g 4 zs 0 W (by simpa using hc) (by intro j _; exact hT.fz _) (by
    intro v hv
    obtain ⟨j, hj⟩ := List.mem_iff_getElem?.1 hv
    obtain ⟨i, _, ⟨_, rfl⟩ | ⟨_, rfl⟩⟩ := hzat j v hj <;> rfl)
  simp only [Nat.add_zero] at hst
  have hld := run_loadCells_list (P := Tryz.prog) W ⟨b, off, none⟩ zs (fun j v hv => by
    obtain ⟨i, hi, ⟨rfl, rfl⟩ | ⟨rfl, rfl⟩⟩ := hzat j v hv
    · have hg : ls[i]? = some (b0 ls i) := by unfold b0; rw [List.getD_eq_getElem?_getD, List.getElem?_eq_getElem (by omega)]; rfl
      rw [Go.WideShapes.add_plain]
      exact (hcell i _ _ hg).1
    · have hg : ls[i]? = some (b0 ls i) := by unfold b0; rw [List.getD_eq_getElem?_getD, List.getElem?_eq_getElem (by omega)]; rfl
      rw [Go.WideShapes.add_plain, ← Nat.add_assoc]
      exact (hcell i _ _ hg).2)
  rw [hzl] at hld
  have hmin : Nat.min n2 11 = n2 := Nat.min_eq_left (by omega)
  refine ⟨W.setCells g 4 zs, by simp [Builtin.copy_, run_underlying hu, Builtin.lenOf, Builtin.firstCells, sizeOf, typeInfo, hi, hs, hmin, hld, hst], ?_, setCells_turns g zs 4 W⟩
  have hin : ∀ j v, zs[j]? = some v → (W.setCells g 4 zs).cell? ⟨g, 4 + j, none⟩ = some v := fun j v hv => by
    have hj := (List.getElem?_eq_some_iff.1 hv)
    rw [World.cell?_setCells_in g zs 4 W hc j hj.1, hj.2]
  have hout : ∀ i, i < 4 ∨ 4 + n2 * 2 ≤ i → (W.setCells g 4 zs).cell? ⟨g, i, none⟩ = W.cell? ⟨g, i, none⟩ := fun i hi =>
    World.cell?_setCells_out g _ 4 W ⟨g, i, none⟩ (fun _ _ => by rw [hzl]; exact hi)
  have hz : ∀ i, n2 ≤ i → b0 ls i = (0, 0) := fun i hi => by unfold b0; rw [List.getD_eq_getElem?_getD, List.getElem?_eq_none (by omega)]; rfl
  refine ⟨Nat.lt_of_lt_of_le hT.lt (Nat.le_of_eq (setCells_size g zs 4 W).symm), fun i hi => (hout i (by omega)).trans (hT.hd i hi), fun i hi => ?_, fun i hi => ?_, fun k hk => (hout _ (by omega)).trans (hT.d0 k hk), fun k hk => (hout _ (by omega)).trans (hT.d1 k hk), fun i => by rw [World.frozen?_setCells]; exact hT.fz i⟩
  · by_cases hin2 : i < n2
    · exact hin (i * 2) _ (hzget i hin2).1
    · rw [hout _ (by omega), hT.a0 i hi, hz i (by omega)]
  · by_cases hin2 : i < n2
    · rw [Nat.add_assoc]; exact hin (i * 2 + 1) _ (hzget i hin2).2
    · rw [hout _ (by omega), hT.a1 i hi, hz i (by omega)]

set_option maxRecDepth 100000 in
set_option maxHeartbeats 4000000 in
/-- sum, by a method's value -/
theorem zsumM_any (A : Option Addr) (n c q g : Nat) (ws : List Int) (x : Nat → Int) (w : World) (eg : ∀ args w, (callFunc q args).run Tryz.prog w = .ok (.enter q args) w) (h1 : Ints w A n ws) (hn : n ≤ 1000)
    (hw : ∀ k, k < ws.length → 0 ≤ ws.getD k 0 ∧ ws.getD k 0 ≤ 1000) (hx : ∀ k, k < ws.length → -100000 ≤ x k ∧ x k ≤ 100000)
    (hp : ∀ k, k < n → ∀ W, Below w.heap.size w W → Calls Tryz.prog q #[.pointer (some ⟨g, 0, none⟩), .int .i64 (k : Nat)] W fun e W' => e = .returned (.int .i64 (x k)) ∧ Below w.heap.size w W') :
    Calls Tryz.prog 36 #[.slice A n c, .func (.func q) #[.pointer (some ⟨g, 0, none⟩)] #[]] w fun e w' => e = .returned (.int .i64 (sumF ws x n)) ∧ Below w.heap.size w w' := by
  have hl1 := h1.1
  have H1 := Lib.hid h1
  have Hp := Lib.hid hp
  have Hbd := Lib.hid (sumF_bd hw hx)
  have Hw := Lib.hid hw
  have Hx := Lib.hid hx
  clear h1 hw hx hp
  go_enter Tryz.func36, Tryz.ntmps36
  go_wp2_with fail
  go_loopw [5, 10] (fun s5 s6 wx => ∃ (i : Nat), i ≤ n ∧ s6 = .int .i64 (i : Nat) ∧ s5 = .int .i64 (sumF ws x i) ∧ Below w.heap.size w wx) (fun _ s6 _ => n - (intOf s6).toNat)
  case atStart => exact ⟨0, Nat.zero_le _, rfl, rfl, blA⟩
  case round =>
    obtain ⟨i, hi, rfl, rfl, hbw⟩ := hrel
    by_cases hin : i < n
    · obtain ⟨b, off, rfl, _, ca⟩ := H1.out.at0 hbw hin
      have hs : sumF ws x (i + 1) = sumF ws x i + ws.getD i 0 * x i := rfl
      obtain ⟨l1, l2⟩ := Hbd.out i (by omega)
      obtain ⟨l3, l4⟩ := Hbd.out (i + 1) (by omega)
      rw [hs] at l3 l4
      have Hs := Lib.hid hs
      have e1 := Hw.out i (by omega)
      have e2 := Hx.out i (by omega)
      have hcall := Hp.out i hin _ hbw
      generalize sumF ws x i = s at *
      generalize ws.getD i 0 = u at *
      generalize x i = v at *
      have m1 : u * v ≤ 1000 * 100000 := Int.le_trans (Int.mul_le_mul_of_nonneg_left e2.2 e1.1) (Int.mul_le_mul_of_nonneg_right e1.2 (by omega))
      have m2 : u * (-v) ≤ 1000 * 100000 := Int.le_trans (Int.mul_le_mul_of_nonneg_left (show -v ≤ 100000 by omega) e1.1) (Int.mul_le_mul_of_nonneg_right e1.2 (by omega))
      rw [Int.mul_neg] at m2
      have f1 : IntKind.i64.wrap (u * v) = u * v := IntWalk.i64_in _ (by omega)
      have f2 : IntKind.i64.wrap (s + u * v) = s + u * v := IntWalk.i64_in _ (by omega)
      clear l1 l2 l3 l4 hs m1 m2
      go_wp2_with (go_at_fn q; refine hcall.mono ?_; rintro e w' ⟨rfl, hb'⟩)
      go_roundw
      case rel => exact ⟨i + 1, by omega, by go_num, by rw [Hs.out], blA⟩
      case measure => simp [intOf]; omega
    · obtain rfl : i = n := by omega
      go_wp2_with fail
      go_ret
      exact ⟨rfl, blA⟩

set_option maxRecDepth 100000 in
set_option maxHeartbeats 4000000 in
theorem span_okT (g : Nat) (A1 : Option Addr) (n1 c1 : Nat) (A2 : Option Addr) (n2 c2 : Nat) (A3 : Option Addr) (n3 c3 : Nat) (A4 : Option Addr) (n4 c4 : Nat) (an : List Int) (ls : List (Int × Int)) (fs : List Bool) (ws : List Int) (B D : Nat → Int × Int) (w : World) (hT : Tz w g #[.slice A1 n1 c1, .slice A2 n2 c2, .slice A3 n3 c3, .slice A4 n4 c4] B D) (h : Lmp w A1 n1 c1 A2 n2 c2 A3 n3 c3 A4 n4 c4 an ls fs ws) (ho : LampOk an ls fs ws) (hD : ∀ k, k < n4 → 0 ≤ (D k).1 ∧ (D k).1 ≤ 200 ∧ 0 ≤ (D k).2 ∧ (D k).2 ≤ 200) :
    Calls Tryz.prog 35 #[.pointer (some ⟨g, 0, none⟩)] w fun e w' => e = .returned (.agg #[.int .i64 (sumF ws (fun k => (D k).1) n4), .int .i64 (sumF ws (fun k => (D k).2) n4)]) ∧ Below w.heap.size w w' := by
  have hl4 := h.h4.1
  have hw4 : n4 ≤ 91 := by have := ho.ws91; omega
  have k1 := fun (W : World) (hb : Below w.heap.size w W) => zsumM_any A4 n4 c4 96 g ws (fun k => (D k).1) W (enters_of Tryz.func96 (by kernel_rfl) rfl) (h.h4.below hb) (by omega) ho.wsb (fun k hk => by have := hD k (by omega); omega)
    (fun k hk V hV => (low_any g k _ B D V ((hT.below hb).below hV) (by omega)).mono fun e V' ⟨he, hb'⟩ => ⟨he, hV.trans (hb'.mono hV.size)⟩)
  have k2 := fun (W : World) (hb : Below w.heap.size w W) => zsumM_any A4 n4 c4 97 g ws (fun k => (D k).2) W (enters_of Tryz.func97 (by kernel_rfl) rfl) (h.h4.below hb) (by omega) ho.wsb (fun k hk => by have := hD k (by omega); omega)
    (fun k hk V hV => (high_any g k _ B D V ((hT.below hb).below hV) (by omega)).mono fun e V' ⟨he, hb'⟩ => ⟨he, hV.trans (hb'.mono hV.size)⟩)
  have HS : Hid (∀ U, Below w.heap.size w U → U.cell? ⟨g, 3, none⟩ = some (.slice A4 n4 c4)) := Lib.hid (fun U hU => (hT.below hU).hd 3 (by omega))
  generalize sumF ws (fun k => (D k).1) n4 = lo at *
  generalize sumF ws (fun k => (D k).2) n4 = hi at *
  clear hT h ho hD hl4
  go_enter Tryz.func35, Tryz.ntmps35
  go_wp2_with fail
  have HB2 : Hid (Cs (w.alloc (.cells #[.int .i64 0, .int .i64 0] 32)) w.heap.size #[.int .i64 0, .int .i64 0]) := Lib.hid csA
  have hwb : Below w.heap.size w (w.alloc (.cells #[.int .i64 0, .int .i64 0] 32)) := blA
  obtain ⟨W0, hW0⟩ : ∃ V, w.alloc (.cells #[.int .i64 0, .int .i64 0] 32) = V := ⟨_, rfl⟩
  rw [hW0] at HB2 hwb ⊢
  clear hW0
  have hS0 : (fun U : World => U.cell? ⟨g, 3, none⟩ = some (.slice A4 n4 c4) ∧ True) W0.drew := ⟨HS.out _ hwb.drew, trivial⟩
  refine wp_region_seq (S := fun U => U.cell? ⟨g, 3, none⟩ = some (.slice A4 n4 c4) ∧ True) [.t 0 1, .t 1 3, .t 2 7, .t 3 15, .t 4 31, .t 5 63, .t 6 127, .t 8 383, .t 9 895, .t 10 1919, .t 11 3967, .t 12 8063, .t 13 16255, .t 14 32639, .o 7 32767, .o 15 65535, .t 16 131071, .o 17 262143] (by kernel_rfl) (by kernel_rfl) (by as_aux_lemma => kernel_rfl) (by kernel_rfl) (fun c a d v w h => by cases d <;> exact h) hS0 (fun _ => ?_)
  clear hS0
  iterate 14 (refine seq_take (v := ?_) rfl (by rfl) ?_ ?_; rotate_left; focus (intro w9 hSw; obtain ⟨s1, _⟩ := hSw; (go_simp; (try simp only [and_self, if_true, if_false]) <;> with_reducible rfl)); try simp only [Act.put, List.setIfInBounds_toArray, List.set_cons_zero, List.set_cons_succ])
  refine seq_one rfl (fun K9 hS9 => ?_)
  go_simp
  refine (k1 _ hwb.drew).mono ?_
  rintro e w1 ⟨rfl, hb1⟩
  have hw1 : Below w.heap.size w w1 := hwb.drew.trans (hb1.mono hwb.size)
  have C1 := HB2.out.drew.keep hb1
  refine hS9.out _ _ ⟨HS.out _ hw1, trivial⟩ (fun _ => ?_)
  clear hS9 K9 hb1
  try simp only [Act.put, List.setIfInBounds_toArray, List.set_cons_zero, List.set_cons_succ]
  refine seq_one rfl (fun K9 hS9 => ?_)
  go_simp
  refine (k2 _ hw1).mono ?_
  rintro e w2 ⟨rfl, hb2⟩
  have hw2 : Below w.heap.size w w2 := hw1.trans (hb2.mono hw1.size)
  have C2 := C1.keep hb2
  refine hS9.out _ _ ⟨HS.out _ hw2, trivial⟩ (fun _ => ?_)
  clear hS9 K9 hb2 C1
  try simp only [Act.put, List.setIfInBounds_toArray, List.set_cons_zero, List.set_cons_succ]
  iterate 1 (refine seq_take (v := ?_) rfl (by rfl) ?_ ?_; rotate_left; focus (intro w9 hSw; obtain ⟨s1, _⟩ := hSw; (go_simp; (try simp only [and_self, if_true, if_false]) <;> with_reducible rfl)); try simp only [Act.put, List.setIfInBounds_toArray, List.set_cons_zero, List.set_cons_succ])
  have cC2 := C2.c
  have fC2 := C2.f
  have lC2 := C2.lt
  refine seq_one rfl (fun K9 hS9 => ?_)
  go_simp
  have hw3 : Below w.heap.size w ((w2.setCell ⟨w.heap.size, 0, none⟩ (.int .i64 lo)).setCell ⟨w.heap.size, 1, none⟩ (.int .i64 hi)) := bset2 hw2 (Nat.le_refl _) _ _
  have C3 := C2.set2 (.int .i64 lo) (.int .i64 hi)
  refine hS9.out _ _ ⟨HS.out _ hw3, trivial⟩ (fun _ => ?_)
  clear hS9 K9 cC2 fC2 lC2 C2
  try simp only [Act.put, List.setIfInBounds_toArray, List.set_cons_zero, List.set_cons_succ]
  refine seq_done ?_
  have cC3 := C3.c
  have lC3 := C3.lt
  go_wp2_with fail
  exact bodyPost_ret (v := .agg #[.int .i64 lo, .int .i64 hi]) (by simp [results, Tryz.results35, go_sem, cC3]) rfl ⟨rfl, hw3⟩

/-- a new table's cells -/
def tab0 (a b c d : Value) : Array Value := #[a, b, c, d] ++ Array.replicate 204 (.int .i64 0)
theorem zero148 : Tryz.zeroCells148 = tab0 (.slice none 0 0) (.slice none 0 0) (.slice none 0 0) (.slice none 0 0) := by kernel_rfl
theorem tab0_get (a b c d : Value) (i : Nat) : (tab0 a b c d)[i]? = if i < 4 then #[a, b, c, d][i]? else if i < 208 then some (.int .i64 0) else none := by
  unfold tab0
  by_cases h : i < 4
  · rw [if_pos h, Array.getElem?_append_left (by simpa using h)]
  · rw [if_neg h, Array.getElem?_append_right (by simp; omega), Array.getElem?_replicate]
    simp only [List.size_toArray, List.length_cons, List.length_nil]
    by_cases h2 : i < 208
    · rw [if_pos h2, if_pos (by omega)]
    · rw [if_neg h2, if_neg (by omega)]
theorem tab0_set (a b c d : Value) : ((((Tryz.zeroCells148.setIfInBounds 0 a).setIfInBounds 1 b).setIfInBounds 2 c).setIfInBounds 3 d) = tab0 a b c d := by
  rw [zero148]
  apply Array.ext_getElem?
  intro i
  have hs : ∀ a b c d : Value, (tab0 a b c d).size = 208 := fun a b c d => by unfold tab0; simp
  simp only [Array.getElem?_setIfInBounds, Array.size_setIfInBounds, hs, tab0_get]
  by_cases h : i < 4
  · rcases (show i = 0 ∨ i = 1 ∨ i = 2 ∨ i = 3 by omega) with rfl | rfl | rfl | rfl <;> simp
  · simp [h, show ¬ 0 = i by omega, show ¬ 1 = i by omega, show ¬ 2 = i by omega, show ¬ 3 = i by omega]
theorem Tz.new0 {W : World} {g : Nat} {a b c d : Value} (h : Cs W g (tab0 a b c d)) : Tz W g #[a, b, c, d] (fun _ => (0, 0)) (fun _ => (0, 0)) := by
  have hc : ∀ i, i < 204 → W.cell? ⟨g, 4 + i, none⟩ = some (.int .i64 0) := fun i hi => by
    rw [h.c]
    unfold tab0
    rw [Array.getElem?_append_right (by simp), Array.getElem?_replicate]
    simp; omega
  refine ⟨h.lt, fun i hi => ?_, fun i hi => hc _ (by omega), fun i hi => by rw [Nat.add_assoc]; exact hc _ (by omega), fun k hk => by rw [show 26 + k * 2 = 4 + (22 + k * 2) by omega]; exact hc _ (by omega), fun k hk => by rw [show 26 + k * 2 + 1 = 4 + (22 + k * 2 + 1) by omega]; exact hc _ (by omega), h.f⟩
  rw [h.c]
  unfold tab0
  rw [Array.getElem?_append_left (by simpa using hi)]

set_option maxRecDepth 100000 in
set_option maxHeartbeats 8000000 in
theorem newTable_ok (A1 : Option Addr) (n1 c1 : Nat) (A2 : Option Addr) (n2 c2 : Nat) (A3 : Option Addr) (n3 c3 : Nat) (A4 : Option Addr) (n4 c4 : Nat) (an : List Int) (ls : List (Int × Int)) (fs : List Bool) (ws : List Int) (x : Nat → Int) (w : World) (h : Lmp w A1 n1 c1 A2 n2 c2 A3 n3 c3 A4 n4 c4 an ls fs ws) (ho : LampOk an ls fs ws) (hx : TrueL an ls fs n4 x) :
    Calls Tryz.prog 95 #[.agg #[.slice A1 n1 c1, .slice A2 n2 c2, .slice A3 n3 c3, .slice A4 n4 c4]] w fun e w' => ∃ g B D, e = .returned (.pointer (some ⟨g, 0, none⟩)) ∧ Tz w' g #[.slice A1 n1 c1, .slice A2 n2 c2, .slice A3 n3 c3, .slice A4 n4 c4] B D ∧ (∀ k, k < n4 → In2 (x k) (D k)) ∧ Below w.heap.size w w' := by
  have hl2 := h.h2.1
  have hl4 := h.h4.1
  have hl1 := h.h1.1
  have hn2 : 1 ≤ n2 ∧ n2 ≤ 10 := by have := ho.lsl; have := ho.n2; have := ho.n10; omega
  have hAg : ∀ b off, 0 < n1 → A1 = some ⟨b, off, none⟩ → b < w.heap.size := fun b off hn e => by
    obtain ⟨b', off', e', hl, _⟩ := h.h1.2 hn
    rw [e] at e'; injection e' with e'; injection e' with e'; omega
  have hA3 : ∀ b off, 0 < n3 → A3 = some ⟨b, off, none⟩ → b < w.heap.size := fun b off hn e => by
    obtain ⟨b', off', e', hl, _⟩ := h.h3.2 hn
    rw [e] at e'; injection e' with e'; injection e' with e'; omega
  have H := Lib.hid h
  have HO := Lib.hid ho
  have HX := Lib.hid hx
  have HA := Lib.hid hAg
  have HA3 := Lib.hid hA3
  clear h ho hx hAg hA3
  go_enter Tryz.func95, Tryz.ntmps95
  go_wp2_with fail
  obtain ⟨W1, hW1⟩ : ∃ V, (w.alloc (.cells #[.slice A1 n1 c1, .slice A2 n2 c2, .slice A3 n3 c3, .slice A4 n4 c4] 26)).alloc (.cells ((((Tryz.zeroCells148.setIfInBounds 0 (.slice A1 n1 c1)).setIfInBounds 1 (.slice A2 n2 c2)).setIfInBounds 2 (.slice A3 n3 c3)).setIfInBounds 3 (.slice A4 n4 c4)) 148) = V := ⟨_, rfl⟩
  have hb1 : Below w.heap.size w W1 := by rw [← hW1]; exact blA
  have C1 : Cs W1 w.heap.size #[.slice A1 n1 c1, .slice A2 n2 c2, .slice A3 n3 c3, .slice A4 n4 c4] := by rw [← hW1]; exact csA
  have T1 : Tz W1 (w.heap.size + 1) #[.slice A1 n1 c1, .slice A2 n2 c2, .slice A3 n3 c3, .slice A4 n4 c4] (fun _ => (0, 0)) (fun _ => (0, 0)) := by
    rw [← hW1, tab0_set]
    refine Tz.new0 ?_
    exact Cs.new _ _ _ _ (by simp)
  rw [hW1]
  clear hW1
  obtain ⟨g, hg⟩ : ∃ g, w.heap.size + 1 = g := ⟨_, rfl⟩
  rw [hg] at T1 ⊢
  have hP := H.out.h2.below hb1
  obtain ⟨W2, hcp, T2, t2⟩ := run_copy_rng T1.drew A2 n2 c2 ls (Prs.below hP (Below.refl _ _).drew) hn2.1 hn2.2 3
  have hb2 : Below w.heap.size w W2 := Turns.below hb1.drew t2 (fun i hi => by omega) (by have := hb1.size; exact this)
  have hS0 : (fun U : World => U.cell? ⟨w.heap.size, 1, none⟩ = some (.slice A2 n2 c2) ∧ True) W1.drew := ⟨C1.c 1, trivial⟩
  have HS2 : Hid (W2.cell? ⟨w.heap.size, 1, none⟩ = some (.slice A2 n2 c2)) := Lib.hid ((C1.drew.turns t2 (by omega)).c 1)
  refine wp_region_seq (S := fun U => U.cell? ⟨w.heap.size, 1, none⟩ = some (.slice A2 n2 c2) ∧ True) [.t 0 1, .t 1 3, .t 2 7, .t 3 15, .t 4 31, .t 5 63, .o 6 127] (by kernel_rfl) (by kernel_rfl) (by as_aux_lemma => kernel_rfl) (by kernel_rfl) (fun c a d v w h => by cases d <;> exact h) hS0 (fun _ => ?_)
  clear hS0
  iterate 6 (refine seq_take (v := ?_) rfl (by rfl) ?_ ?_; rotate_left; focus (intro w9 hSw; obtain ⟨s1, _⟩ := hSw; (go_simp; (try simp only [and_self, if_true, if_false]) <;> with_reducible rfl)); try simp only [Act.put, List.setIfInBounds_toArray, List.set_cons_zero, List.set_cons_succ])
  refine seq_one rfl (fun K9 hS9 => ?_)
  go_simp
  refine hS9.out _ _ ⟨HS2.out, trivial⟩ (fun _ => ?_)
  clear hS9 K9
  try simp only [Act.put, List.setIfInBounds_toArray, List.set_cons_zero, List.set_cons_succ]
  refine seq_done ?_
  have hB : InvB n1 (fun i => x (aN an i)) (b0 ls) := by
    have := b0_inv HO.out (x := x) (by rw [hl4]; exact HX.out)
    rwa [hl1] at this
  have kd := draw_ok g _ _ _ _ _ _ _ _ _ _ _ _ _ _ _ _ W2 (b0 ls) (fun _ => (0, 0)) x T2 (H.out.below hb2) HO.out HX.out hB (fun b off hn e => by have := HA.out b off hn e; omega) (fun b off hn e => by have := HA3.out b off hn e; omega)
  clear hcp T1 C1 hP hB
  go_wp2_with fail
  refine kd.mono ?_
  rintro _ W3 ⟨⟨v, rfl⟩, ⟨B, D, T3, hD⟩, t3⟩
  have hb3 : Below w.heap.size w W3 := Turns.below hb2 t3 (fun i hi => by omega) hb2.size
  have HT3 := Lib.hid T3
  have HD3 := Lib.hid hD
  clear T2 T3 hD kd t3 hb2
  go_wp2_with fail
  go_ret
  exact ⟨g, B, D, rfl, HT3.out, HD3.out, hb3⟩

set_option maxRecDepth 100000 in
set_option maxHeartbeats 4000000 in
theorem open_ok (A1 : Option Addr) (n1 c1 : Nat) (A2 : Option Addr) (n2 c2 : Nat) (A3 : Option Addr) (n3 c3 : Nat) (A4 : Option Addr) (n4 c4 : Nat) (an : List Int) (ls : List (Int × Int)) (fs : List Bool) (ws : List Int) (x : Nat → Int) (w : World) (h : Lmp w A1 n1 c1 A2 n2 c2 A3 n3 c3 A4 n4 c4 an ls fs ws) (hc : chkZ an ls fs ws = 0) (hx : TrueL an ls fs n4 x) :
    Calls Tryz.prog 34 #[.agg #[.slice A1 n1 c1, .slice A2 n2 c2, .slice A3 n3 c3, .slice A4 n4 c4]] w fun e w' => ∃ g B D, e = .returned (.tuple #[.pointer (some ⟨g, 0, none⟩), .int .i64 0]) ∧ Tz w' g #[.slice A1 n1 c1, .slice A2 n2 c2, .slice A3 n3 c3, .slice A4 n4 c4] B D ∧ (∀ k, k < n4 → In2 (x k) (D k)) ∧ Below w.heap.size w w' := by
  have ho := chk_lamp hc
  have hl4 := h.h4.1
  have hl1 := h.h1.1
  have k0 := fun (W : World) (hb : Below w.heap.size w W) => zcheck_any _ _ _ _ _ _ _ _ _ _ _ _ _ _ _ _ W (h.below hb)
  rw [hc] at k0
  have k1 := fun (W : World) (hb : Below w.heap.size w W) => zclash_any _ _ _ _ _ _ _ _ _ _ _ _ _ _ _ _ W (h.below hb) ho
  have k2 := fun (W : World) (hb : Below w.heap.size w W) => newTable_ok _ _ _ _ _ _ _ _ _ _ _ _ _ _ _ _ x W (h.below hb) ho hx
  have Hno : Hid (∀ a b, ClsP ls fs n1 a b → a = 0 ∧ b = 0) := Lib.hid (fun a b hcl => by
    rcases hcl with ⟨e1, e2, _⟩ | ⟨q1, q2, q3⟩
    · exact ⟨e1, e2⟩
    · rw [TrueL.no ho (by rw [hl4]; exact hx) q1 (by omega)] at q3; cases q3)
  clear h hc hx ho hl4 hl1
  go_enter Tryz.func34, Tryz.ntmps34
  go_wp2_with fail
  refine (k0 _ blA).mono ?_
  rintro _ w1 ⟨rfl, hb1⟩
  replace B1 : Cs w1 (w.heap.size) #[.slice A1 n1 c1, .slice A2 n2 c2, .slice A3 n3 c3, .slice A4 n4 c4] := Cs.keep csA hb1
  replace hbw : Below w.heap.size w w1 := blA
  replace cB1 := B1.c
  replace fB1 := B1.f
  replace lB1 := B1.lt
  clear hb1
  clear k0
  go_wp2_with fail
  refine (k1 _ blA).mono ?_
  rintro _ w2 ⟨a, b, rfl, hcl, hb2⟩
  obtain ⟨rfl, rfl⟩ := Hno.out a b hcl
  clear hcl
  replace B1 : Cs w2 (w.heap.size) #[.slice A1 n1 c1, .slice A2 n2 c2, .slice A3 n3 c3, .slice A4 n4 c4] := Cs.keep csA hb2
  replace hbw : Below w.heap.size w w2 := blA
  replace cB1 := B1.c
  replace fB1 := B1.f
  replace lB1 := B1.lt
  clear hb2
  clear k1
  go_wp2_with fail
  refine (k2 _ blA).mono ?_
  rintro _ w3 ⟨g, B, D, rfl, T3, hD, hb3⟩
  have hw3 : Below w.heap.size w w3 := blA
  have HT3 := Lib.hid T3
  have HD3 := Lib.hid hD
  clear T3 hD k2 hb3
  go_wp2_with fail
  go_ret2
  exact ⟨g, B, D, rfl, HT3.out, HD3.out, hw3⟩

set_option maxRecDepth 100000 in
set_option maxHeartbeats 4000000 in
/-- the span of a lamp's flux holds the flux of a lantern that is true for it -/
theorem zspan_ok (A1 : Option Addr) (n1 c1 : Nat) (A2 : Option Addr) (n2 c2 : Nat) (A3 : Option Addr) (n3 c3 : Nat) (A4 : Option Addr) (n4 c4 : Nat) (an : List Int) (ls : List (Int × Int)) (fs : List Bool) (ws : List Int) (x : Nat → Int) (w : World) (h : Lmp w A1 n1 c1 A2 n2 c2 A3 n3 c3 A4 n4 c4 an ls fs ws) (hc : chkZ an ls fs ws = 0) (hx : TrueL an ls fs n4 x) :
    Calls Tryz.prog 8 #[.agg #[.slice A1 n1 c1, .slice A2 n2 c2, .slice A3 n3 c3, .slice A4 n4 c4]] w fun e w' => ∃ lo hi : Int, e = .returned (.tuple #[.agg #[.int .i64 lo, .int .i64 hi], .int .i64 0]) ∧ lo ≤ sumF ws x n4 ∧ sumF ws x n4 ≤ hi ∧ 0 ≤ lo ∧ hi ≤ 20000000 ∧ Below w.heap.size w w' := by
  have ho := chk_lamp hc
  have hl4 := h.h4.1
  have hw4 : n4 ≤ 91 := by have := ho.ws91; omega
  have k1 := fun (W : World) (hb : Below w.heap.size w W) => open_ok _ _ _ _ _ _ _ _ _ _ _ _ _ _ _ _ x W (h.below hb) hc hx
  have H := Lib.hid h
  have HO := Lib.hid ho
  clear h hc hx ho
  go_enter Tryz.func8, Tryz.ntmps8
  go_wp2_with fail
  refine (k1 _ blA).mono ?_
  rintro _ w1 ⟨g, B, D, rfl, T1, hD, hb1⟩
  try clear cB1 fB1 lB1
  try clear B1
  replace B2 : Cs w1 (w.heap.size + 1) #[.int .i64 0, .int .i64 0] := Cs.keep csA hb1
  replace hbw : Below w.heap.size w w1 := blA
  replace cB2 := B2.c
  replace fB2 := B2.f
  replace lB2 := B2.lt
  clear hb1
  have k2 := span_okT g _ _ _ _ _ _ _ _ _ _ _ _ _ _ _ _ B D w1 T1 (H.out.below hbw) HO.out (fun k hk => by have := hD k hk; unfold In2 at this; omega)
  have Hlo : Hid (sumF ws (fun k => (D k).1) n4 ≤ sumF ws x n4) := Lib.hid (sumF_le (fun k hk => (HO.out.wsb k hk).1) n4 (by omega) (fun k hk => (hD k hk).2.1))
  have Hhi : Hid (sumF ws x n4 ≤ sumF ws (fun k => (D k).2) n4) := Lib.hid (sumF_le (fun k hk => (HO.out.wsb k hk).1) n4 (by omega) (fun k hk => (hD k hk).2.2.1))
  have Hb : Hid (0 ≤ sumF ws (fun k => (D k).1) n4 ∧ sumF ws (fun k => (D k).2) n4 ≤ 20000000) := Lib.hid (by
    have z := sumF_le (ws := ws) (x := fun _ => 0) (y := fun k => (D k).1) (fun k hk => (HO.out.wsb k hk).1) n4 (by omega) (fun k hk => (hD k hk).1)
    have m := sumF_le (ws := ws) (x := fun k => (D k).2) (y := fun _ => 200) (fun k hk => (HO.out.wsb k hk).1) n4 (by omega) (fun k hk => (hD k hk).2.2.2)
    have e0 : ∀ n, sumF ws (fun _ => 0) n = 0 := fun n => by
      induction n with
      | zero => rfl
      | succ n ih => rw [sumF, ih]; omega
    have e2 : ∀ n, n ≤ ws.length → sumF ws (fun _ => 200) n ≤ 200000 * (n : Int) := fun n => by
      induction n with
      | zero => intro _; simp [sumF]
      | succ n ih =>
        intro hn
        have := ih (by omega)
        have := HO.out.wsb n (by omega)
        rw [sumF]
        omega
    have := e2 n4 (by omega)
    rw [e0] at z
    exact ⟨z, by omega⟩)
  generalize sumF ws (fun k => (D k).1) n4 = lo at *
  generalize sumF ws (fun k => (D k).2) n4 = hi at *
  clear T1 hD k1
  go_wp2_with fail
  refine k2.mono ?_
  rintro _ w2 ⟨rfl, hb2⟩
  try clear cB1 fB1 lB1
  try clear B1
  replace B2 : Cs w2 (w.heap.size + 1) #[.int .i64 0, .int .i64 0] := Cs.keep csA hb2
  replace hbw : Below w.heap.size w w2 := blA
  replace cB2 := B2.c
  replace fB2 := B2.f
  replace lB2 := B2.lt
  clear hb2
  have C3 := B2.set2 (.int .i64 lo) (.int .i64 hi)
  have hw3 : Below w.heap.size w ((w2.setCell ⟨w.heap.size + 1, 0, none⟩ (.int .i64 lo)).setCell ⟨w.heap.size + 1, 1, none⟩ (.int .i64 hi)) := bset2 hbw (by omega) _ _
  go_wp2_with fail
  have cC3 := C3.c
  exact bodyPost_ret (v := .tuple #[.agg #[.int .i64 lo, .int .i64 hi], .int .i64 0]) (by simp [results, Tryz.results8, go_sem, cC3]) rfl ⟨lo, hi, rfl, Hlo.out, Hhi.out, Hb.out.1, Hb.out.2, hw3⟩
end Go.Proofs.YtminplfgadhnnaaGreatDoor
end

/- Walks of lampblacktop: lamp03, same03. -/
section
namespace Go.Proofs.YtminplfgadhnnaaGreatDoor
open Go.RowKit Go.Shelf
set_option linter.unusedSimpArgs false
set_option linter.unusedVariables false
open Zm

set_option maxRecDepth 100000 in
set_option maxHeartbeats 4000000 in
theorem lamp03_any (A1 : Option Addr) (n1 c1 : Nat) (A2 : Option Addr) (n2 c2 : Nat) (A3 : Option Addr) (n3 c3 : Nat) (A4 : Option Addr) (n4 c4 : Nat) (an : List Int) (ls : List (Int × Int)) (fs : List Bool) (ws : List Int) (w : World) (h : Lmp w A1 n1 c1 A2 n2 c2 A3 n3 c3 A4 n4 c4 an ls fs ws) :
    Calls Tryz.prog 6 #[.agg #[.slice A1 n1 c1, .slice A2 n2 c2, .slice A3 n3 c3, .slice A4 n4 c4]] w fun e w' => e = .returned (.bool (decide (chkZ an ls fs ws = 0) && !dbtZ an ls fs n4)) ∧ Below w.heap.size w w' := by
  have hl1 := h.h1.1
  have hl2 := h.h2.1
  have hl3 := h.h3.1
  have hl4 := h.h4.1
  have k1 := fun (W : World) (hb : Below w.heap.size w W) => zrcheck_any _ _ _ _ _ _ _ _ _ _ _ _ _ _ _ _ W (h.below hb)
  by_cases hc : chkZ an ls fs ws = 0
  case neg =>
    have Hf : Hid (false = (decide (chkZ an ls fs ws = 0) && !dbtZ an ls fs n4)) := Lib.hid (by rw [decide_eq_false hc]; rfl)
    have g1 : (chkZ an ls fs ws == 0) = false := by simpa using hc
    generalize chkZ an ls fs ws = er at *
    clear hl1 hl2 hl3 hl4 h hc
    by_cases e1 : n1 ≤ 14
    · by_cases e2 : n2 ≤ 14
      · by_cases e3 : n3 ≤ 14
        · by_cases e4 : n4 ≤ 100
          · have d1 : (n1 : Int) ≤ 14 := by omega
            have d2 : (n2 : Int) ≤ 14 := by omega
            have d3 : (n3 : Int) ≤ 14 := by omega
            have d4 : (n4 : Int) ≤ 100 := by omega
            go_enter Tryz.func6, Tryz.ntmps6
            go_wp2_with fail
            refine (k1 _ blA).mono ?_
            rintro e w1 ⟨rfl, hb1⟩
            try clear cB1 fB1 lB1
            try clear B1
            replace hbw : Below w.heap.size w w1 := blA
            clear hb1
            go_wp2_with fail
            go_ret
            exact ⟨ret_bool Hf.out, blA⟩
          · have d1 : (n1 : Int) ≤ 14 := by omega
            have d2 : (n2 : Int) ≤ 14 := by omega
            have d3 : (n3 : Int) ≤ 14 := by omega
            have d4 : ¬ (n4 : Int) ≤ 100 := by omega
            go_enter Tryz.func6, Tryz.ntmps6
            go_wp2_with fail
            go_ret
            exact ⟨ret_bool Hf.out, blA⟩
        · have d1 : (n1 : Int) ≤ 14 := by omega
          have d2 : (n2 : Int) ≤ 14 := by omega
          have d3 : ¬ (n3 : Int) ≤ 14 := by omega
          go_enter Tryz.func6, Tryz.ntmps6
          go_wp2_with fail
          go_ret
          exact ⟨ret_bool Hf.out, blA⟩
      · have d1 : (n1 : Int) ≤ 14 := by omega
        have d2 : ¬ (n2 : Int) ≤ 14 := by omega
        go_enter Tryz.func6, Tryz.ntmps6
        go_wp2_with fail
        go_ret
        exact ⟨ret_bool Hf.out, blA⟩
    · have d1 : ¬ (n1 : Int) ≤ 14 := by omega
      go_enter Tryz.func6, Tryz.ntmps6
      go_wp2_with fail
      go_ret
      exact ⟨ret_bool Hf.out, blA⟩
  have ho := chk_lamp hc
  have hw := ho.ws91
  have d1 : (n1 : Int) ≤ 14 := by have := ho.n10; omega
  have d2 : (n2 : Int) ≤ 14 := by have := ho.n10; have := ho.lsl; omega
  have d3 : (n3 : Int) ≤ 14 := by have := ho.n10; have := ho.fsl; omega
  have d4 : (n4 : Int) ≤ 100 := by omega
  have k2 := fun (W : World) (hb : Below w.heap.size w W) => zdoubted_any _ _ _ _ _ _ _ _ _ _ _ _ _ _ _ _ W (h.below hb) ho
  rw [hc] at k1 ⊢
  have Hf : Hid ((!dbtZ an ls fs n4) = (decide ((0 : Int) = 0) && !dbtZ an ls fs n4)) := Lib.hid (by simp)
  generalize dbtZ an ls fs n4 = db at *
  clear hl1 hl2 hl3 hl4 h hc hw ho
  go_enter Tryz.func6, Tryz.ntmps6
  go_wp2_with fail
  refine (k1 _ blA).mono ?_
  rintro e w1 ⟨rfl, hb1⟩
  replace B1 : Cs w1 (w.heap.size) #[.slice A1 n1 c1, .slice A2 n2 c2, .slice A3 n3 c3, .slice A4 n4 c4] := Cs.keep csA hb1
  replace hbw : Below w.heap.size w w1 := blA
  replace cB1 := B1.c
  replace fB1 := B1.f
  replace lB1 := B1.lt
  clear hb1
  go_wp2_with fail
  refine (k2 _ blA).mono ?_
  rintro e w2 ⟨rfl, hb2⟩
  try clear cB1 fB1 lB1
  try clear B1
  replace hbw : Below w.heap.size w w2 := blA
  clear hb2
  go_wp2_with fail
  go_ret
  exact ⟨ret_bool Hf.out, blA⟩

end Go.Proofs.YtminplfgadhnnaaGreatDoor
end

/- The walk of TopCarriedFlux, its plain part: what is carried over, by letters. -/
section
namespace Go.Proofs.YtminplfgadhnnaaGreatDoor
open Go.RowKit Go.Shelf
set_option linter.unusedSimpArgs false
set_option linter.unusedVariables false
open Zm
open Um (frac spanB spanE pt inS)

theorem frac_one {n : Int} (h1 : 1 ≤ n) (h2 : n ≤ 1000000000) : frac n 1 = true := by
  simp [frac]; omega
theorem whole_span {lo hi : Int} (h1 : 1 ≤ lo) (h2 : lo ≤ hi) (h3 : hi ≤ 1000000000) : spanB (lo, 1, hi, 1) = true :=
  (Um.spanB_iff _).2 ⟨frac_one h1 (by omega), frac_one (n := hi) (by omega) h3, by show lo * 1 ≤ hi * 1; omega⟩
theorem whole_in {f lo hi : Int} (h1 : lo ≤ f) (h2 : f ≤ hi) : inS (f, 1) (lo, 1, hi, 1) := ⟨by show lo * 1 ≤ f * 1; omega, by show f * 1 ≤ hi * 1; omega⟩

/-- the flux in the old unit and in the new one, the decrees' true numbers, and the simplest number that is printed -/
structure CF (lo hi f : Int) (zs ts : List Um.S4) (t v : Um.S4) (e g : Int) : Prop where
  kt : ∀ A n cap w, Spans w A n zs → n ≤ 9223372036854775807 → Calls Tryz.prog 13 #[.agg #[.int .i64 lo, .int .i64 1, .int .i64 hi, .int .i64 1], .slice A n cap] w fun x w' => x = .returned (.tuple #[.agg #[.int .i64 t.1, .int .i64 t.2.1, .int .i64 t.2.2.1, .int .i64 t.2.2.2], .int .i64 e]) ∧ Below w.heap.size w w'
  kv : ∀ A n cap w, Spans w A n ts → n ≤ 9223372036854775807 → Calls Tryz.prog 13 #[.agg #[.int .i64 f, .int .i64 1, .int .i64 f, .int .i64 1], .slice A n cap] w fun x w' => x = .returned (.tuple #[.agg #[.int .i64 v.1, .int .i64 v.2.1, .int .i64 v.2.2.1, .int .i64 v.2.2.2], .int .i64 g]) ∧ Below w.heap.size w w'
  e04 : e = 0 ∨ e = 4
  g04 : g = 0 ∨ g = 4
  ok : e = 0 → g = 0 → spanB t = true ∧ spanB v = true ∧ v.1 = v.2.2.1 ∧ v.2.1 = v.2.2.2 ∧ frac v.1 v.2.1 = true ∧ inB v.1 v.2.1 t = true

theorem cf_of {lo hi f : Int} {zs : List Um.S4} {bs : List Int} (h1 : 1 ≤ lo) (h2 : lo ≤ f) (h3 : f ≤ hi) (h4 : hi ≤ 1000000000) (hlen : zs.length ≤ 8) (hzs : ∀ z ∈ zs, spanB z = true) :
    ∃ t v e g, CF lo hi f zs (trues zs bs zs.length) t v e g := by
  obtain ⟨t, v, u, e, g, q, C⟩ := cl_of (s := (lo, 1, hi, 1)) (zs := zs) (x := (f, 1)) (bs := bs) (whole_span h1 (by omega) h4) hlen hzs (frac_one (by omega) (by omega)) (whole_in h2 h3)
  exact ⟨t, v, e, g, ⟨C.kt, C.kv, C.e04, C.f04, fun he hg => ⟨C.st he, (C.sv hg).1, (C.sv hg).2.1, (C.sv hg).2.2, ((Um.spanB_iff _).1 (C.sv hg).1).1, C.vt he hg⟩⟩⟩
set_option maxRecDepth 100000 in
set_option maxHeartbeats 4000000 in
theorem zflux_ok0 (A1 : Option Addr) (n1 c1 : Nat) (A2 : Option Addr) (n2 c2 : Nat) (A3 : Option Addr) (n3 c3 : Nat) (A4 : Option Addr) (n4 c4 : Nat) (an : List Int) (ls : List (Int × Int)) (fs : List Bool) (ws : List Int) (A : Option Addr) (m D : Nat) (zs : List Int) (w : World) (h : Lmp w A1 n1 c1 A2 n2 c2 A3 n3 c3 A4 n4 c4 an ls fs ws) (hc : chkZ an ls fs ws = 0) (hz : Ints w A m zs) (hm : m = n4) (hD : m ≤ D) (ht : TrueL an ls fs n4 (fun k => zs.getD k 0))
    (hx : ∀ k, k < ws.length → -100000 ≤ zs.getD k 0 ∧ zs.getD k 0 ≤ 100000) :
    Calls Tryz.prog 9 #[.agg #[.slice A1 n1 c1, .slice A2 n2 c2, .slice A3 n3 c3, .slice A4 n4 c4], .slice A m D] w fun e w' => e = .returned (.tuple #[.int .i64 (sumZ ws zs n4), .int .i64 0]) ∧ Below w.heap.size w w' := by
  subst hm
  have ho := chk_lamp hc
  have hl4 := h.h4.1
  have hws := ho.ws91
  rw [hl4] at hws
  have k0 := fun (W : World) (hb : Below w.heap.size w W) => zchecktrue_ok0 _ _ _ _ _ _ _ _ _ _ _ _ _ _ _ _ A m D zs W (h.below hb) hc (hz.below hb) rfl hD ht
  have k1 := fun (W : World) (b : Nat) (hb : Below w.heap.size w W) (hB : W.cell? ⟨b, 0, none⟩ = some (.slice A m D)) (hlt : b < W.heap.size) => zsum_any A4 m c4 37 ws (fun k => zs.getD k 0) #[.pointer (some ⟨b, 0, none⟩)] W
    (enters_of Tryz.func37 (by kernel_rfl) rfl) (h.h4.below hb) (by omega) ho.wsb hx
    (fun k hk V hV => (zfluxC_any b k m A D zs V (hz.below (hb.trans (hV.mono hb.size))) ((hV.cell (p := ⟨b, 0, none⟩) hlt).trans hB) (by omega)).mono fun e V' ⟨he, hb'⟩ => ⟨he, hV.trans (hb'.mono hV.size)⟩)
  rw [sumF_Z] at k1
  generalize sumZ ws zs m = r at *
  clear h hc hz ht hx ho
  go_enter Tryz.func9, Tryz.ntmps9
  go_wp2_with fail
  refine (k0 _ blA).mono ?_
  rintro _ w1 ⟨rfl, hb1⟩
  replace B1 : Cs w1 (w.heap.size) #[.slice A1 n1 c1, .slice A2 n2 c2, .slice A3 n3 c3, .slice A4 m c4] := Cs.keep csA hb1
  replace B2 : Cs w1 (w.heap.size + 1) #[.slice A m D] := Cs.keep csA hb1
  replace hbw : Below w.heap.size w w1 := blA
  replace cB1 := B1.c
  replace fB1 := B1.f
  replace lB1 := B1.lt
  replace cB2 := B2.c
  replace fB2 := B2.f
  replace lB2 := B2.lt
  clear hb1
  clear k0
  go_wp2_with fail
  refine (k1 _ _ blA (cB2 0) lB2).mono ?_
  rintro _ w2 ⟨rfl, hb2⟩
  try clear cB1 fB1 lB1
  try clear B1
  try clear cB2 fB2 lB2
  try clear B2
  replace hbw : Below w.heap.size w w2 := blA
  clear hb2
  go_wp2_with fail
  go_ret2
  exact ⟨rfl, blA⟩

end Go.Proofs.YtminplfgadhnnaaGreatDoor
end

/- XEN1's law for a region whose order branches: where two operations may come up, either may, and the row goes on its own way behind each. -/
section
namespace Go.Proofs.YtminplfgadhnnaaGreatDoor
open Go
set_option linter.unusedSimpArgs false
set_option linter.unusedVariables false

/-- A plan: an operation is taken first; is the only one; one of two comes up, and each has a plan of its own. -/
inductive PlT
  | nil
  | t (i m : Nat) (r : PlT)
  | o (i m : Nat) (r : PlT)
  | c (i j mi mj : Nat) (p q : PlT)
/-- The check of the whole plan. -/
def planTr (md : Region.Mode) (ops : Array Oper) : PlT → Nat → Bool
  | .nil, m => emp (rdy md ops.toList 0 m)
  | .t i m' r, m => hasN (rdy md ops.toList 0 m) i && freAt md ops i m && Nat.beq m' (m ||| 1 <<< i) && planTr md ops r m'
  | .o i m' r, m => one1 (rdy md ops.toList 0 m) i && Nat.beq m' (m ||| 1 <<< i) && planTr md ops r m'
  | .c i j mi mj p q, m => two2 (rdy md ops.toList 0 m) i j && Nat.beq mi (m ||| 1 <<< i) && Nat.beq mj (m ||| 1 <<< j) && planTr md ops p mi && planTr md ops q mj
def lngTr : PlT → Nat
  | .nil => 0
  | .t _ _ r => lngTr r + 1
  | .o _ _ r => lngTr r + 1
  | .c _ _ _ _ p q => max (lngTr p) (lngTr q) + 1
section
variable {P : Program} {ops : Array Oper} {Q : Exit → Act → World → Prop} {md : Region.Mode} {S : World → Prop}
/-- The operations by a plan. -/
def wpTr (P : Program) (ops : Array Oper) (Q : Exit → Act → World → Prop) (S : World → Prop) : PlT → Act → World → Prop
  | .nil, a, w => Q .normal a w
  | .t i _ r, a, w => ∃ o v, nth ops.toList i = some o ∧ YieldsIf P ops S o v a ∧ wpTr P ops Q S r (a.put o.dst v) w
  | .o i _ r, a, w => wpOp P ops Q i (fun a' w' => S w' ∧ wpTr P ops Q S r a' w') a w
  | .c i j _ _ p q, a, w => wpOp P ops Q i (fun a' w' => S w' ∧ wpTr P ops Q S p a' w') a w ∧ wpOp P ops Q j (fun a' w' => S w' ∧ wpTr P ops Q S q a' w') a w

theorem wpAnyH_tree (hns : Region.noSelect ops = true) (hQ : ∀ c a d v w, Q (.panic c) (a.put d v) w → Q (.panic c) a w) :
    ∀ (pl : PlT) (m : Nat) (l : Array Bool) (fuel : Nat) (a : Act) (w : World), Msk ops.size l m → planTr md ops pl m = true → lngTr pl ≤ fuel → S w →
      wpTr P ops Q S pl a w → wpAnyH P md ops Q S fuel l a w
  | .nil, m, l, fuel, a, w, hm, hp, _, _, h => by
    have := emp_eq (show emp (rdy md ops.toList 0 m) = true from hp)
    exact wpAnyH_done (by rw [rdy_eq hm, this]) h fuel
  | .t i m' r, m, l, fuel, a, w, hm, hp, hl, hS, h => by
    simp only [planTr, Bool.and_eq_true] at hp
    obtain ⟨⟨⟨h1, h2⟩, h3⟩, h4⟩ := hp
    obtain ⟨o, v, ho, hy, h⟩ := h
    have hmem := hasN_mem _ _ h1
    have hlt := lt_of_rdy hm hmem
    obtain ⟨f, rfl⟩ : ∃ f, fuel = f + 1 := ⟨fuel - 1, by simp only [lngTr] at hl; omega⟩
    simp only [lngTr] at hl
    have h2' : fre md ops o i ops.toList 0 m = true := by unfold freAt at h2; rw [ho] at h2; exact h2
    have hms := hm.set i hlt
    rw [← Nat.eq_of_beq_eq_true h3] at hms
    refine wpAnyH_first (nth_ops ho) (Region.noSelect_spec hns) (fun c a w => hQ c a o.dst v w) f l a w (fun j oj hj hne hun hno => ?_) (by rw [rdy_eq hm]; exact hmem) hy hS
      (wpAnyH_tree hns hQ r m' _ f _ w hms h4 (by omega) hS h)
    have hjl := (Array.getElem?_eq_some_iff.1 hj).1
    have hs := fre_spec ops.toList 0 h2' j oj (by simpa using hj)
    rw [Nat.zero_add] at hs
    rw [hm.getD j true hjl] at hun
    simp only [Bool.or_eq_true] at hs
    rcases hs with ((hs | hs) | hs) | hs
    · exact absurd (Nat.eq_of_beq_eq_true hs) hne
    · rw [hun] at hs; cases hs
    · obtain ⟨e, he, hb⟩ := Array.any_eq_true'.1 hs
      simp only [Bool.and_eq_true] at hb
      exact absurd (Nat.eq_of_beq_eq_true hb.2) (hno e he hb.1)
    · exact hs
  | .o i m' r, m, l, fuel, a, w, hm, hp, hl, hS, h => by
    simp only [planTr, Bool.and_eq_true] at hp
    obtain ⟨⟨h1, h3⟩, h4⟩ := hp
    have h1 := one1_eq h1
    have hlt := lt_of_rdy (md := md) hm (i := i) (by rw [h1]; simp)
    obtain ⟨f, rfl⟩ : ∃ f, fuel = f + 1 := ⟨fuel - 1, by simp only [lngTr] at hl; omega⟩
    simp only [lngTr] at hl
    have hms := hm.set i hlt
    rw [← Nat.eq_of_beq_eq_true h3] at hms
    refine wpAnyH_all (rs := [i]) (by rw [rdy_eq hm, h1]) (by simp) (fun k hk => ?_)
    obtain rfl : k = i := by simpa using hk
    exact wpOp_mono (fun a' w' h' => ⟨h'.1, wpAnyH_tree hns hQ r m' _ f a' w' hms h4 (by omega) h'.1 h'.2⟩) h
  | .c i j mi mj p q, m, l, fuel, a, w, hm, hp, hl, hS, h => by
    simp only [planTr, Bool.and_eq_true] at hp
    obtain ⟨⟨⟨⟨h1, h2⟩, h3⟩, h4⟩, h5⟩ := hp
    have h1 := two2_eq h1
    have hlti := lt_of_rdy (md := md) hm (i := i) (by rw [h1]; simp)
    have hltj := lt_of_rdy (md := md) hm (i := j) (by rw [h1]; simp)
    obtain ⟨f, rfl⟩ : ∃ f, fuel = f + 1 := ⟨fuel - 1, by simp only [lngTr] at hl; omega⟩
    simp only [lngTr] at hl
    have hmi := hm.set i hlti
    have hmj := hm.set j hltj
    rw [← Nat.eq_of_beq_eq_true h2] at hmi
    rw [← Nat.eq_of_beq_eq_true h3] at hmj
    refine wpAnyH_all (rs := [i, j]) (by rw [rdy_eq hm, h1]) (by simp) (fun k hk => ?_)
    rcases (show k = i ∨ k = j by simpa using hk) with rfl | rfl
    · exact wpOp_mono (fun a' w' h' => ⟨h'.1, wpAnyH_tree hns hQ p mi _ f a' w' hmi h4 (by omega) h'.1 h'.2⟩) h.1
    · exact wpOp_mono (fun a' w' h' => ⟨h'.1, wpAnyH_tree hns hQ q mj _ f a' w' hmj h5 (by omega) h'.1 h'.2⟩) h.2

/-- The beginning. -/
theorem wp_region_tree {id : Nat} {a : Act} {w : World} (pl : PlT) (hm : P.follows .mixedOrders = true) (hns : Region.noSelect ops = true) (hp : planTr .any ops pl 0 = true)
    (hl : Nat.ble (lngTr pl) ops.size = true) (hQ : ∀ c a d v w, Q (.panic c) (a.put d v) w → Q (.panic c) a w) (hS : S w.drew) (h : S w.drew → wpTr P ops Q S pl a w.drew) :
    (Code.region id ops true).wp P Q a w :=
  wp_region_held_drew hm hS fun h' => wpAnyH_tree hns hQ pl 0 _ _ _ _ (Msk.zero _) hp (Nat.le_of_ble_eq_true hl) h' (h h')
theorem tree_take {i m' : Nat} {r : PlT} {o : Oper} {v : Value} {a : Act} {w : World} (ho : nth ops.toList i = some o) (hw : Region.wanted o (yielded ops a.tmps) = true)
    (hv : ∀ w, S w → (execOp a.eval o).run P w = .ok (.value v) w) (h : wpTr P ops Q S r (a.put o.dst v) w) : wpTr P ops Q S (.t i m' r) a w :=
  ⟨o, v, ho, .inl ⟨hw, hv⟩, h⟩
theorem tree_one {i m' : Nat} {r : PlT} {o : Oper} {a : Act} {w : World} (ho : nth ops.toList i = some o)
    (h : ∀ K' : Act → World → Prop, Shut (∀ a w, S w → (S w → wpTr P ops Q S r a w) → K' a w) → if Region.wanted o (yielded ops a.tmps) = true then Oper.wp P o a w K' Q else K' (a.put o.dst undef) w) :
    wpTr P ops Q S (.o i m' r) a w :=
  wpOp_step (nth_ops ho) (fun K' hK => h K' (fun a w hS hW => hK a w ⟨hS, hW hS⟩))
theorem tree_two {i j mi mj : Nat} {p q : PlT} {a : Act} {w : World} (h1 : wpTr P ops Q S (.o i mi p) a w) (h2 : wpTr P ops Q S (.o j mj q) a w) : wpTr P ops Q S (.c i j mi mj p q) a w := ⟨h1, h2⟩
theorem tree_done {a : Act} {w : World} (K : World → Prop) (hk : K w) (h : ∀ U, K U → Q .normal a U) : wpTr P ops Q S .nil a w := h w hk
end
end Go.Proofs.YtminplfgadhnnaaGreatDoor
end

/- Lists of small numbers in memory. -/
section
namespace Go.Proofs.YtminplfgadhnnaaGreatDoor
open Go.RowKit Go.Shelf
set_option linter.unusedSimpArgs false
set_option linter.unusedVariables false

/-- a list of small numbers -/
def U32s (w : World) (A : Option Addr) (n : Nat) (zs : List Int) : Prop :=
  zs.length = n ∧ (0 < n → ∃ b off, A = some ⟨b, off, none⟩ ∧ b < w.heap.size ∧ ∀ i, i < n → w.cell? ⟨b, off + i, none⟩ = some (.int .u32 (zs.getD i 0)) ∧ 0 ≤ zs.getD i 0 ∧ zs.getD i 0 ≤ 4294967295)
theorem U32s.below {w w' : World} {A : Option Addr} {n : Nat} {zs : List Int} (h : U32s w A n zs) (hb : Below w.heap.size w w') : U32s w' A n zs := by
  refine ⟨h.1, fun hn => ?_⟩
  obtain ⟨b, off, rfl, hlt, hc⟩ := h.2 hn
  exact ⟨b, off, rfl, Nat.lt_of_lt_of_le hlt hb.size, fun i hi => ⟨(hb.cell (p := ⟨b, off + i, none⟩) hlt).trans (hc i hi).1, (hc i hi).2⟩⟩
theorem U32s.at_ {w wr : World} {A : Option Addr} {n k : Nat} {zs : List Int} (h : U32s w A n zs) (hb : Below w.heap.size w wr) (hk : k < n) :
    ∃ b off, A = some ⟨b, off, none⟩ ∧ wr.cell? ⟨b, off + k, none⟩ = some (.int .u32 (zs.getD k 0)) ∧ 0 ≤ zs.getD k 0 ∧ zs.getD k 0 ≤ 4294967295 := by
  obtain ⟨b, off, rfl, hlt, hc⟩ := h.2 (by omega)
  exact ⟨b, off, rfl, (hb.cell (p := ⟨b, off + k, none⟩) hlt).trans (hc k hk).1, (hc k hk).2⟩

end Go.Proofs.YtminplfgadhnnaaGreatDoor
end

/- Walks of the law package of layer 2: Powers, reached, number, pick, True, before. -/
section
namespace Go.Proofs.YtminplfgadhnnaaGreatDoor
open Go.RowKit Go.Shelf
set_option linter.unusedSimpArgs false
set_option linter.unusedVariables false

end Go.Proofs.YtminplfgadhnnaaGreatDoor
end

/- Walks of the law package of layer 2: reached, before, number, pick. -/
section
namespace Go.Proofs.YtminplfgadhnnaaGreatDoor
open Go.RowKit Go.Shelf
set_option linter.unusedSimpArgs false
set_option linter.unusedVariables false

end Go.Proofs.YtminplfgadhnnaaGreatDoor
end

/- Plain laws: what a programme that goes wrong on no row of dark and bright lamps does to any row; which row comes before which. -/
section
namespace Go.Proofs.YtminplfgadhnnaaGreatDoor
set_option linter.unusedSimpArgs false
set_option linter.unusedVariables false
open Bm (Pr OkP runL runB runF tab rowL ordB pickB unord bfP UnF b2i fstBad num thr b2i)

end Go.Proofs.YtminplfgadhnnaaGreatDoor
end

/- Plain laws: the programme that is built, and pairs after it; a trimmed programme. -/
section
namespace Go.Proofs.YtminplfgadhnnaaGreatDoor
set_option linter.unusedSimpArgs false
set_option linter.unusedVariables false
open Bm (Pr OkP runL runB runF tab rowL ordB unord fstBad srtL srtL_eq usd uslL trmL exch cex buildL depL)

end Go.Proofs.YtminplfgadhnnaaGreatDoor
end

/- Plain laws of TopSortedLamp: the lantern of a lamp that only falls is a row in order; turned round it is put in order again. -/
section
namespace Go.Proofs.YtminplfgadhnnaaGreatDoor
set_option linter.unusedSimpArgs false
set_option linter.unusedVariables false
open Zm
open Bm (srtL_eq ordB ordB_iff ordB_dec runL buildL)
section
variable {an : List Int} {ls : List (Int × Int)} {fs : List Bool} {ws : List Int}
end
end Go.Proofs.YtminplfgadhnnaaGreatDoor
end

/- The examples of three stages, called one after the other. -/
section
namespace Go.Proofs.YtminplfgadhnnaaGreatDoor
open Go.RowKit Go.Shelf
set_option linter.unusedSimpArgs false
set_option linter.unusedVariables false
theorem GlobW.below {w w' : World} (h : GlobW w) (hb : Below w.heap.size w w') : GlobW w' := by
  intro k g p hg hp j hj
  have e := h k g p hg hp j hj
  rw [← e]
  have hlt : g < w.heap.size := by
    rw [List.getElem?_eq_getElem (by simpa using hj)] at e
    by_cases c : g < w.heap.size
    · exact c
    · simp [World.cell?, Array.getElem?_eq_none (Nat.le_of_not_lt c)] at e
  exact hb.cell (p := ⟨g, j, none⟩) hlt

set_option maxRecDepth 100000 in
set_option maxHeartbeats 4000000 in
theorem top_works03_any (w : World) (hW : GlobW w) :
    Calls Tryz.prog 7 #[] w fun e w' => e = .returned (.bool true) ∧ Below w.heap.size w w' := by
  have k1 := fun W h => works01_any W h
  have k2 := fun W h => works02_any W h
  have k3 := fun W h => works03_any W h
  have HW := Lib.hid hW
  clear hW
  go_enter Tryz.func7, Tryz.ntmps7
  go_wp2_with fail
  refine (k1 _ (HW.out.below blA)).mono ?_
  rintro e w1 ⟨rfl, hb1⟩
  go_wp2_with fail
  refine (k2 _ (HW.out.below blA)).mono ?_
  rintro e w2 ⟨rfl, hb2⟩
  go_wp2_with fail
  refine (k3 _ (HW.out.below blA)).mono ?_
  rintro e w3 ⟨rfl, hb3⟩
  go_wp2_with fail
  go_ret
  exact ⟨rfl, blA⟩
end Go.Proofs.YtminplfgadhnnaaGreatDoor
end

/- The walk of TopSortedLamp: it answers true. -/
section
namespace Go.Proofs.YtminplfgadhnnaaGreatDoor
open Go.RowKit Go.Shelf
set_option linter.unusedSimpArgs false
set_option linter.unusedVariables false
open Zm
open Bm (ordB ordB_iff ordB_dec runL buildL)

theorem trueL_row {an : List Int} {ls : List (Int × Int)} {fs : List Bool} {ws : List Int} (h : LampOk an ls fs ws) (hd : dbtZ an ls fs ws.length = false) (us : List Int) : TrueL an ls fs ws.length (fun k => (rowF ws.length (lntZ an ls fs us ws.length)).getD k 0) := by
  have t := lnt_true (us := us) h hd
  refine ⟨fun i hi => ?_, fun k h1 hk => ?_⟩
  · have := t.1 i hi
    simp only [rowF_get _ (h.aN_ws hi)]
    exact this
  · have := t.2 k h1 hk
    simp only [rowF_get _ hk, rowF_get _ (show k - 1 < ws.length by omega)]
    exact this

end Go.Proofs.YtminplfgadhnnaaGreatDoor
end

/- Walks of the law package of layer 2: True, Less, proper. (Printed by gen/gen_bk12a.py.) -/
section
namespace Go.Proofs.YtminplfgadhnnaaGreatDoor
open Go.RowKit Go.Shelf
set_option linter.unusedSimpArgs false
set_option linter.unusedVariables false
open Bm (red red_self leR)

theorem rat_eq (a b a' b' : Int) (w : World) : (Op.equalIn 10000 41 (.agg #[.int .i64 a, .int .i64 b]) (.agg #[.int .i64 a', .int .i64 b'])).run Tryz.prog w = .ok (a == a' && b == b') w := by
  simp [go_sem]
  by_cases h1 : a = a' <;> by_cases h2 : b = b' <;> simp [h1, h2]
section
attribute [local go_sem high] rat_eq
end

end Go.Proofs.YtminplfgadhnnaaGreatDoor
end
