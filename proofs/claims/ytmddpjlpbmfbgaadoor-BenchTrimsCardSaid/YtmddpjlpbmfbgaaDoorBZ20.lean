/- BK03 BT03 -/
import Derived.Test.YtmddpjlpbmfbgaaDoorBZ16
import Derived.Test.YtmddpjlpbmfbgaaDoorBZ17
/- The walk of BenchTrims: it answers true. -/
section
namespace Go.Proofs.YtmddpjlpbmfbgaaDoor
open Go.RowKit Go.Shelf
set_option linter.unusedSimpArgs false
set_option linter.unusedVariables false

set_option maxHeartbeats 2000000 in
theorem benchTrims_any (l : Int) (A : Option Addr) (m C : Nat) (zs : List (Int × Int)) (w : World) (hz : Prs w A m zs) (hm : m ≤ 9223372036854775807) (hC : m ≤ C) (hT : TabW w) :
    Calls Tryd.prog 13 #[.int .i64 l, .slice A m C] w fun e w' => e = .returned (.bool true) ∧ Below w.heap.size w w' := by
  have kw := fun W hT => works_any W hT
  have HT := Lib.hid hT
  have kg := fun W => large_any l A m C W hm
  cases hg : largeP l m with
  | true =>
    rw [hg] at kg
    clear hz hT
    go_enter Tryd.func13, Tryd.ntmps13
    go_wp2_with fail
    refine (kg _).mono ?_
    rintro e w1 ⟨rfl, hb1⟩
    replace hbw : Below w.heap.size w w1 := blA
    clear hb1
    go_wp2_with fail
    refine (kw _ (HT.out.below blA HT.out.1)).mono ?_
    rintro e w2 ⟨rfl, hb2⟩
    replace hbw : Below w.heap.size w w2 := blA
    clear hb2
    go_wp2_with fail
    go_ret
    exact ⟨rfl, blA⟩
  | false =>
    rw [hg] at kg
    have k1 := fun (W : World) (hb : Below w.heap.size w W) => useless_any l A m C zs W (hz.below hb) hm hC
    have k2 := fun (W : World) (hb : Below w.heap.size w W) => ruseless_any l A m C zs W (hz.below hb) hm hC
    have k3 := fun (W : World) (hb : Below w.heap.size w W) => trim_any l A m C zs W (hz.below hb) hm hC
    have k4 := fun (W : World) (hb : Below w.heap.size w W) => rtrim_any l A m C zs W (hz.below hb) hm hC
    have kl := fun A B n m c c' xs W hx hy hn hm => ints_any A B n m c c' xs xs W hx hy hn hm true (by simp)
    have kp := fun A B n m c c' xs W hx hy hn hm => pairs_any A B n m c c' xs xs W hx hy hn hm true (by simp)
    clear hz hT hg
    unfold RetLE at k1 k2
    unfold RetPE at k3 k4
    generalize useE l zs = r at *
    generalize r.1 = R at *
    generalize r.2 = e1 at *
    generalize trimE l zs = d at *
    generalize d.1 = D1 at *
    generalize d.2 = e2 at *
    go_enter Tryd.func13, Tryd.ntmps13
    go_wp2_with fail
    refine (kg _).mono ?_
    rintro e w9 ⟨rfl, hb9⟩
    replace hbw : Below w.heap.size w w9 := blA
    clear hb9
    go_wp2_with fail
    refine (k1 _ blA).mono ?_
    rintro _ w1 ⟨A1, n1, c1, rfl, i1, ⟨l1, _⟩, hb1⟩
    replace hbw : Below w.heap.size w w1 := blA
    clear hb1
    go_wp2_with fail
    refine (k2 _ blA).mono ?_
    rintro _ w2 ⟨A2, n2, c2, rfl, i2, ⟨l2, _⟩, hb2⟩
    replace i1 : Ints w2 A1 n1 R := Ints.below intsA hb2
    replace hbw : Below w.heap.size w w2 := blA
    clear hb2
    go_wp2_with fail
    refine (k3 _ blA).mono ?_
    rintro _ w3 ⟨A3, n3, c3, rfl, i3, ⟨l3, _⟩, hb3⟩
    replace i1 : Ints w3 A1 n1 R := Ints.below intsA hb3
    replace i2 : Ints w3 A2 n2 R := Ints.below intsA hb3
    replace hbw : Below w.heap.size w w3 := blA
    clear hb3
    go_wp2_with fail
    refine (k4 _ blA).mono ?_
    rintro _ w4 ⟨A4, n4, c4, rfl, i4, ⟨l4, _⟩, hb4⟩
    replace i1 : Ints w4 A1 n1 R := Ints.below intsA hb4
    replace i2 : Ints w4 A2 n2 R := Ints.below intsA hb4
    replace i3 : Prs w4 A3 n3 D1 := Prs.below i3 blA
    replace hbw : Below w.heap.size w w4 := blA
    clear hb4
    go_wp2_with fail
    refine (kl _ _ _ _ _ _ _ _ i1 i2 (by omega) (by omega)).mono ?_
    rintro e w5 ⟨rfl, hb5⟩
    try clear i1
    try clear i2
    replace i3 : Prs w5 A3 n3 D1 := Prs.below i3 blA
    replace i4 : Prs w5 A4 n4 D1 := Prs.below i4 blA
    replace hbw : Below w.heap.size w w5 := blA
    clear hb5
    go_wp2_with fail
    refine (kp _ _ _ _ _ _ _ _ i3 i4 (by omega) (by omega)).mono ?_
    rintro e w6 ⟨rfl, hb6⟩
    try clear i1
    try clear i2
    try clear i3
    try clear i4
    replace hbw : Below w.heap.size w w6 := blA
    clear hb6
    go_wp2_with fail
    refine (kw _ (HT.out.below blA HT.out.1)).mono ?_
    rintro e w7 ⟨rfl, hb7⟩
    try clear i1
    try clear i2
    try clear i3
    try clear i4
    replace hbw : Below w.heap.size w w7 := blA
    clear hb7
    go_wp2_with fail
    go_ret
    exact ⟨rfl, blA⟩

end Go.Proofs.YtmddpjlpbmfbgaaDoor
end

/- BenchTrims: the call answers true, whatever the input, and every argument reads as it did. Conditions: none of its own; the listed variable is tied to the program's text by the given tie. -/
section
namespace Go.Proofs.YtmddpjlpbmfbgaaDoor
open Go.ChangeShapes Go.WideShapes Go.ChangeAt Go.RowKit
set_option linter.unusedVariables false

theorem benchTrims_params : (Tryd.f13.params.toList.all fun t => Tryd.prog.readableRec t && decide (t < Tryd.prog.types.size)) = true := by kernel_rfl

set_option maxRecDepth 100000 in
/-- the walk, for each argument that there is and each world that holds the listed variable -/
theorem benchTrims_contract (H : Type) (enc : TypeId × Value → H) (W : World) (base : Nat) (args : Array Value) (ds gs : List (DataW H)) (before : List MemPlace)
    (hval : ∀ (j : Nat) t v, Tryd.f13.params[j]? = some t → args[j]? = some v → Value.okWide Tryd.prog W .any base t v)
    (hW : DataW.Whole enc Tryd.prog Tryd.f13.params.toList Rows.benchTrimsSpec.vars false W args.toList ds gs before) (hL : laidMetH Tryd.prog Rows.benchTrimsRow.laid W) :
    Calls Tryd.prog 13 args W fun e W' => ∃ v, e = .returned v ∧ Rows.benchTrimsSpec.post enc Tryd.prog Tryd.f13 false true false false W args v W' := by
  have hW' := hW
  obtain ⟨p, q, hA0, hV, hps, hfz, hnd⟩ := hW
  have hA : DataW.TrodAll enc Tryd.prog W 0 (fun _ => true) true Tryd.f13.params.toList args.toList ds p := hA0
  rw [Tryd.params13] at hA hval
  obtain ⟨v0, v1, d0, d1, p0, p1, rfl, rfl, rfl, h0, h1⟩ := trodAll_two hA
  have hf := tabAt hL
  obtain ⟨n0, rfl, _, _, w0⟩ := open_int Tryd.underlying3 (hval 0 3 v0 rfl rfl) h0
  have bd0 := bounds_i64 w0
  obtain ⟨A1, n1, cap1, zs1, rfl, hz1, hn1, hc1⟩ := arg_prs (hval 1 22 v1 rfl rfl) h1
  clear hA0
  refine (benchTrims_any n0 A1 n1 cap1 zs1 W hz1 hn1 hc1 hf).mono fun e W' ⟨he, hb⟩ => ?_
  subst he
  exact ⟨_, rfl, law_done laidOut rfl (fun t ht => by have := List.all_eq_true.1 benchTrims_params t ht; simpa using this) (by kernel_rfl) Tryd.underlying4 hW' (fun h => by subst h; rfl) (fun h => by subst h; rfl) (fun h => by subst h; rfl) hb⟩

theorem benchTrims_laid_met (os : Os) : laidMet Tryd.prog Rows.benchTrimsRow.laid ((laidWorld os).forCall (fun _ _ => 0) ⟨#[], #[.int .i64 0, .slice none 0 0], []⟩).memory :=
  laidMet_of_run' 8 (by kernel_rfl) (by kernel_rfl)
theorem benchTrims_reads (os : Os) {H : Type} (enc : TypeId × Value → H) : ∃ places, DataW.whole enc Tryd.prog ((laidWorld os).forCall (fun _ _ => 0) ⟨#[], #[.int .i64 0, .slice none 0 0], []⟩).memory Tryd.f13.params.toList Rows.benchTrimsSpec.vars false (#[.int .i64 0, .slice none 0 0] : Array Value).toList 8 = some ([.lit (.int .i64 0), .nil], [], places) :=
  ⟨[], by kernel_rfl⟩

set_option maxRecDepth 100000 in
theorem benchTrims_lifted (os : Os) (started : os.Started) (H : Type) (enc : TypeId × Value → H) (F : Stop.Interp) :
    ReturnsInHanded {} Tryd.checked os 13 .any ((OpenSpec.ofChange Rows.benchTrimsSpec).preRow enc Tryd.prog Tryd.f13 Rows.benchTrimsRow.domain false Rows.benchTrimsRow.laid) (((OpenSpec.ofChange Rows.benchTrimsSpec).at F).post enc Tryd.prog Tryd.f13 false true false false) := by
  obtain ⟨places, hx⟩ := benchTrims_reads os enc
  refine returnsInHanded_of_row (C := Tryd.checked) (s := OpenSpec.ofChange Rows.benchTrimsSpec) own started (by kernel_rfl) Tryd.func13
    (witness_row_at (enc := enc) (C := Tryd.checked) false (laidWorld os) #[.int .i64 0, .slice none 0 0] rfl (by kernel_rfl) (by kernel_rfl) (by kernel_rfl)
      (OpenSpec.preRow_of_cond 8 hx (by kernel_rfl) (fun k hk => by cases hk) (by kernel_rfl) (benchTrims_laid_met os))) ?_
  intro W base args ds gs before hval hW _ _ _ hL _ _
  exact benchTrims_contract H enc W base args ds gs before hval hW hL

theorem benchTrims_said : Rows.BenchTrimsSaid :=
  OpenClaim.holds_of_cond 13 Tryd.f13 rfl rfl rfl rfl rfl rfl rfl ⟨rfl, rfl, rfl, rfl, rfl⟩ rfl rfl rfl rfl rfl (by kernel_rfl) Tryd.func13 (by kernel_rfl)
    (of_decide_eq_true (by kernel_rfl)) (by unfold Func.isWrapper; first | (rw [if_pos (by decide +kernel)]; kernel_rfl) | (rw [if_neg (by decide +kernel)]; exact ⟨rfl, rfl⟩))
    (fun os started H enc _ F => by rw [OpenClaim.pre_eq_preRow]; exact benchTrims_lifted os started H enc F)

theorem benchTrims_plain (f : FuncId) (fn : Func) (hf : Tryd.pinned.checked.prog.funcNamed Rows.benchTrimsRow.func = some f) (hfn : Tryd.pinned.checked.prog.funcs[f]? = some fn) :
    false = Tryd.pinned.checked.prog.looks [] ∧ ∀ (j : Nat) t, fn.params[j]? = some t → Tryd.pinned.checked.prog.wantsStandIn t = false := by
  obtain rfl : f = 13 := Option.some.inj ((show Tryd.prog.funcNamed Rows.benchTrimsRow.func = some 13 by kernel_rfl).symm.trans hf) |>.symm
  obtain rfl : fn = Tryd.f13 := (Option.some.inj (Tryd.func13.symm.trans hfn)).symm
  refine ⟨by kernel_rfl, fun j t ht => ?_⟩
  have hall : (Tryd.f13.params.toList.all fun u => !Tryd.prog.wantsStandIn u) = true := by kernel_rfl
  have hm : t ∈ Tryd.f13.params.toList := by simpa using Array.mem_of_getElem? ht
  exact (show Tryd.prog.wantsStandIn t = false by simpa using List.all_eq_true.1 hall t hm)

/-- BenchTrims, the card -/
theorem benchTrims_card : Rows.BenchTrimsCardSaid :=
  Claim7.holds_tied_plain_at .later [] _ _ _ _ benchTrims_said (fun _ h => by cases h) (by kernel_rfl) (fun _ h => by cases h) benchTrims_row_tie rfl ⟨rfl, rfl⟩ (by kernel_rfl) rfl benchTrims_plain (by kernel_rfl)
#print axioms benchTrims_card
end Go.Proofs.YtmddpjlpbmfbgaaDoor
end
