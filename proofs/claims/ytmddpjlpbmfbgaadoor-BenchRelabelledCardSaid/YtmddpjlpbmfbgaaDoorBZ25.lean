/- BK07 BT07 -/
import Derived.Test.YtmddpjlpbmfbgaaDoorBZ24
import Derived.Test.YtmddpjlpbmfbgaaDoorBZ21
import Derived.Test.YtmddpjlpbmfbgaaDoorBZ17
/- The walk of BenchRelabelled: it answers true. -/
section
namespace Go.Proofs.YtmddpjlpbmfbgaaDoor
open Go.RowKit Go.Shelf
set_option linter.unusedSimpArgs false
set_option linter.unusedVariables false
open Bm (Pr OkP runL)

theorem map_out {ls : List Int} (hl : ls.length ≤ 20) (ys : List Int) : (ys.map (reaL ls)).any (out 0 100000) = false := by
  rw [List.any_eq_false]
  intro x hx
  obtain ⟨y, _, rfl⟩ := List.mem_map.1 hx
  have := reaL_bd ls y hl
  unfold out
  simp; omega

set_option maxHeartbeats 4000000 in
theorem benchRelabelled_any (l : Int) (A B E : Option Addr) (m C k D j F : Nat) (zs : List (Int × Int)) (bs ls : List Int) (w : World) (hz : Prs w A m zs) (hm : m ≤ 9223372036854775807) (hy : U32s w B k bs) (hk : k ≤ 9223372036854775807) (hv : U32s w E j ls) (hj : j ≤ 9223372036854775807) (hT : TabW w) :
    Calls Tryd.prog 7 #[.int .i64 l, .slice A m C, .slice B k D, .slice E j F] w fun e w' => e = .returned (.bool true) ∧ Below w.heap.size w w' := by
  have kw := fun W hT => works_any W hT
  have HT := Lib.hid hT
  have kf := fun (W : World) (hb : Below w.heap.size w W) => fine_any l A m C zs W (hz.below hb) hm
  by_cases h0 : chkP l zs = 0
  · rw [show fineP l zs = true by unfold fineP; simp [h0]] at kf
    by_cases h20 : 20 < k
    · have h2 : (20 : Int) < (k : Int) := by omega
      clear hz hy hv hT h0
      go_enter Tryd.func7, Tryd.ntmps7
      go_wp2_with fail
      refine (kf _ blA).mono ?_
      rintro e w1 ⟨rfl, hb1⟩
      replace hbw : Below w.heap.size w w1 := blA
      clear hb1
      go_wp2_with fail
      refine (kw _ (HT.out.below blA HT.out.1)).mono ?_
      rintro e w2 ⟨rfl, hb2⟩
      replace hbw : Below w.heap.size w w2 := blA
      clear hb2
      go_wp2_with fail
      go_ret
      exact ⟨rfl, blA⟩
    · have h2 : ¬ (20 : Int) < (k : Int) := by omega
      by_cases h21 : 20 < j
      · have h3 : (20 : Int) < (j : Int) := by omega
        clear hz hy hv hT h0
        go_enter Tryd.func7, Tryd.ntmps7
        go_wp2_with fail
        refine (kf _ blA).mono ?_
        rintro e w1 ⟨rfl, hb1⟩
        replace hbw : Below w.heap.size w w1 := blA
        clear hb1
        go_wp2_with fail
        refine (kw _ (HT.out.below blA HT.out.1)).mono ?_
        rintro e w2 ⟨rfl, hb2⟩
        replace hbw : Below w.heap.size w w2 := blA
        clear hb2
        go_wp2_with fail
        go_ret
        exact ⟨rfl, blA⟩
      · have h3 : ¬ (20 : Int) < (j : Int) := by omega
        obtain ⟨n, p, rfl, n2, n12, rfl, hp, hpl⟩ := chk_ok h0
        have hml := hz.1
        rw [cst_len] at hml
        have hls := hv.1
        have k1 := fun (W : World) (hb : Below w.heap.size w W) => powers_any n B k D bs W (hy.below hb) (by omega) n12
        have k2 := fun (W : World) (X : Option Addr) (c : Nat) (hb : Below w.heap.size w W) (hi : Ints W X n (powL n bs)) => run_ok A X n c m C p (powL n bs) W (hz.below hb) (by omega) hi n2 n12 (powL_out n bs) hp
        have k3 := fun (W : World) (X : Option Addr) (c : Nat) (xs : List Int) (hb : Below w.heap.size w W) (hi : Ints W X n xs) => reached_any X E n c j F xs ls W hi (hv.below hb) (by omega) (by omega)
        have k4 := fun (W : World) (X : Option Addr) (c : Nat) (hb : Below w.heap.size w W) (hi : Ints W X n ((powL n bs).map (reaL ls))) => run_ok A X n c m C p _ W (hz.below hb) (by omega) hi n2 n12 (map_out (by omega) _) hp
        rw [runL_map hp (reaL_mono ls) (powL_len n bs)] at k4
        have kl := fun A B n m c c' xs W hx hy hn hm => longs_any A B n m c c' xs xs W hx hy hn hm true (by simp)
        have hRl : (runL p (powL n bs)).length = n := by rw [Bm.runL_len, powL_len]
        unfold RetLE at k2 k4
        generalize runL p (powL n bs) = R at *
        generalize powL n bs = ys at *
        clear hz hy hv hT h0
        go_enter Tryd.func7, Tryd.ntmps7
        go_wp2_with fail
        refine (kf _ blA).mono ?_
        rintro e w1 ⟨rfl, hb1⟩
        replace hbw : Below w.heap.size w w1 := blA
        clear hb1
        go_wp2_with fail
        refine (k1 _ blA).mono ?_
        rintro _ w2 ⟨A2, c2, rfl, i2, _, hb2⟩
        replace hbw : Below w.heap.size w w2 := blA
        clear hb2
        go_wp2_with fail
        refine (k2 _ _ _ blA i2).mono ?_
        rintro _ w3 ⟨A3, n3, c3, rfl, i3, ⟨l3, _⟩, hb3⟩
        replace i2 : Ints w3 A2 n ys := Ints.below intsA hb3
        replace hbw : Below w.heap.size w w3 := blA
        clear hb3
        go_wp2_with fail
        refine (k3 _ _ _ _ blA i2).mono ?_
        rintro _ w4 ⟨A4, c4, rfl, i4, _, hb4⟩
        try clear i2
        replace i3 : Ints w4 A3 n3 R := Ints.below intsA hb4
        replace hbw : Below w.heap.size w w4 := blA
        clear hb4
        go_wp2_with fail
        refine (k4 _ _ _ blA i4).mono ?_
        rintro _ w5 ⟨A5, n5, c5, rfl, i5, ⟨l5, _⟩, hb5⟩
        try clear i2
        replace i3 : Ints w5 A3 n3 R := Ints.below intsA hb5
        replace hbw : Below w.heap.size w w5 := blA
        clear hb5
        have hn3 : n3 = n := by rw [← i3.1, hRl]
        subst hn3
        go_wp2_with fail
        refine (k3 _ _ _ _ blA i3).mono ?_
        rintro _ w6 ⟨A6, c6, rfl, i6, _, hb6⟩
        try clear i2
        try clear i3
        replace i5 : Ints w6 A5 n5 (R.map (reaL ls)) := Ints.below intsA hb6
        replace hbw : Below w.heap.size w w6 := blA
        clear hb6
        go_wp2_with fail
        refine (kl _ _ _ _ _ _ _ _ i6 i5 (by omega) (by omega)).mono ?_
        rintro e w7 ⟨rfl, hb7⟩
        try clear i2
        try clear i3
        try clear i5
        replace hbw : Below w.heap.size w w7 := blA
        clear hb7
        go_wp2_with fail
        refine (kw _ (HT.out.below blA HT.out.1)).mono ?_
        rintro e w8 ⟨rfl, hb8⟩
        try clear i2
        try clear i3
        try clear i5
        replace hbw : Below w.heap.size w w8 := blA
        clear hb8
        go_wp2_with fail
        go_ret
        exact ⟨rfl, blA⟩
  · rw [show fineP l zs = false by unfold fineP; simp [h0]] at kf
    clear hz hy hv hT h0
    go_enter Tryd.func7, Tryd.ntmps7
    go_wp2_with fail
    refine (kf _ blA).mono ?_
    rintro e w1 ⟨rfl, hb1⟩
    replace hbw : Below w.heap.size w w1 := blA
    clear hb1
    go_wp2_with fail
    refine (kw _ (HT.out.below blA HT.out.1)).mono ?_
    rintro e w2 ⟨rfl, hb2⟩
    replace hbw : Below w.heap.size w w2 := blA
    clear hb2
    go_wp2_with fail
    go_ret
    exact ⟨rfl, blA⟩

end Go.Proofs.YtmddpjlpbmfbgaaDoor
end

/- BenchRelabelled: the call answers true, whatever the input, and every argument reads as it did. Conditions: none of its own; the listed variable is tied to the program's text by the given tie. -/
section
namespace Go.Proofs.YtmddpjlpbmfbgaaDoor
open Go.ChangeShapes Go.WideShapes Go.ChangeAt Go.RowKit
set_option linter.unusedVariables false

theorem benchRelabelled_params : (Tryd.f7.params.toList.all fun t => Tryd.prog.readableRec t && decide (t < Tryd.prog.types.size)) = true := by kernel_rfl

set_option maxRecDepth 100000 in
/-- the walk, for each argument that there is and each world that holds the listed variable -/
theorem benchRelabelled_contract (H : Type) (enc : TypeId × Value → H) (W : World) (base : Nat) (args : Array Value) (ds gs : List (DataW H)) (before : List MemPlace)
    (hval : ∀ (j : Nat) t v, Tryd.f7.params[j]? = some t → args[j]? = some v → Value.okWide Tryd.prog W .any base t v)
    (hW : DataW.Whole enc Tryd.prog Tryd.f7.params.toList Rows.benchRelabelledSpec.vars false W args.toList ds gs before) (hL : laidMetH Tryd.prog Rows.benchRelabelledRow.laid W) :
    Calls Tryd.prog 7 args W fun e W' => ∃ v, e = .returned v ∧ Rows.benchRelabelledSpec.post enc Tryd.prog Tryd.f7 false true false false W args v W' := by
  have hW' := hW
  obtain ⟨p, q, hA0, hV, hps, hfz, hnd⟩ := hW
  have hA : DataW.TrodAll enc Tryd.prog W 0 (fun _ => true) true Tryd.f7.params.toList args.toList ds p := hA0
  rw [Tryd.params7] at hA hval
  obtain ⟨v0, v1, v2, v3, d0, d1, d2, d3, p0, p1, p2, p3, rfl, rfl, rfl, h0, h1, h2, h3⟩ := trodAll_four_ hA
  have hf := tabAt hL
  obtain ⟨n0, rfl, _, _, w0⟩ := open_int Tryd.underlying3 (hval 0 3 v0 rfl rfl) h0
  have bd0 := bounds_i64 w0
  obtain ⟨A1, n1, cap1, zs1, rfl, hz1, hn1, hc1⟩ := arg_prs (hval 1 22 v1 rfl rfl) h1
  obtain ⟨A2, n2, cap2, zs2, rfl, hz2, hn2⟩ := arg_u32s (hval 2 36 v2 rfl rfl) h2
  obtain ⟨A3, n3, cap3, zs3, rfl, hz3, hn3⟩ := arg_u32s (hval 3 36 v3 rfl rfl) h3
  clear hA0
  refine (benchRelabelled_any n0 A1 A2 A3 n1 cap1 n2 cap2 n3 cap3 zs1 zs2 zs3 W hz1 hn1 hz2 hn2 hz3 hn3 hf).mono fun e W' ⟨he, hb⟩ => ?_
  subst he
  exact ⟨_, rfl, law_done laidOut rfl (fun t ht => by have := List.all_eq_true.1 benchRelabelled_params t ht; simpa using this) (by kernel_rfl) Tryd.underlying4 hW' (fun h => by subst h; rfl) (fun h => by subst h; rfl) (fun h => by subst h; rfl) hb⟩

theorem benchRelabelled_laid_met (os : Os) : laidMet Tryd.prog Rows.benchRelabelledRow.laid ((laidWorld os).forCall (fun _ _ => 0) ⟨#[], #[.int .i64 0, .slice none 0 0, .slice none 0 0, .slice none 0 0], []⟩).memory :=
  laidMet_of_run' 8 (by kernel_rfl) (by kernel_rfl)
theorem benchRelabelled_reads (os : Os) {H : Type} (enc : TypeId × Value → H) : ∃ places, DataW.whole enc Tryd.prog ((laidWorld os).forCall (fun _ _ => 0) ⟨#[], #[.int .i64 0, .slice none 0 0, .slice none 0 0, .slice none 0 0], []⟩).memory Tryd.f7.params.toList Rows.benchRelabelledSpec.vars false (#[.int .i64 0, .slice none 0 0, .slice none 0 0, .slice none 0 0] : Array Value).toList 8 = some ([.lit (.int .i64 0), .nil, .nil, .nil], [], places) :=
  ⟨[], by kernel_rfl⟩

set_option maxRecDepth 100000 in
theorem benchRelabelled_lifted (os : Os) (started : os.Started) (H : Type) (enc : TypeId × Value → H) (F : Stop.Interp) :
    ReturnsInHanded {} Tryd.checked os 7 .any ((OpenSpec.ofChange Rows.benchRelabelledSpec).preRow enc Tryd.prog Tryd.f7 Rows.benchRelabelledRow.domain false Rows.benchRelabelledRow.laid) (((OpenSpec.ofChange Rows.benchRelabelledSpec).at F).post enc Tryd.prog Tryd.f7 false true false false) := by
  obtain ⟨places, hx⟩ := benchRelabelled_reads os enc
  refine returnsInHanded_of_row (C := Tryd.checked) (s := OpenSpec.ofChange Rows.benchRelabelledSpec) own started (by kernel_rfl) Tryd.func7
    (witness_row_at (enc := enc) (C := Tryd.checked) false (laidWorld os) #[.int .i64 0, .slice none 0 0, .slice none 0 0, .slice none 0 0] rfl (by kernel_rfl) (by kernel_rfl) (by kernel_rfl)
      (OpenSpec.preRow_of_cond 8 hx (by kernel_rfl) (fun k hk => by cases hk) (by kernel_rfl) (benchRelabelled_laid_met os))) ?_
  intro W base args ds gs before hval hW _ _ _ hL _ _
  exact benchRelabelled_contract H enc W base args ds gs before hval hW hL

theorem benchRelabelled_said : Rows.BenchRelabelledSaid :=
  OpenClaim.holds_of_cond 7 Tryd.f7 rfl rfl rfl rfl rfl rfl rfl ⟨rfl, rfl, rfl, rfl, rfl⟩ rfl rfl rfl rfl rfl (by kernel_rfl) Tryd.func7 (by kernel_rfl)
    (of_decide_eq_true (by kernel_rfl)) (by unfold Func.isWrapper; first | (rw [if_pos (by decide +kernel)]; kernel_rfl) | (rw [if_neg (by decide +kernel)]; exact ⟨rfl, rfl⟩))
    (fun os started H enc _ F => by rw [OpenClaim.pre_eq_preRow]; exact benchRelabelled_lifted os started H enc F)

theorem benchRelabelled_plain (f : FuncId) (fn : Func) (hf : Tryd.pinned.checked.prog.funcNamed Rows.benchRelabelledRow.func = some f) (hfn : Tryd.pinned.checked.prog.funcs[f]? = some fn) :
    false = Tryd.pinned.checked.prog.looks [] ∧ ∀ (j : Nat) t, fn.params[j]? = some t → Tryd.pinned.checked.prog.wantsStandIn t = false := by
  obtain rfl : f = 7 := Option.some.inj ((show Tryd.prog.funcNamed Rows.benchRelabelledRow.func = some 7 by kernel_rfl).symm.trans hf) |>.symm
  obtain rfl : fn = Tryd.f7 := (Option.some.inj (Tryd.func7.symm.trans hfn)).symm
  refine ⟨by kernel_rfl, fun j t ht => ?_⟩
  have hall : (Tryd.f7.params.toList.all fun u => !Tryd.prog.wantsStandIn u) = true := by kernel_rfl
  have hm : t ∈ Tryd.f7.params.toList := by simpa using Array.mem_of_getElem? ht
  exact (show Tryd.prog.wantsStandIn t = false by simpa using List.all_eq_true.1 hall t hm)

/-- BenchRelabelled, the card -/
theorem benchRelabelled_card : Rows.BenchRelabelledCardSaid :=
  Claim7.holds_tied_plain_at .later [] _ _ _ _ benchRelabelled_said (fun _ h => by cases h) (by kernel_rfl) (fun _ h => by cases h) benchRelabelled_row_tie rfl ⟨rfl, rfl⟩ (by kernel_rfl) rfl benchRelabelled_plain (by kernel_rfl)
#print axioms benchRelabelled_card
end Go.Proofs.YtmddpjlpbmfbgaaDoor
end
