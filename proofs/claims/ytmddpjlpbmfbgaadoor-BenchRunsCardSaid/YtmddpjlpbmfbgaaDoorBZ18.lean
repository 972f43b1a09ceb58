/- BK01 BT01 -/
import Derived.Test.YtmddpjlpbmfbgaaDoorBZ16
import Derived.Test.YtmddpjlpbmfbgaaDoorBZ17
/- The walk of BenchRuns: it answers true. -/
section
namespace Go.Proofs.YtmddpjlpbmfbgaaDoor
open Go.RowKit Go.Shelf
set_option linter.unusedSimpArgs false
set_option linter.unusedVariables false

set_option maxHeartbeats 2000000 in
theorem benchRuns_any (l : Int) (A B : Option Addr) (m C n D : Nat) (zs : List (Int × Int)) (ys : List Int) (w : World) (hz : Prs w A m zs) (hm : m ≤ 9223372036854775807) (hy : Ints w B n ys) (hn : n ≤ 9223372036854775807) (hT : TabW w) :
    Calls Tryd.prog 3 #[.int .i64 l, .slice A m C, .slice B n D] w fun e w' => e = .returned (.bool true) ∧ Below w.heap.size w w' := by
  have kw := fun W hT => works_any W hT
  have HT := Lib.hid hT
  by_cases h90 : 90 < m
  · have h1 : (90 : Int) < (m : Int) := by omega
    clear hz hy hT h90
    go_enter Tryd.func3, Tryd.ntmps3
    go_wp2_with fail
    refine (kw _ (HT.out.below blA HT.out.1)).mono ?_
    rintro e w1 ⟨rfl, hb1⟩
    replace hbw : Below w.heap.size w w1 := blA
    clear hb1
    go_wp2_with fail
    go_ret
    exact ⟨rfl, blA⟩
  · have h1 : ¬ (90 : Int) < (m : Int) := by omega
    by_cases h20 : 20 < n
    · have h2 : (20 : Int) < (n : Int) := by omega
      have h3 : decide ((90 : Int) < (m : Int)) = false := by simpa using h1
      clear hz hy hT h90 h20
      go_enter Tryd.func3, Tryd.ntmps3
      go_wp2_with fail
      refine (kw _ (HT.out.below blA HT.out.1)).mono ?_
      rintro e w1 ⟨rfl, hb1⟩
      replace hbw : Below w.heap.size w w1 := blA
      clear hb1
      go_wp2_with fail
      go_ret
      exact ⟨rfl, blA⟩
    · have h2 : ¬ (20 : Int) < (n : Int) := by omega
      have k1 := fun (W : World) (hb : Below w.heap.size w W) => run_any A B n D m C zs ys W (hz.below hb) hm (hy.below hb) hn
      have k2 := fun (W : World) (hb : Below w.heap.size w W) => rRun_any A B n D m C zs ys W (hz.below hb) hm (hy.below hb) hn
      have k3 := fun (W : World) (hb : Below w.heap.size w W) => depth_any l A m C zs W (hz.below hb) hm
      have k4 := fun (W : World) (hb : Below w.heap.size w W) => rdepth_any l A m C zs W (hz.below hb) hm
      have k5 := fun (W : World) (hb : Below w.heap.size w W) => checkP_any l A m C zs W (hz.below hb) hm
      have k6 := fun (W : World) (hb : Below w.heap.size w W) => rcheckP_any l A m C zs W (hz.below hb) hm
      have kl := fun A B n m c c' xs W hx hy hn hm => longs_any A B n m c c' xs xs W hx hy hn hm true (by simp)
      clear hz hy hT h90 h20
      unfold RetLE at k1 k2
      generalize runE zs ys = r at *
      generalize r.1 = R at *
      generalize r.2 = e1 at *
      generalize depE l zs = d at *
      generalize d.1 = D1 at *
      generalize d.2 = e2 at *
      generalize chkP l zs = q at *
      go_enter Tryd.func3, Tryd.ntmps3
      go_wp2_with fail
      refine (k1 _ blA).mono ?_
      rintro _ w1 ⟨A1, n1, c1, rfl, i1, ⟨l1, _⟩, hb1⟩
      replace hbw : Below w.heap.size w w1 := blA
      clear hb1
      go_wp2_with fail
      refine (k2 _ blA).mono ?_
      rintro _ w2 ⟨A2, n2, c2, rfl, i2, ⟨l2, _⟩, hb2⟩
      replace i1 : Ints w2 A1 n1 R := Ints.below intsA hb2
      replace hbw : Below w.heap.size w w2 := blA
      clear hb2
      go_wp2_with fail
      refine (k3 _ blA).mono ?_
      rintro e w3 ⟨rfl, hb3⟩
      replace i1 : Ints w3 A1 n1 R := Ints.below intsA hb3
      replace i2 : Ints w3 A2 n2 R := Ints.below intsA hb3
      replace hbw : Below w.heap.size w w3 := blA
      clear hb3
      go_wp2_with fail
      refine (k4 _ blA).mono ?_
      rintro e w4 ⟨rfl, hb4⟩
      replace i1 : Ints w4 A1 n1 R := Ints.below intsA hb4
      replace i2 : Ints w4 A2 n2 R := Ints.below intsA hb4
      replace hbw : Below w.heap.size w w4 := blA
      clear hb4
      go_wp2_with fail
      refine (k5 _ blA).mono ?_
      rintro e w5 ⟨rfl, hb5⟩
      replace i1 : Ints w5 A1 n1 R := Ints.below intsA hb5
      replace i2 : Ints w5 A2 n2 R := Ints.below intsA hb5
      replace hbw : Below w.heap.size w w5 := blA
      clear hb5
      go_wp2_with fail
      refine (k6 _ blA).mono ?_
      rintro e w6 ⟨rfl, hb6⟩
      replace i1 : Ints w6 A1 n1 R := Ints.below intsA hb6
      replace i2 : Ints w6 A2 n2 R := Ints.below intsA hb6
      replace hbw : Below w.heap.size w w6 := blA
      clear hb6
      go_wp2_with fail
      refine (kl _ _ _ _ _ _ _ _ i1 i2 (by omega) (by omega)).mono ?_
      rintro e w7 ⟨rfl, hb7⟩
      try clear i1
      try clear i2
      replace hbw : Below w.heap.size w w7 := blA
      clear hb7
      go_wp2_with fail
      refine (kw _ (HT.out.below blA HT.out.1)).mono ?_
      rintro e w8 ⟨rfl, hb8⟩
      try clear i1
      try clear i2
      replace hbw : Below w.heap.size w w8 := blA
      clear hb8
      go_wp2_with fail
      go_ret
      exact ⟨rfl, blA⟩

end Go.Proofs.YtmddpjlpbmfbgaaDoor
end

/- BenchRuns: the call answers true, whatever the input, and every argument reads as it did. Conditions: none of its own; the listed variable is tied to the program's text by the given tie. -/
section
namespace Go.Proofs.YtmddpjlpbmfbgaaDoor
open Go.ChangeShapes Go.WideShapes Go.ChangeAt Go.RowKit
set_option linter.unusedVariables false

theorem benchRuns_params : (Tryd.f3.params.toList.all fun t => Tryd.prog.readableRec t && decide (t < Tryd.prog.types.size)) = true := by kernel_rfl

set_option maxRecDepth 100000 in
/-- the walk, for each argument that there is and each world that holds the listed variable -/
theorem benchRuns_contract (H : Type) (enc : TypeId × Value → H) (W : World) (base : Nat) (args : Array Value) (ds gs : List (DataW H)) (before : List MemPlace)
    (hval : ∀ (j : Nat) t v, Tryd.f3.params[j]? = some t → args[j]? = some v → Value.okWide Tryd.prog W .any base t v)
    (hW : DataW.Whole enc Tryd.prog Tryd.f3.params.toList Rows.benchRunsSpec.vars false W args.toList ds gs before) (hL : laidMetH Tryd.prog Rows.benchRunsRow.laid W) :
    Calls Tryd.prog 3 args W fun e W' => ∃ v, e = .returned v ∧ Rows.benchRunsSpec.post enc Tryd.prog Tryd.f3 false true false false W args v W' := by
  have hW' := hW
  obtain ⟨p, q, hA0, hV, hps, hfz, hnd⟩ := hW
  have hA : DataW.TrodAll enc Tryd.prog W 0 (fun _ => true) true Tryd.f3.params.toList args.toList ds p := hA0
  rw [Tryd.params3] at hA hval
  obtain ⟨v0, v1, v2, d0, d1, d2, p0, p1, p2, rfl, rfl, rfl, h0, h1, h2⟩ := trodAll_three hA
  have hf := tabAt hL
  obtain ⟨n0, rfl, _, _, w0⟩ := open_int Tryd.underlying3 (hval 0 3 v0 rfl rfl) h0
  have bd0 := bounds_i64 w0
  obtain ⟨A1, n1, cap1, zs1, rfl, hz1, hn1, hc1⟩ := arg_prs (hval 1 22 v1 rfl rfl) h1
  obtain ⟨A2, n2, cap2, zs2, rfl, hz2, hn2⟩ := arg_ints (hval 2 23 v2 rfl rfl) h2
  clear hA0
  refine (benchRuns_any n0 A1 A2 n1 cap1 n2 cap2 zs1 zs2 W hz1 hn1 hz2 hn2 hf).mono fun e W' ⟨he, hb⟩ => ?_
  subst he
  exact ⟨_, rfl, law_done laidOut rfl (fun t ht => by have := List.all_eq_true.1 benchRuns_params t ht; simpa using this) (by kernel_rfl) Tryd.underlying4 hW' (fun h => by subst h; rfl) (fun h => by subst h; rfl) (fun h => by subst h; rfl) hb⟩

theorem benchRuns_laid_met (os : Os) : laidMet Tryd.prog Rows.benchRunsRow.laid ((laidWorld os).forCall (fun _ _ => 0) ⟨#[], #[.int .i64 0, .slice none 0 0, .slice none 0 0], []⟩).memory :=
  laidMet_of_run' 8 (by kernel_rfl) (by kernel_rfl)
theorem benchRuns_reads (os : Os) {H : Type} (enc : TypeId × Value → H) : ∃ places, DataW.whole enc Tryd.prog ((laidWorld os).forCall (fun _ _ => 0) ⟨#[], #[.int .i64 0, .slice none 0 0, .slice none 0 0], []⟩).memory Tryd.f3.params.toList Rows.benchRunsSpec.vars false (#[.int .i64 0, .slice none 0 0, .slice none 0 0] : Array Value).toList 8 = some ([.lit (.int .i64 0), .nil, .nil], [], places) :=
  ⟨[], by kernel_rfl⟩

set_option maxRecDepth 100000 in
theorem benchRuns_lifted (os : Os) (started : os.Started) (H : Type) (enc : TypeId × Value → H) (F : Stop.Interp) :
    ReturnsInHanded {} Tryd.checked os 3 .any ((OpenSpec.ofChange Rows.benchRunsSpec).preRow enc Tryd.prog Tryd.f3 Rows.benchRunsRow.domain false Rows.benchRunsRow.laid) (((OpenSpec.ofChange Rows.benchRunsSpec).at F).post enc Tryd.prog Tryd.f3 false true false false) := by
  obtain ⟨places, hx⟩ := benchRuns_reads os enc
  refine returnsInHanded_of_row (C := Tryd.checked) (s := OpenSpec.ofChange Rows.benchRunsSpec) own started (by kernel_rfl) Tryd.func3
    (witness_row_at (enc := enc) (C := Tryd.checked) false (laidWorld os) #[.int .i64 0, .slice none 0 0, .slice none 0 0] rfl (by kernel_rfl) (by kernel_rfl) (by kernel_rfl)
      (OpenSpec.preRow_of_cond 8 hx (by kernel_rfl) (fun k hk => by cases hk) (by kernel_rfl) (benchRuns_laid_met os))) ?_
  intro W base args ds gs before hval hW _ _ _ hL _ _
  exact benchRuns_contract H enc W base args ds gs before hval hW hL

theorem benchRuns_said : Rows.BenchRunsSaid :=
  OpenClaim.holds_of_cond 3 Tryd.f3 rfl rfl rfl rfl rfl rfl rfl ⟨rfl, rfl, rfl, rfl, rfl⟩ rfl rfl rfl rfl rfl (by kernel_rfl) Tryd.func3 (by kernel_rfl)
    (of_decide_eq_true (by kernel_rfl)) (by unfold Func.isWrapper; first | (rw [if_pos (by decide +kernel)]; kernel_rfl) | (rw [if_neg (by decide +kernel)]; exact ⟨rfl, rfl⟩))
    (fun os started H enc _ F => by rw [OpenClaim.pre_eq_preRow]; exact benchRuns_lifted os started H enc F)

theorem benchRuns_plain (f : FuncId) (fn : Func) (hf : Tryd.pinned.checked.prog.funcNamed Rows.benchRunsRow.func = some f) (hfn : Tryd.pinned.checked.prog.funcs[f]? = some fn) :
    false = Tryd.pinned.checked.prog.looks [] ∧ ∀ (j : Nat) t, fn.params[j]? = some t → Tryd.pinned.checked.prog.wantsStandIn t = false := by
  obtain rfl : f = 3 := Option.some.inj ((show Tryd.prog.funcNamed Rows.benchRunsRow.func = some 3 by kernel_rfl).symm.trans hf) |>.symm
  obtain rfl : fn = Tryd.f3 := (Option.some.inj (Tryd.func3.symm.trans hfn)).symm
  refine ⟨by kernel_rfl, fun j t ht => ?_⟩
  have hall : (Tryd.f3.params.toList.all fun u => !Tryd.prog.wantsStandIn u) = true := by kernel_rfl
  have hm : t ∈ Tryd.f3.params.toList := by simpa using Array.mem_of_getElem? ht
  exact (show Tryd.prog.wantsStandIn t = false by simpa using List.all_eq_true.1 hall t hm)

/-- BenchRuns, the card -/
theorem benchRuns_card : Rows.BenchRunsCardSaid :=
  Claim7.holds_tied_plain_at .later [] _ _ _ _ benchRuns_said (fun _ h => by cases h) (by kernel_rfl) (fun _ h => by cases h) benchRuns_row_tie rfl ⟨rfl, rfl⟩ (by kernel_rfl) rfl benchRuns_plain (by kernel_rfl)
#print axioms benchRuns_card
end Go.Proofs.YtmddpjlpbmfbgaaDoor
end
