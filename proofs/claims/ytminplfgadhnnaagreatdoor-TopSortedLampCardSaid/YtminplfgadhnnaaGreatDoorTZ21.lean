/- TT2 -/
import Derived.Test.YtminplfgadhnnaaGreatDoorTZ19
import Derived.Test.YtminplfgadhnnaaGreatDoorTZ20
/- TopSortedLamp: the call answers true, whatever the input, and every argument reads as it did. Conditions: none of its own; the listed variables are tied to the program's text by the given tie. -/
section
namespace Go.Proofs.YtminplfgadhnnaaGreatDoor
open Go.ChangeShapes Go.WideShapes Go.ChangeAt Go.RowKit
set_option linter.unusedVariables false

theorem topSortedLamp_laid : Rows.topSortedLampRow.laid = topLaid := by kernel_rfl
theorem topSortedLamp_params : (Tryz.f4.params.toList.all fun t => Tryz.prog.readableRec t && decide (t < Tryz.prog.types.size)) = true := by kernel_rfl

set_option maxRecDepth 100000 in
/-- the walk, for each argument that there is and each world that holds the listed variables -/
theorem topSortedLamp_contract (H : Type) (enc : TypeId × Value → H) (W : World) (base : Nat) (args : Array Value) (ds gs : List (DataW H)) (before : List MemPlace)
    (hval : ∀ (j : Nat) t v, Tryz.f4.params[j]? = some t → args[j]? = some v → Value.okWide Tryz.prog W .any base t v)
    (hW : DataW.Whole enc Tryz.prog Tryz.f4.params.toList Rows.topSortedLampSpec.vars false W args.toList ds gs before) (hL : laidMetH Tryz.prog Rows.topSortedLampRow.laid W) :
    Calls Tryz.prog 4 args W fun e W' => ∃ v, e = .returned v ∧ Rows.topSortedLampSpec.post enc Tryz.prog Tryz.f4 false true false false W args v W' := by
  have hW' := hW
  obtain ⟨p, q, hA0, hV, hps, hfz, hnd⟩ := hW
  have hA : DataW.TrodAll enc Tryz.prog W 0 (fun _ => true) true Tryz.f4.params.toList args.toList ds p := hA0
  rw [Tryz.params4] at hA hval
  obtain ⟨v0, v1, v2, d0, d1, d2, p0, p1, p2, rfl, rfl, rfl, h0, h1, h2⟩ := trodAll_three hA
  have hLL : laidMet Tryz.prog topLaid W := by rw [← topSortedLamp_laid]; exact hL
  have hG := topGlob hLL
  have hf := topFirst hLL
  obtain ⟨L1, m1, c1, L2, m2, c2, L3, m3, c3, L4, m4, c4, an, ls, fs, ws, rfl, hl0⟩ := arg_lamp (hval 0 26 v0 rfl rfl) h0
  obtain ⟨A1, n1, cap1, zs1, rfl, hz1, hn1⟩ := arg_u8s (hval 1 27 v1 rfl rfl) h1
  obtain ⟨A2, n2, cap2, zs2, rfl, hz2, hn2, hc2⟩ := arg_prs (hval 2 52 v2 rfl rfl) h2
  clear hA0
  refine (sortedLamp_any _ _ _ _ _ _ _ _ _ _ _ _ _ _ _ _ A1 A2 n1 cap1 n2 cap2 zs1 zs2 W hl0 hz1 hz2 hn1 hn2 hG).mono fun e W' ⟨he, hb⟩ => ?_
  subst he
  exact ⟨_, rfl, law_done laidOut rfl (fun t ht => by have := List.all_eq_true.1 topSortedLamp_params t ht; simpa using this) (by kernel_rfl) Tryz.underlying4 hW' (fun h => by subst h; rfl) (fun h => by subst h; rfl) (fun h => by subst h; rfl) hb⟩

theorem topSortedLamp_laid_met (os : Os) : laidMet Tryz.prog Rows.topSortedLampRow.laid ((topWorld os).forCall (fun _ _ => 0) ⟨#[], #[.agg #[.slice none 0 0, .slice none 0 0, .slice none 0 0, .slice none 0 0], .slice none 0 0, .slice none 0 0], []⟩).memory :=
  laidMet_of_run' 8 (by kernel_rfl) (by kernel_rfl)
theorem topSortedLamp_reads (os : Os) {H : Type} (enc : TypeId × Value → H) : ∃ places, DataW.whole enc Tryz.prog ((topWorld os).forCall (fun _ _ => 0) ⟨#[], #[.agg #[.slice none 0 0, .slice none 0 0, .slice none 0 0, .slice none 0 0], .slice none 0 0, .slice none 0 0], []⟩).memory Tryz.f4.params.toList Rows.topSortedLampSpec.vars false (#[.agg #[.slice none 0 0, .slice none 0 0, .slice none 0 0, .slice none 0 0], .slice none 0 0, .slice none 0 0] : Array Value).toList 8 = some ([.agg [.nil, .nil, .nil, .nil], .nil, .nil], [], places) :=
  ⟨[], by kernel_rfl⟩

set_option maxRecDepth 100000 in
theorem topSortedLamp_lifted (os : Os) (started : os.Started) (H : Type) (enc : TypeId × Value → H) (F : Stop.Interp) :
    ReturnsInHanded {} Tryz.checked os 4 .any ((OpenSpec.ofChange Rows.topSortedLampSpec).preRow enc Tryz.prog Tryz.f4 Rows.topSortedLampRow.domain false Rows.topSortedLampRow.laid) (((OpenSpec.ofChange Rows.topSortedLampSpec).at F).post enc Tryz.prog Tryz.f4 false true false false) := by
  obtain ⟨places, hx⟩ := topSortedLamp_reads os enc
  refine returnsInHanded_of_row (C := Tryz.checked) (s := OpenSpec.ofChange Rows.topSortedLampSpec) own started (by kernel_rfl) Tryz.func4
    (witness_row_at (enc := enc) (C := Tryz.checked) false (topWorld os) #[.agg #[.slice none 0 0, .slice none 0 0, .slice none 0 0, .slice none 0 0], .slice none 0 0, .slice none 0 0] rfl (by kernel_rfl) (by kernel_rfl) (by kernel_rfl)
      (OpenSpec.preRow_of_cond 8 hx (by kernel_rfl) (fun k hk => by cases hk) (by kernel_rfl) (topSortedLamp_laid_met os))) ?_
  intro W base args ds gs before hval hW _ _ _ hL _ _
  exact topSortedLamp_contract H enc W base args ds gs before hval hW hL

theorem topSortedLamp_said : Rows.TopSortedLampSaid :=
  OpenClaim.holds_of_cond 4 Tryz.f4 rfl rfl rfl rfl rfl rfl rfl ⟨rfl, rfl, rfl, rfl, rfl⟩ rfl rfl rfl rfl rfl (by kernel_rfl) Tryz.func4 (by kernel_rfl)
    (of_decide_eq_true (by kernel_rfl)) (by unfold Func.isWrapper; first | (rw [if_pos (by decide +kernel)]; kernel_rfl) | (rw [if_neg (by decide +kernel)]; exact ⟨rfl, rfl⟩))
    (fun os started H enc _ F => by rw [OpenClaim.pre_eq_preRow]; exact topSortedLamp_lifted os started H enc F)

theorem topSortedLamp_plain (f : FuncId) (fn : Func) (hf : Tryz.pinned.checked.prog.funcNamed Rows.topSortedLampRow.func = some f) (hfn : Tryz.pinned.checked.prog.funcs[f]? = some fn) :
    false = Tryz.pinned.checked.prog.looks [] ∧ ∀ (j : Nat) t, fn.params[j]? = some t → Tryz.pinned.checked.prog.wantsStandIn t = false := by
  obtain rfl : f = 4 := Option.some.inj ((show Tryz.prog.funcNamed Rows.topSortedLampRow.func = some 4 by kernel_rfl).symm.trans hf) |>.symm
  obtain rfl : fn = Tryz.f4 := (Option.some.inj (Tryz.func4.symm.trans hfn)).symm
  refine ⟨by kernel_rfl, fun j t ht => ?_⟩
  have hall : (Tryz.f4.params.toList.all fun u => !Tryz.prog.wantsStandIn u) = true := by kernel_rfl
  have hm : t ∈ Tryz.f4.params.toList := by simpa using Array.mem_of_getElem? ht
  exact (show Tryz.prog.wantsStandIn t = false by simpa using List.all_eq_true.1 hall t hm)

/-- TopSortedLamp, the card -/
theorem topSortedLamp_card : Rows.TopSortedLampCardSaid :=
  Claim7.holds_tied_plain_at .later [] _ _ _ _ topSortedLamp_said (fun _ h => by cases h) (by kernel_rfl) (fun _ h => by cases h) topSortedLamp_row_tie rfl ⟨rfl, rfl⟩ (by kernel_rfl) rfl topSortedLamp_plain (by kernel_rfl)
#print axioms topSortedLamp_card
end Go.Proofs.YtminplfgadhnnaaGreatDoor
end
