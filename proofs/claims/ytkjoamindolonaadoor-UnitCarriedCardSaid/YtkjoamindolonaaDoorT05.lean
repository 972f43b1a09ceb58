/- UnitCarried: the call answers true, whatever the input, and every argument reads as it did. Conditions: none of its own; the listed variable is tied to the program's text by the given tie. -/
import Derived.Test.YtkjoamindolonaaDoorL05C
import Derived.Test.YtkjoamindolonaaDoorTB
import Derived.Test.YtkjoamindolonaaDoorUTie
namespace Go.Proofs.YtkjoamindolonaaDoor
open Go.ChangeShapes Go.WideShapes Go.ChangeAt Go.RowKit
set_option linter.unusedVariables false

theorem unitCarried_params : (Tryd.f7.params.toList.all fun t => Tryd.prog.readableRec t && decide (t < Tryd.prog.types.size)) = true := by kernel_rfl

/-- the walk, for each argument that there is and each world that holds the listed variable -/
theorem unitCarried_contract (H : Type) (enc : TypeId × Value → H) (W : World) (base : Nat) (args : Array Value) (ds gs : List (DataW H)) (before : List MemPlace)
    (hval : ∀ (j : Nat) t v, Tryd.f7.params[j]? = some t → args[j]? = some v → Value.okWide Tryd.prog W .any base t v)
    (hW : DataW.Whole enc Tryd.prog Tryd.f7.params.toList Rows.unitCarriedSpec.vars false W args.toList ds gs before) (hL : laidMetH Tryd.prog Rows.unitCarriedRow.laid W) :
    Calls Tryd.prog 7 args W fun e W' => ∃ v, e = .returned v ∧ Rows.unitCarriedSpec.post enc Tryd.prog Tryd.f7 false true false false W args v W' := by
  have hW' := hW
  obtain ⟨p, q, hA0, hV, hps, hfz, hnd⟩ := hW
  have hA : DataW.TrodAll enc Tryd.prog W 0 (fun _ => true) true Tryd.f7.params.toList args.toList ds p := hA0
  rw [Tryd.params7] at hA hval
  obtain ⟨v0, v1, v2, d0, d1, d2, p0, p1, p2, rfl, rfl, rfl, h0, h1, h2⟩ := trodAll_three hA
  have hf := firstAt hL
  obtain ⟨a0, b0, c0, e0, rfl⟩ := arg_span (hval 0 25 v0 rfl rfl) h0
  obtain ⟨A1, n1, cap1, zs1, rfl, hz1, hn1⟩ := arg_spans (hval 1 26 v1 rfl rfl) h1
  obtain ⟨A2, n2, cap2, zs2, rfl, hz2, hn2⟩ := arg_bytes (hval 2 48 v2 rfl rfl) h2
  clear hA0
  refine (unitCarried_any a0 b0 c0 e0 A1 A2 n1 n2 cap1 cap2 zs1 zs2 W hz1 hz2 hn1 hn2 hf).mono fun e W' ⟨he, hb⟩ => ?_
  subst he
  exact ⟨_, rfl, law_done laidOut rfl (fun t ht => by have := List.all_eq_true.1 unitCarried_params t ht; simpa using this) (by kernel_rfl) Tryd.underlying4 hW' (fun h => by subst h; rfl) (fun h => by subst h; rfl) (fun h => by subst h; rfl) hb⟩

theorem unitCarried_laid_met (os : Os) : laidMet Tryd.prog Rows.unitCarriedRow.laid ((laidWorld os).forCall (fun _ _ => 0) ⟨#[], #[.agg #[.int .i64 0, .int .i64 0, .int .i64 0, .int .i64 0], .slice none 0 0, .slice none 0 0], []⟩).memory :=
  laidMet_of_run' 8 (by kernel_rfl) (by kernel_rfl)
theorem unitCarried_reads (os : Os) {H : Type} (enc : TypeId × Value → H) : ∃ places, DataW.whole enc Tryd.prog ((laidWorld os).forCall (fun _ _ => 0) ⟨#[], #[.agg #[.int .i64 0, .int .i64 0, .int .i64 0, .int .i64 0], .slice none 0 0, .slice none 0 0], []⟩).memory Tryd.f7.params.toList Rows.unitCarriedSpec.vars false (#[.agg #[.int .i64 0, .int .i64 0, .int .i64 0, .int .i64 0], .slice none 0 0, .slice none 0 0] : Array Value).toList 8 = some ([.agg [.agg [.lit (.int .i64 0), .lit (.int .i64 0)], .agg [.lit (.int .i64 0), .lit (.int .i64 0)]], .nil, .nil], [], places) :=
  ⟨[], by kernel_rfl⟩

set_option maxRecDepth 100000 in
theorem unitCarried_lifted (os : Os) (started : os.Started) (H : Type) (enc : TypeId × Value → H) (F : Stop.Interp) :
    ReturnsInHanded {} Tryd.checked os 7 .any ((OpenSpec.ofChange Rows.unitCarriedSpec).preRow enc Tryd.prog Tryd.f7 Rows.unitCarriedRow.domain false Rows.unitCarriedRow.laid) (((OpenSpec.ofChange Rows.unitCarriedSpec).at F).post enc Tryd.prog Tryd.f7 false true false false) := by
  obtain ⟨places, hx⟩ := unitCarried_reads os enc
  refine returnsInHanded_of_row (C := Tryd.checked) (s := OpenSpec.ofChange Rows.unitCarriedSpec) own started (by kernel_rfl) Tryd.func7
    (witness_row_at (enc := enc) (C := Tryd.checked) false (laidWorld os) #[.agg #[.int .i64 0, .int .i64 0, .int .i64 0, .int .i64 0], .slice none 0 0, .slice none 0 0] rfl (by kernel_rfl) (by kernel_rfl) (by kernel_rfl)
      (OpenSpec.preRow_of_cond 8 hx (by kernel_rfl) (fun k hk => by cases hk) (by kernel_rfl) (unitCarried_laid_met os))) ?_
  intro W base args ds gs before hval hW _ _ _ hL _ _
  exact unitCarried_contract H enc W base args ds gs before hval hW hL

theorem unitCarried_said : Rows.UnitCarriedSaid :=
  OpenClaim.holds_of_cond 7 Tryd.f7 rfl rfl rfl rfl rfl rfl rfl ⟨rfl, rfl, rfl, rfl, rfl⟩ rfl rfl rfl rfl rfl (by kernel_rfl) Tryd.func7 (by kernel_rfl)
    (of_decide_eq_true (by kernel_rfl)) (by unfold Func.isWrapper; first | (rw [if_pos (by decide +kernel)]; kernel_rfl) | (rw [if_neg (by decide +kernel)]; exact ⟨rfl, rfl⟩))
    (fun os started H enc _ F => by rw [OpenClaim.pre_eq_preRow]; exact unitCarried_lifted os started H enc F)

theorem unitCarried_plain (f : FuncId) (fn : Func) (hf : Tryd.pinned.checked.prog.funcNamed Rows.unitCarriedRow.func = some f) (hfn : Tryd.pinned.checked.prog.funcs[f]? = some fn) :
    false = Tryd.pinned.checked.prog.looks [] ∧ ∀ (j : Nat) t, fn.params[j]? = some t → Tryd.pinned.checked.prog.wantsStandIn t = false := by
  obtain rfl : f = 7 := Option.some.inj ((show Tryd.prog.funcNamed Rows.unitCarriedRow.func = some 7 by kernel_rfl).symm.trans hf) |>.symm
  obtain rfl : fn = Tryd.f7 := (Option.some.inj (Tryd.func7.symm.trans hfn)).symm
  refine ⟨by kernel_rfl, fun j t ht => ?_⟩
  have hall : (Tryd.f7.params.toList.all fun u => !Tryd.prog.wantsStandIn u) = true := by kernel_rfl
  have hm : t ∈ Tryd.f7.params.toList := by simpa using Array.mem_of_getElem? ht
  exact (show Tryd.prog.wantsStandIn t = false by simpa using List.all_eq_true.1 hall t hm)

/-- UnitCarried, the card -/
theorem unitCarried_card : Rows.UnitCarriedCardSaid :=
  Claim7.holds_tied_plain_at .later [] _ _ _ _ unitCarried_said (fun _ h => by cases h) (by kernel_rfl) (fun _ h => by cases h) unitCarried_row_tie rfl ⟨rfl, rfl⟩ (by kernel_rfl) rfl unitCarried_plain (by kernel_rfl)
#print axioms unitCarried_card
end Go.Proofs.YtkjoamindolonaaDoor
