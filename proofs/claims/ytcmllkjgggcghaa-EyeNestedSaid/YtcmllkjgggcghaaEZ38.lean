/- ET08 -/
import Derived.Test.YtcmllkjgggcghaaEZ30
import Derived.Test.YtcmllkjgggcghaaEZ18
import Derived.Test.YtcmllkjgggcghaaEZ24
import Derived.LaidLaws
/- EyeNested: the call answers true, whatever the input, and every argument reads as it did. -/
section
namespace Go.Proofs.Ytcmllkjgggcghaa
open Go.ChangeShapes Go.WideShapes Go.ChangeAt Go.RowKit
set_option linter.unusedVariables false

theorem eyeNested_params : (Try.f10.params.toList.all fun t => Try.prog.readableRec t && decide (t < Try.prog.types.size)) = true := by kernel_rfl

set_option maxRecDepth 100000 in
/-- the walk, for each argument that there is -/
theorem eyeNested_contract (H : Type) (enc : TypeId × Value → H) (W : World) (base : Nat) (args : Array Value) (ds gs : List (DataW H)) (before : List MemPlace)
    (hval : ∀ (j : Nat) t v, Try.f10.params[j]? = some t → args[j]? = some v → Value.okWide Try.prog W .any base t v)
    (hW : DataW.Whole enc Try.prog Try.f10.params.toList Rows.eyeNestedSpec.vars false W args.toList ds gs before) :
    Calls Try.prog 10 args W fun e W' => ∃ v, e = .returned v ∧ Rows.eyeNestedSpec.post enc Try.prog Try.f10 false true false false W args v W' := by
  have hW' := hW
  obtain ⟨p, q, hA0, hV, hps, hfz, hnd⟩ := hW
  have hA : DataW.TrodAll enc Try.prog W 0 (fun _ => true) true Try.f10.params.toList args.toList ds p := hA0
  rw [Try.params10] at hA hval
  obtain ⟨v0, v1, v2, v3, v4, d0, d1, d2, d3, d4, p0, p1, p2, p3, p4, rfl, rfl, rfl, h0, h1, h2, h3, h4⟩ := trodAll_five hA
  obtain ⟨A0, n0, cap0, zs0, rfl, hz0, hn0⟩ := arg_plates (hval 0 22 v0 rfl rfl) h0
  obtain ⟨a1, b1, rfl, wa1, wb1⟩ := arg_u16x2 (hval 1 68 v1 rfl rfl) h1
  obtain ⟨a2, b2, rfl, wa2, wb2⟩ := arg_u16x2 (hval 2 68 v2 rfl rfl) h2
  obtain ⟨n3, rfl, _, _, w3⟩ := open_int Try.underlying50 (hval 3 50 v3 rfl rfl) h3
  have bd3 := bounds_u32 w3
  obtain ⟨n4, rfl, _, _, w4⟩ := open_int Try.underlying50 (hval 4 50 v4 rfl rfl) h4
  have bd4 := bounds_u32 w4
  clear hA0
  refine (eyeNested_any A0 n0 cap0 zs0 a1 b1 a2 b2 n3 n4 W hz0 hn0 wa1 wb1 wa2 wb2 bd3 bd4).mono fun e W' ⟨he, hb⟩ => ?_
  subst he
  exact ⟨_, rfl, law_done rk_laid rfl (fun t ht => by have := List.all_eq_true.1 eyeNested_params t ht; simpa using this) (by kernel_rfl) Try.underlying4 hW' (fun h => by subst h; rfl) (fun h => by subst h; rfl) (fun h => by subst h; rfl) hb⟩

theorem eyeNested_laid_met (os : Os) : laidMet Try.prog Rows.eyeNestedRow.laid ((startWorld os).forCall (fun _ _ => 0) ⟨#[], #[.slice none 0 0, .agg #[.int .u16 0, .int .u16 0], .agg #[.int .u16 0, .int .u16 0], .int .u32 0, .int .u32 0], []⟩).memory :=
  laidMet_of_run' 8 (by kernel_rfl) (by kernel_rfl)
theorem eyeNested_reads (os : Os) {H : Type} (enc : TypeId × Value → H) : ∃ places, DataW.whole enc Try.prog ((startWorld os).forCall (fun _ _ => 0) ⟨#[], #[.slice none 0 0, .agg #[.int .u16 0, .int .u16 0], .agg #[.int .u16 0, .int .u16 0], .int .u32 0, .int .u32 0], []⟩).memory Try.f10.params.toList Rows.eyeNestedSpec.vars false (#[.slice none 0 0, .agg #[.int .u16 0, .int .u16 0], .agg #[.int .u16 0, .int .u16 0], .int .u32 0, .int .u32 0] : Array Value).toList 8 = some ([.nil, .agg [.lit (.int .u16 0), .lit (.int .u16 0)], .agg [.lit (.int .u16 0), .lit (.int .u16 0)], .lit (.int .u32 0), .lit (.int .u32 0)], [], places) :=
  ⟨[], by kernel_rfl⟩

set_option maxRecDepth 100000 in
theorem eyeNested_lifted (os : Os) (started : os.Started) (H : Type) (enc : TypeId × Value → H) (F : Stop.Interp) :
    ReturnsInHanded {} Try.checked os 10 .any ((OpenSpec.ofChange Rows.eyeNestedSpec).preRow enc Try.prog Try.f10 Rows.eyeNestedRow.domain false Rows.eyeNestedRow.laid) (((OpenSpec.ofChange Rows.eyeNestedSpec).at F).post enc Try.prog Try.f10 false true false false) := by
  obtain ⟨places, hx⟩ := eyeNested_reads os enc
  refine returnsInHanded_of_row (C := Try.checked) (s := OpenSpec.ofChange Rows.eyeNestedSpec) own started (by kernel_rfl) Try.func10
    (witness_row_at (enc := enc) (C := Try.checked) false (startWorld os) #[.slice none 0 0, .agg #[.int .u16 0, .int .u16 0], .agg #[.int .u16 0, .int .u16 0], .int .u32 0, .int .u32 0] rfl (by kernel_rfl) (by kernel_rfl) (by kernel_rfl)
      (OpenSpec.preRow_of_cond 8 hx (by kernel_rfl) (fun k hk => by cases hk) (by kernel_rfl) (eyeNested_laid_met os))) ?_
  intro W base args ds gs before hval hW _ _ _ _ _ _
  exact eyeNested_contract H enc W base args ds gs before hval hW

/-- EyeNested, the statement -/
theorem eyeNested_said : Rows.EyeNestedSaid :=
  OpenClaim.holds_of_cond 10 Try.f10 rfl rfl rfl rfl rfl rfl rfl ⟨rfl, rfl, rfl, rfl, rfl⟩ rfl rfl rfl rfl rfl (by kernel_rfl) Try.func10 (by kernel_rfl)
    (of_decide_eq_true (by kernel_rfl)) (by unfold Func.isWrapper; first | (rw [if_pos (by decide +kernel)]; kernel_rfl) | (rw [if_neg (by decide +kernel)]; exact ⟨rfl, rfl⟩))
    (fun os started H enc _ F => by rw [OpenClaim.pre_eq_preRow]; exact eyeNested_lifted os started H enc F)
#print axioms eyeNested_said
end Go.Proofs.Ytcmllkjgggcghaa
end
