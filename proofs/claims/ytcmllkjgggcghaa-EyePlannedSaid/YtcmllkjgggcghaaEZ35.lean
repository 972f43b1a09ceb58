/- ET05 -/
import Derived.Test.YtcmllkjgggcghaaEZ25
import Derived.Test.YtcmllkjgggcghaaEZ24
import Derived.Test.YtcmllkjgggcghaaEZ18
import Derived.LaidLaws
/- EyePlanned: the call answers true, whatever the input, and every argument reads as it did. -/
section
namespace Go.Proofs.Ytcmllkjgggcghaa
open Go.ChangeShapes Go.WideShapes Go.ChangeAt Go.RowKit
set_option linter.unusedVariables false

theorem eyePlanned_params : (Try.f7.params.toList.all fun t => Try.prog.readableRec t && decide (t < Try.prog.types.size)) = true := by kernel_rfl

set_option maxRecDepth 100000 in
/-- the walk, for each argument that there is -/
theorem eyePlanned_contract (H : Type) (enc : TypeId × Value → H) (W : World) (base : Nat) (args : Array Value) (ds gs : List (DataW H)) (before : List MemPlace)
    (hval : ∀ (j : Nat) t v, Try.f7.params[j]? = some t → args[j]? = some v → Value.okWide Try.prog W .any base t v)
    (hW : DataW.Whole enc Try.prog Try.f7.params.toList Rows.eyePlannedSpec.vars false W args.toList ds gs before) :
    Calls Try.prog 7 args W fun e W' => ∃ v, e = .returned v ∧ Rows.eyePlannedSpec.post enc Try.prog Try.f7 false true false false W args v W' := by
  have hW' := hW
  obtain ⟨p, q, hA0, hV, hps, hfz, hnd⟩ := hW
  have hA : DataW.TrodAll enc Try.prog W 0 (fun _ => true) true Try.f7.params.toList args.toList ds p := hA0
  rw [Try.params7] at hA hval
  obtain ⟨v0, v1, v2, v3, v4, v5, v6, d0, d1, d2, d3, d4, d5, d6, p0, p1, p2, p3, p4, p5, p6, rfl, rfl, rfl, h0, h1, h2, h3, h4, h5, h6⟩ := trodAll_seven hA
  obtain ⟨a0, b0, rfl, wa0, wb0⟩ := arg_u8x2 (hval 0 44 v0 rfl rfl) h0
  obtain ⟨a1, b1, rfl, wa1, wb1⟩ := arg_u8x2 (hval 1 44 v1 rfl rfl) h1
  obtain ⟨a2, b2, rfl, wa2, wb2⟩ := arg_u32x2 (hval 2 51 v2 rfl rfl) h2
  obtain ⟨a3, b3, rfl, wa3, wb3⟩ := arg_u32x2 (hval 3 51 v3 rfl rfl) h3
  obtain ⟨n4, rfl, _, _, w4⟩ := open_int Try.underlying52 (hval 4 52 v4 rfl rfl) h4
  have bd4 := bounds_u16 w4
  obtain ⟨n5, rfl, _, _, w5⟩ := open_int Try.underlying5 (hval 5 5 v5 rfl rfl) h5
  have bd5 := bounds_u8 w5
  obtain ⟨n6, rfl, _, _, w6⟩ := open_int Try.underlying5 (hval 6 5 v6 rfl rfl) h6
  have bd6 := bounds_u8 w6
  clear hA0
  refine (eyePlanned_any a0 b0 a1 b1 a2 b2 a3 b3 n4 n5 n6 W wa0 wb0 wa1 wb1 wa2 wb2 wa3 wb3 bd4 bd5 bd6).mono fun e W' ⟨he, hb⟩ => ?_
  subst he
  exact ⟨_, rfl, law_done rk_laid rfl (fun t ht => by have := List.all_eq_true.1 eyePlanned_params t ht; simpa using this) (by kernel_rfl) Try.underlying4 hW' (fun h => by subst h; rfl) (fun h => by subst h; rfl) (fun h => by subst h; rfl) hb⟩

theorem eyePlanned_laid_met (os : Os) : laidMet Try.prog Rows.eyePlannedRow.laid ((startWorld os).forCall (fun _ _ => 0) ⟨#[], #[.agg #[.int .u8 0, .int .u8 0], .agg #[.int .u8 0, .int .u8 0], .agg #[.int .u32 0, .int .u32 0], .agg #[.int .u32 0, .int .u32 0], .int .u16 0, .int .u8 0, .int .u8 0], []⟩).memory :=
  laidMet_of_run' 8 (by kernel_rfl) (by kernel_rfl)
theorem eyePlanned_reads (os : Os) {H : Type} (enc : TypeId × Value → H) : ∃ places, DataW.whole enc Try.prog ((startWorld os).forCall (fun _ _ => 0) ⟨#[], #[.agg #[.int .u8 0, .int .u8 0], .agg #[.int .u8 0, .int .u8 0], .agg #[.int .u32 0, .int .u32 0], .agg #[.int .u32 0, .int .u32 0], .int .u16 0, .int .u8 0, .int .u8 0], []⟩).memory Try.f7.params.toList Rows.eyePlannedSpec.vars false (#[.agg #[.int .u8 0, .int .u8 0], .agg #[.int .u8 0, .int .u8 0], .agg #[.int .u32 0, .int .u32 0], .agg #[.int .u32 0, .int .u32 0], .int .u16 0, .int .u8 0, .int .u8 0] : Array Value).toList 8 = some ([.agg [.lit (.int .u8 0), .lit (.int .u8 0)], .agg [.lit (.int .u8 0), .lit (.int .u8 0)], .agg [.lit (.int .u32 0), .lit (.int .u32 0)], .agg [.lit (.int .u32 0), .lit (.int .u32 0)], .lit (.int .u16 0), .lit (.int .u8 0), .lit (.int .u8 0)], [], places) :=
  ⟨[], by kernel_rfl⟩

set_option maxRecDepth 100000 in
theorem eyePlanned_lifted (os : Os) (started : os.Started) (H : Type) (enc : TypeId × Value → H) (F : Stop.Interp) :
    ReturnsInHanded {} Try.checked os 7 .any ((OpenSpec.ofChange Rows.eyePlannedSpec).preRow enc Try.prog Try.f7 Rows.eyePlannedRow.domain false Rows.eyePlannedRow.laid) (((OpenSpec.ofChange Rows.eyePlannedSpec).at F).post enc Try.prog Try.f7 false true false false) := by
  obtain ⟨places, hx⟩ := eyePlanned_reads os enc
  refine returnsInHanded_of_row (C := Try.checked) (s := OpenSpec.ofChange Rows.eyePlannedSpec) own started (by kernel_rfl) Try.func7
    (witness_row_at (enc := enc) (C := Try.checked) false (startWorld os) #[.agg #[.int .u8 0, .int .u8 0], .agg #[.int .u8 0, .int .u8 0], .agg #[.int .u32 0, .int .u32 0], .agg #[.int .u32 0, .int .u32 0], .int .u16 0, .int .u8 0, .int .u8 0] rfl (by kernel_rfl) (by kernel_rfl) (by kernel_rfl)
      (OpenSpec.preRow_of_cond 8 hx (by kernel_rfl) (fun k hk => by cases hk) (by kernel_rfl) (eyePlanned_laid_met os))) ?_
  intro W base args ds gs before hval hW _ _ _ _ _ _
  exact eyePlanned_contract H enc W base args ds gs before hval hW

/-- EyePlanned, the statement -/
theorem eyePlanned_said : Rows.EyePlannedSaid :=
  OpenClaim.holds_of_cond 7 Try.f7 rfl rfl rfl rfl rfl rfl rfl ⟨rfl, rfl, rfl, rfl, rfl⟩ rfl rfl rfl rfl rfl (by kernel_rfl) Try.func7 (by kernel_rfl)
    (of_decide_eq_true (by kernel_rfl)) (by unfold Func.isWrapper; first | (rw [if_pos (by decide +kernel)]; kernel_rfl) | (rw [if_neg (by decide +kernel)]; exact ⟨rfl, rfl⟩))
    (fun os started H enc _ F => by rw [OpenClaim.pre_eq_preRow]; exact eyePlanned_lifted os started H enc F)
#print axioms eyePlanned_said
end Go.Proofs.Ytcmllkjgggcghaa
end
