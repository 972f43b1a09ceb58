/- UnitNeighbours: the call answers true, whatever the input, and every argument reads as it did. Conditions: none of its own; the listed variable is tied to the program's text by the given tie. -/
import Derived.Test.YtkjoamindolonaaDoorL09
import Derived.Test.YtkjoamindolonaaDoorUTie
namespace Go.Proofs.YtkjoamindolonaaDoor
open Go.ChangeShapes Go.WideShapes Go.ChangeAt Go.RowKit
set_option linter.unusedVariables false

theorem unitNeighbours_params : (Tryd.f11.params.toList.all fun t => Tryd.prog.readableRec t && decide (t < Tryd.prog.types.size)) = true := by kernel_rfl

/-- the walk, for each argument that there is and each world that holds the listed variable -/
theorem unitNeighbours_contract (H : Type) (enc : TypeId × Value → H) (W : World) (base : Nat) (args : Array Value) (ds gs : List (DataW H)) (before : List MemPlace)
    (hval : ∀ (j : Nat) t v, Tryd.f11.params[j]? = some t → args[j]? = some v → Value.okWide Tryd.prog W .any base t v)
    (hW : DataW.Whole enc Tryd.prog Tryd.f11.params.toList Rows.unitNeighboursSpec.vars false W args.toList ds gs before) (hL : laidMetH Tryd.prog Rows.unitNeighboursRow.laid W) :
    Calls Tryd.prog 11 args W fun e W' => ∃ v, e = .returned v ∧ Rows.unitNeighboursSpec.post enc Tryd.prog Tryd.f11 false true false false W args v W' := by
  have hW' := hW
  obtain ⟨p, q, hA0, hV, hps, hfz, hnd⟩ := hW
  have hA : DataW.TrodAll enc Tryd.prog W 0 (fun _ => true) true Tryd.f11.params.toList args.toList ds p := hA0
  rw [Tryd.params11] at hA hval
  obtain ⟨v0, v1, v2, v3, d0, d1, d2, d3, p0, p1, p2, p3, rfl, rfl, rfl, h0, h1, h2, h3⟩ := trodAll_four hA
  have hf := firstAt hL
  obtain ⟨n0, rfl, _, _, w0⟩ := open_int Tryd.underlying56 (hval 0 56 v0 rfl rfl) h0
  have bd0 := bounds_u32 w0
  obtain ⟨n1, rfl, _, _, w1⟩ := open_int Tryd.underlying51 (hval 1 51 v1 rfl rfl) h1
  have bd1 := bounds_u16 w1
  obtain ⟨n2, rfl, _, _, w2⟩ := open_int Tryd.underlying51 (hval 2 51 v2 rfl rfl) h2
  have bd2 := bounds_u16 w2
  obtain ⟨a3, b3, rfl, _, _⟩ := arg_rat (hval 3 23 v3 rfl rfl) h3
  clear hA0
  refine (unitNeighbours_any n0 n1 n2 a3 b3 W bd0.1 bd0.2 bd1.1 bd1.2 bd2.1 bd2.2 hf).mono fun e W' ⟨he, hb⟩ => ?_
  subst he
  exact ⟨_, rfl, law_done laidOut rfl (fun t ht => by have := List.all_eq_true.1 unitNeighbours_params t ht; simpa using this) (by kernel_rfl) Tryd.underlying4 hW' (fun h => by subst h; rfl) (fun h => by subst h; rfl) (fun h => by subst h; rfl) hb⟩

theorem unitNeighbours_laid_met (os : Os) : laidMet Tryd.prog Rows.unitNeighboursRow.laid ((laidWorld os).forCall (fun _ _ => 0) ⟨#[], #[.int .u32 0, .int .u16 0, .int .u16 0, .agg #[.int .i64 0, .int .i64 0]], []⟩).memory :=
  laidMet_of_run' 8 (by kernel_rfl) (by kernel_rfl)
theorem unitNeighbours_reads (os : Os) {H : Type} (enc : TypeId × Value → H) : ∃ places, DataW.whole enc Tryd.prog ((laidWorld os).forCall (fun _ _ => 0) ⟨#[], #[.int .u32 0, .int .u16 0, .int .u16 0, .agg #[.int .i64 0, .int .i64 0]], []⟩).memory Tryd.f11.params.toList Rows.unitNeighboursSpec.vars false (#[.int .u32 0, .int .u16 0, .int .u16 0, .agg #[.int .i64 0, .int .i64 0]] : Array Value).toList 8 = some ([.lit (.int .u32 0), .lit (.int .u16 0), .lit (.int .u16 0), .agg [.lit (.int .i64 0), .lit (.int .i64 0)]], [], places) :=
  ⟨[], by kernel_rfl⟩

set_option maxRecDepth 100000 in
theorem unitNeighbours_lifted (os : Os) (started : os.Started) (H : Type) (enc : TypeId × Value → H) (F : Stop.Interp) :
    ReturnsInHanded {} Tryd.checked os 11 .any ((OpenSpec.ofChange Rows.unitNeighboursSpec).preRow enc Tryd.prog Tryd.f11 Rows.unitNeighboursRow.domain false Rows.unitNeighboursRow.laid) (((OpenSpec.ofChange Rows.unitNeighboursSpec).at F).post enc Tryd.prog Tryd.f11 false true false false) := by
  obtain ⟨places, hx⟩ := unitNeighbours_reads os enc
  refine returnsInHanded_of_row (C := Tryd.checked) (s := OpenSpec.ofChange Rows.unitNeighboursSpec) own started (by kernel_rfl) Tryd.func11
    (witness_row_at (enc := enc) (C := Tryd.checked) false (laidWorld os) #[.int .u32 0, .int .u16 0, .int .u16 0, .agg #[.int .i64 0, .int .i64 0]] rfl (by kernel_rfl) (by kernel_rfl) (by kernel_rfl)
      (OpenSpec.preRow_of_cond 8 hx (by kernel_rfl) (fun k hk => by cases hk) (by kernel_rfl) (unitNeighbours_laid_met os))) ?_
  intro W base args ds gs before hval hW _ _ _ hL _ _
  exact unitNeighbours_contract H enc W base args ds gs before hval hW hL

theorem unitNeighbours_said : Rows.UnitNeighboursSaid :=
  OpenClaim.holds_of_cond 11 Tryd.f11 rfl rfl rfl rfl rfl rfl rfl ⟨rfl, rfl, rfl, rfl, rfl⟩ rfl rfl rfl rfl rfl (by kernel_rfl) Tryd.func11 (by kernel_rfl)
    (of_decide_eq_true (by kernel_rfl)) (by unfold Func.isWrapper; first | (rw [if_pos (by decide +kernel)]; kernel_rfl) | (rw [if_neg (by decide +kernel)]; exact ⟨rfl, rfl⟩))
    (fun os started H enc _ F => by rw [OpenClaim.pre_eq_preRow]; exact unitNeighbours_lifted os started H enc F)

theorem unitNeighbours_plain (f : FuncId) (fn : Func) (hf : Tryd.pinned.checked.prog.funcNamed Rows.unitNeighboursRow.func = some f) (hfn : Tryd.pinned.checked.prog.funcs[f]? = some fn) :
    false = Tryd.pinned.checked.prog.looks [] ∧ ∀ (j : Nat) t, fn.params[j]? = some t → Tryd.pinned.checked.prog.wantsStandIn t = false := by
  obtain rfl : f = 11 := Option.some.inj ((show Tryd.prog.funcNamed Rows.unitNeighboursRow.func = some 11 by kernel_rfl).symm.trans hf) |>.symm
  obtain rfl : fn = Tryd.f11 := (Option.some.inj (Tryd.func11.symm.trans hfn)).symm
  refine ⟨by kernel_rfl, fun j t ht => ?_⟩
  have hall : (Tryd.f11.params.toList.all fun u => !Tryd.prog.wantsStandIn u) = true := by kernel_rfl
  have hm : t ∈ Tryd.f11.params.toList := by simpa using Array.mem_of_getElem? ht
  exact (show Tryd.prog.wantsStandIn t = false by simpa using List.all_eq_true.1 hall t hm)

/-- UnitNeighbours, the card -/
theorem unitNeighbours_card : Rows.UnitNeighboursCardSaid :=
  Claim7.holds_tied_plain_at .later [] _ _ _ _ unitNeighbours_said (fun _ h => by cases h) (by kernel_rfl) (fun _ h => by cases h) unitNeighbours_row_tie rfl ⟨rfl, rfl⟩ (by kernel_rfl) rfl unitNeighbours_plain (by kernel_rfl)
#print axioms unitNeighbours_card
end Go.Proofs.YtkjoamindolonaaDoor
