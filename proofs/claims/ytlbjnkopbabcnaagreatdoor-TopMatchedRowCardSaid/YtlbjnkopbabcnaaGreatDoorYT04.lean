/- YT2 -/
import Derived.Test.YtlbjnkopbabcnaaGreatDoorYP31
import Derived.Test.YtlbjnkopbabcnaaGreatDoorYT03
import Derived.Test.YtlbjnkopbabcnaaGreatDoorYT01
/- TopMatchedRow: the call answers true, whatever the input, and every argument reads as it did. Conditions: none of its own; the listed variables are tied to the program's text by the given tie. -/
section
namespace Go.Proofs.YtlbjnkopbabcnaaGreatDoor
open Go.ChangeShapes Go.WideShapes Go.ChangeAt Go.RowKit
set_option linter.unusedVariables false

theorem topMatchedRow_laid : Rows.topMatchedRowRow.laid = topLaid := by kernel_rfl
theorem topMatchedRow_params : (Tryz.f6.params.toList.all fun t => Tryz.prog.readableRec t && decide (t < Tryz.prog.types.size)) = true := by kernel_rfl

set_option maxRecDepth 100000 in
/-- the walk, for each argument that there is and each world that holds the listed variables -/
theorem topMatchedRow_contract (H : Type) (enc : TypeId × Value → H) (W : World) (base : Nat) (args : Array Value) (ds gs : List (DataW H)) (before : List MemPlace)
    (hval : ∀ (j : Nat) t v, Tryz.f6.params[j]? = some t → args[j]? = some v → Value.okWide Tryz.prog W .any base t v)
    (hW : DataW.Whole enc Tryz.prog Tryz.f6.params.toList Rows.topMatchedRowSpec.vars false W args.toList ds gs before) (hL : laidMetH Tryz.prog Rows.topMatchedRowRow.laid W) :
    Calls Tryz.prog 6 args W fun e W' => ∃ v, e = .returned v ∧ Rows.topMatchedRowSpec.post enc Tryz.prog Tryz.f6 false true false false W args v W' := by
  have hW' := hW
  obtain ⟨p, q, hA0, hV, hps, hfz, hnd⟩ := hW
  have hA : DataW.TrodAll enc Tryz.prog W 0 (fun _ => true) true Tryz.f6.params.toList args.toList ds p := hA0
  rw [Tryz.params6] at hA hval
  obtain ⟨v0, v1, v2, v3, d0, d1, d2, d3, p0, p1, p2, p3, rfl, rfl, rfl, h0, h1, h2, h3⟩ := trodAll_four_ hA
  have hLL : laidMet Tryz.prog topLaid W := by rw [← topMatchedRow_laid]; exact hL
  have hG := topGlob hLL
  have hf := topFirst hLL
  obtain ⟨E0, m0, ce0, L0, n0, cl0, rs0, ls0, rfl, hl0⟩ := argY_case (hval 0 25 v0 rfl rfl) h0
  obtain ⟨A1, n1, cap1, zs1, rfl, hz1, hn1, hc1⟩ := argY_ints (hval 1 30 v1 rfl rfl) h1
  obtain ⟨A2, n2, cap2, zs2, rfl, hz2, hn2, hc2⟩ := argY_ints (hval 2 30 v2 rfl rfl) h2
  obtain ⟨A3, n3, cap3, zs3, rfl, hz3, hn3, hc3⟩ := argY_u16s (hval 3 27 v3 rfl rfl) h3
  clear hA0
  refine (topMatched_any _ _ _ _ _ _ _ _ A1 n1 cap1 zs1 A2 n2 cap2 zs2 A3 n3 cap3 zs3 W hl0 hz1 hn1 hz2 hn2 hz3 hn3 hG).mono fun e W' ⟨he, hb⟩ => ?_
  subst he
  exact ⟨_, rfl, law_done laidOut rfl (fun t ht => by have := List.all_eq_true.1 topMatchedRow_params t ht; simpa using this) (by kernel_rfl) Tryz.underlying4 hW' (fun h => by subst h; rfl) (fun h => by subst h; rfl) (fun h => by subst h; rfl) hb⟩

theorem topMatchedRow_laid_met (os : Os) : laidMet Tryz.prog Rows.topMatchedRowRow.laid ((topWorld os).forCall (fun _ _ => 0) ⟨#[], #[.agg #[.slice none 0 0, .slice none 0 0], .slice none 0 0, .slice none 0 0, .slice none 0 0], []⟩).memory :=
  laidMet_of_run' 8 (by kernel_rfl) (by kernel_rfl)
theorem topMatchedRow_reads (os : Os) {H : Type} (enc : TypeId × Value → H) : ∃ places, DataW.whole enc Tryz.prog ((topWorld os).forCall (fun _ _ => 0) ⟨#[], #[.agg #[.slice none 0 0, .slice none 0 0], .slice none 0 0, .slice none 0 0, .slice none 0 0], []⟩).memory Tryz.f6.params.toList Rows.topMatchedRowSpec.vars false (#[.agg #[.slice none 0 0, .slice none 0 0], .slice none 0 0, .slice none 0 0, .slice none 0 0] : Array Value).toList 8 = some ([.agg [.nil, .nil], .nil, .nil, .nil], [], places) :=
  ⟨[], by kernel_rfl⟩

set_option maxRecDepth 100000 in
theorem topMatchedRow_lifted (os : Os) (started : os.Started) (H : Type) (enc : TypeId × Value → H) (F : Stop.Interp) :
    ReturnsInHanded {} Tryz.checked os 6 .any ((OpenSpec.ofChange Rows.topMatchedRowSpec).preRow enc Tryz.prog Tryz.f6 Rows.topMatchedRowRow.domain false Rows.topMatchedRowRow.laid) (((OpenSpec.ofChange Rows.topMatchedRowSpec).at F).post enc Tryz.prog Tryz.f6 false true false false) := by
  obtain ⟨places, hx⟩ := topMatchedRow_reads os enc
  refine returnsInHanded_of_row (C := Tryz.checked) (s := OpenSpec.ofChange Rows.topMatchedRowSpec) own started (by kernel_rfl) Tryz.func6
    (witness_row_at (enc := enc) (C := Tryz.checked) false (topWorld os) #[.agg #[.slice none 0 0, .slice none 0 0], .slice none 0 0, .slice none 0 0, .slice none 0 0] rfl (by kernel_rfl) (by kernel_rfl) (by kernel_rfl)
      (OpenSpec.preRow_of_cond 8 hx (by kernel_rfl) (fun k hk => by cases hk) (by kernel_rfl) (topMatchedRow_laid_met os))) ?_
  intro W base args ds gs before hval hW _ _ _ hL _ _
  exact topMatchedRow_contract H enc W base args ds gs before hval hW hL

/-- the closed cells, each by itself: together they need more room than a declaration has -/
theorem topMatchedRow_k1 : (Rows.topMatchedRowRow.inPlace == Tryz.pinned.checked.prog.inPlace 6) = true := by kernel_rfl
theorem topMatchedRow_k2 : (Rows.topMatchedRowRow.unfollowed == Tryz.pinned.checked.prog.unfollowed 6) = true := by kernel_rfl
theorem topMatchedRow_k3 : (Rows.topMatchedRowRow.recurses == Tryz.pinned.checked.prog.recurses 6) = true := by kernel_rfl
theorem topMatchedRow_k4 : (Rows.topMatchedRowRow.named == Tryz.pinned.checked.prog.varsNamed 6) = true := by kernel_rfl
theorem topMatchedRow_closed : joinedFacts Tryz.pinned.checked.prog 6 Tryz.f6 (OpenSpec.ofChange Rows.topMatchedRowSpec).bare Rows.topMatchedRowRow = true := by
  unfold joinedFacts
  rw [topMatchedRow_k1, topMatchedRow_k2, topMatchedRow_k3, topMatchedRow_k4]
  kernel_rfl

theorem topMatchedRow_said : Rows.TopMatchedRowSaid :=
  OpenClaim.holds_of_cond 6 Tryz.f6 rfl rfl rfl rfl rfl rfl rfl ⟨rfl, rfl, rfl, rfl, rfl⟩ rfl rfl rfl rfl rfl (by kernel_rfl) Tryz.func6 topMatchedRow_closed
    (of_decide_eq_true (by kernel_rfl)) (by unfold Func.isWrapper; first | (rw [if_pos (by decide +kernel)]; kernel_rfl) | (rw [if_neg (by decide +kernel)]; exact ⟨rfl, rfl⟩))
    (fun os started H enc _ F => by rw [OpenClaim.pre_eq_preRow]; exact topMatchedRow_lifted os started H enc F)

theorem topMatchedRow_plain (f : FuncId) (fn : Func) (hf : Tryz.pinned.checked.prog.funcNamed Rows.topMatchedRowRow.func = some f) (hfn : Tryz.pinned.checked.prog.funcs[f]? = some fn) :
    false = Tryz.pinned.checked.prog.looks [] ∧ ∀ (j : Nat) t, fn.params[j]? = some t → Tryz.pinned.checked.prog.wantsStandIn t = false := by
  obtain rfl : f = 6 := Option.some.inj ((show Tryz.prog.funcNamed Rows.topMatchedRowRow.func = some 6 by kernel_rfl).symm.trans hf) |>.symm
  obtain rfl : fn = Tryz.f6 := (Option.some.inj (Tryz.func6.symm.trans hfn)).symm
  refine ⟨by kernel_rfl, fun j t ht => ?_⟩
  have hall : (Tryz.f6.params.toList.all fun u => !Tryz.prog.wantsStandIn u) = true := by kernel_rfl
  have hm : t ∈ Tryz.f6.params.toList := by simpa using Array.mem_of_getElem? ht
  exact (show Tryz.prog.wantsStandIn t = false by simpa using List.all_eq_true.1 hall t hm)

/-- TopMatchedRow, the card -/
theorem topMatchedRow_card : Rows.TopMatchedRowCardSaid :=
  Claim7.holds_tied_plain_at .later [] _ _ _ _ topMatchedRow_said (fun _ h => by cases h) (by kernel_rfl) (fun _ h => by cases h) topMatchedRow_row_tie rfl ⟨rfl, rfl⟩ (by kernel_rfl) rfl topMatchedRow_plain (by kernel_rfl)
#print axioms topMatchedRow_card
end Go.Proofs.YtlbjnkopbabcnaaGreatDoor
end
