/- YT1 -/
import Derived.Test.YtlbjnkopbabcnaaGreatDoorYP25
import Derived.Test.YtlbjnkopbabcnaaGreatDoorYT03
import Derived.Test.YtlbjnkopbabcnaaGreatDoorYT01
/- TopSeenPlaces: the call answers true, whatever the input, and every argument reads as it did. Conditions: none of its own; the listed variables are tied to the program's text by the given tie. -/
section
namespace Go.Proofs.YtlbjnkopbabcnaaGreatDoor
open Go.ChangeShapes Go.WideShapes Go.ChangeAt Go.RowKit
set_option linter.unusedVariables false

theorem topSeenPlaces_laid : Rows.topSeenPlacesRow.laid = topLaid := by kernel_rfl
theorem topSeenPlaces_params : (Tryz.f3.params.toList.all fun t => Tryz.prog.readableRec t && decide (t < Tryz.prog.types.size)) = true := by kernel_rfl

set_option maxRecDepth 100000 in
/-- the walk, for each argument that there is and each world that holds the listed variables -/
theorem topSeenPlaces_contract (H : Type) (enc : TypeId × Value → H) (W : World) (base : Nat) (args : Array Value) (ds gs : List (DataW H)) (before : List MemPlace)
    (hval : ∀ (j : Nat) t v, Tryz.f3.params[j]? = some t → args[j]? = some v → Value.okWide Tryz.prog W .any base t v)
    (hW : DataW.Whole enc Tryz.prog Tryz.f3.params.toList Rows.topSeenPlacesSpec.vars false W args.toList ds gs before) (hL : laidMetH Tryz.prog Rows.topSeenPlacesRow.laid W) :
    Calls Tryz.prog 3 args W fun e W' => ∃ v, e = .returned v ∧ Rows.topSeenPlacesSpec.post enc Tryz.prog Tryz.f3 false true false false W args v W' := by
  have hW' := hW
  obtain ⟨p, q, hA0, hV, hps, hfz, hnd⟩ := hW
  have hA : DataW.TrodAll enc Tryz.prog W 0 (fun _ => true) true Tryz.f3.params.toList args.toList ds p := hA0
  rw [Tryz.params3] at hA hval
  obtain ⟨v0, v1, v2, v3, v4, d0, d1, d2, d3, d4, p0, p1, p2, p3, p4, rfl, rfl, rfl, h0, h1, h2, h3, h4⟩ := trodAll_five hA
  have hLL : laidMet Tryz.prog topLaid W := by rw [← topSeenPlaces_laid]; exact hL
  have hG := topGlob hLL
  have hf := topFirst hLL
  obtain ⟨E0, m0, ce0, L0, n0, cl0, rs0, ls0, rfl, hl0⟩ := argY_case (hval 0 25 v0 rfl rfl) h0
  obtain ⟨A1, n1, cap1, zs1, rfl, hz1, hn1, hc1⟩ := argY_rowsI (hval 1 26 v1 rfl rfl) h1
  obtain ⟨A2, n2, cap2, zs2, rfl, hz2, hn2, hc2⟩ := argY_u16s (hval 2 27 v2 rfl rfl) h2
  obtain ⟨n3, rfl, _, _, w3⟩ := open_int Tryz.underlying5 (hval 3 5 v3 rfl rfl) h3
  have bd3 := bounds_u8 w3
  obtain ⟨n4, rfl, _, _, w4⟩ := open_int Tryz.underlying5 (hval 4 5 v4 rfl rfl) h4
  have bd4 := bounds_u8 w4
  clear hA0
  refine (topSeen_any _ _ _ _ _ _ _ _ A1 n1 cap1 zs1 A2 n2 cap2 zs2 n3 n4 W hl0 hz1 hn1 hz2 hn2 bd3.1 bd3.2 bd4.1 bd4.2 hG).mono fun e W' ⟨he, hb⟩ => ?_
  subst he
  exact ⟨_, rfl, law_done laidOut rfl (fun t ht => by have := List.all_eq_true.1 topSeenPlaces_params t ht; simpa using this) (by kernel_rfl) Tryz.underlying4 hW' (fun h => by subst h; rfl) (fun h => by subst h; rfl) (fun h => by subst h; rfl) hb⟩

theorem topSeenPlaces_laid_met (os : Os) : laidMet Tryz.prog Rows.topSeenPlacesRow.laid ((topWorld os).forCall (fun _ _ => 0) ⟨#[], #[.agg #[.slice none 0 0, .slice none 0 0], .slice none 0 0, .slice none 0 0, .int .u8 0, .int .u8 0], []⟩).memory :=
  laidMet_of_run' 8 (by kernel_rfl) (by kernel_rfl)
theorem topSeenPlaces_reads (os : Os) {H : Type} (enc : TypeId × Value → H) : ∃ places, DataW.whole enc Tryz.prog ((topWorld os).forCall (fun _ _ => 0) ⟨#[], #[.agg #[.slice none 0 0, .slice none 0 0], .slice none 0 0, .slice none 0 0, .int .u8 0, .int .u8 0], []⟩).memory Tryz.f3.params.toList Rows.topSeenPlacesSpec.vars false (#[.agg #[.slice none 0 0, .slice none 0 0], .slice none 0 0, .slice none 0 0, .int .u8 0, .int .u8 0] : Array Value).toList 8 = some ([.agg [.nil, .nil], .nil, .nil, .lit (.int .u8 0), .lit (.int .u8 0)], [], places) :=
  ⟨[], by kernel_rfl⟩

set_option maxRecDepth 100000 in
theorem topSeenPlaces_lifted (os : Os) (started : os.Started) (H : Type) (enc : TypeId × Value → H) (F : Stop.Interp) :
    ReturnsInHanded {} Tryz.checked os 3 .any ((OpenSpec.ofChange Rows.topSeenPlacesSpec).preRow enc Tryz.prog Tryz.f3 Rows.topSeenPlacesRow.domain false Rows.topSeenPlacesRow.laid) (((OpenSpec.ofChange Rows.topSeenPlacesSpec).at F).post enc Tryz.prog Tryz.f3 false true false false) := by
  obtain ⟨places, hx⟩ := topSeenPlaces_reads os enc
  refine returnsInHanded_of_row (C := Tryz.checked) (s := OpenSpec.ofChange Rows.topSeenPlacesSpec) own started (by kernel_rfl) Tryz.func3
    (witness_row_at (enc := enc) (C := Tryz.checked) false (topWorld os) #[.agg #[.slice none 0 0, .slice none 0 0], .slice none 0 0, .slice none 0 0, .int .u8 0, .int .u8 0] rfl (by kernel_rfl) (by kernel_rfl) (by kernel_rfl)
      (OpenSpec.preRow_of_cond 8 hx (by kernel_rfl) (fun k hk => by cases hk) (by kernel_rfl) (topSeenPlaces_laid_met os))) ?_
  intro W base args ds gs before hval hW _ _ _ hL _ _
  exact topSeenPlaces_contract H enc W base args ds gs before hval hW hL

/-- the closed cells, each by itself: together they need more room than a declaration has -/
theorem topSeenPlaces_k1 : (Rows.topSeenPlacesRow.inPlace == Tryz.pinned.checked.prog.inPlace 3) = true := by kernel_rfl
theorem topSeenPlaces_k2 : (Rows.topSeenPlacesRow.unfollowed == Tryz.pinned.checked.prog.unfollowed 3) = true := by kernel_rfl
theorem topSeenPlaces_k3 : (Rows.topSeenPlacesRow.recurses == Tryz.pinned.checked.prog.recurses 3) = true := by kernel_rfl
theorem topSeenPlaces_k4 : (Rows.topSeenPlacesRow.named == Tryz.pinned.checked.prog.varsNamed 3) = true := by kernel_rfl
theorem topSeenPlaces_closed : joinedFacts Tryz.pinned.checked.prog 3 Tryz.f3 (OpenSpec.ofChange Rows.topSeenPlacesSpec).bare Rows.topSeenPlacesRow = true := by
  unfold joinedFacts
  rw [topSeenPlaces_k1, topSeenPlaces_k2, topSeenPlaces_k3, topSeenPlaces_k4]
  kernel_rfl

theorem topSeenPlaces_said : Rows.TopSeenPlacesSaid :=
  OpenClaim.holds_of_cond 3 Tryz.f3 rfl rfl rfl rfl rfl rfl rfl ⟨rfl, rfl, rfl, rfl, rfl⟩ rfl rfl rfl rfl rfl (by kernel_rfl) Tryz.func3 topSeenPlaces_closed
    (of_decide_eq_true (by kernel_rfl)) (by unfold Func.isWrapper; first | (rw [if_pos (by decide +kernel)]; kernel_rfl) | (rw [if_neg (by decide +kernel)]; exact ⟨rfl, rfl⟩))
    (fun os started H enc _ F => by rw [OpenClaim.pre_eq_preRow]; exact topSeenPlaces_lifted os started H enc F)

theorem topSeenPlaces_plain (f : FuncId) (fn : Func) (hf : Tryz.pinned.checked.prog.funcNamed Rows.topSeenPlacesRow.func = some f) (hfn : Tryz.pinned.checked.prog.funcs[f]? = some fn) :
    false = Tryz.pinned.checked.prog.looks [] ∧ ∀ (j : Nat) t, fn.params[j]? = some t → Tryz.pinned.checked.prog.wantsStandIn t = false := by
  obtain rfl : f = 3 := Option.some.inj ((show Tryz.prog.funcNamed Rows.topSeenPlacesRow.func = some 3 by kernel_rfl).symm.trans hf) |>.symm
  obtain rfl : fn = Tryz.f3 := (Option.some.inj (Tryz.func3.symm.trans hfn)).symm
  refine ⟨by kernel_rfl, fun j t ht => ?_⟩
  have hall : (Tryz.f3.params.toList.all fun u => !Tryz.prog.wantsStandIn u) = true := by kernel_rfl
  have hm : t ∈ Tryz.f3.params.toList := by simpa using Array.mem_of_getElem? ht
  exact (show Tryz.prog.wantsStandIn t = false by simpa using List.all_eq_true.1 hall t hm)

/-- TopSeenPlaces, the card -/
theorem topSeenPlaces_card : Rows.TopSeenPlacesCardSaid :=
  Claim7.holds_tied_plain_at .later [] _ _ _ _ topSeenPlaces_said (fun _ h => by cases h) (by kernel_rfl) (fun _ h => by cases h) topSeenPlaces_row_tie rfl ⟨rfl, rfl⟩ (by kernel_rfl) rfl topSeenPlaces_plain (by kernel_rfl)
#print axioms topSeenPlaces_card
end Go.Proofs.YtlbjnkopbabcnaaGreatDoor
end
