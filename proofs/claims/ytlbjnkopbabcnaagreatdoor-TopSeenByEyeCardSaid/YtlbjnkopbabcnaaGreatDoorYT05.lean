/- PT2 YT3 -/
import Derived.Test.YtlbjnkopbabcnaaGreatDoorYT03
import Derived.Test.YtlbjnkopbabcnaaGreatDoorYP40
import Derived.Test.YtlbjnkopbabcnaaGreatDoorYT01
/- How plans read as arguments. -/
section
namespace Go.Proofs.YtlbjnkopbabcnaaGreatDoor
open Go.ChangeShapes Go.WideShapes Go.ChangeAt Go.RowKit
set_option linter.unusedSimpArgs false
set_option linter.unusedVariables false

section
variable {H : Type} {enc : TypeId × Value → H}
variable {W : World} {r : Reach} {b0 base : Nat} {sp : Nat → Bool} {held : Bool} {fuel : Nat} {v : Value} {d : DataW H} {p : List MemPlace} {cs : List Value} {x : DataW H × List MemPlace}
theorem cellsYInt : Tryz.prog.cellsOf 3 = 1 := by kernel_rfl
set_option maxRecDepth 100000 in
theorem slY_intsN (h : DataW.trod enc Tryz.prog W base sp held fuel 59 cs = some x) :
    ∃ (A : Option Addr) (n cap : Nat) (zs : List Int), cs = [.slice A n cap] ∧ Ints W A n zs ∧ n ≤ 9223372036854775807 ∧ n ≤ cap := by
  rcases open_ints Tryz.underlying59 Tryz.underlying3 cellsYInt h with ⟨hcs, _⟩ | ⟨a, len, cap, zs, hcs, _, hl, hm, hz, _, hcell, _⟩
  · exact ⟨none, 0, 0, [], hcs, ⟨rfl, fun h => absurd h (by omega)⟩, by omega, by omega⟩
  · unfold maxLen at hm
    have hlen : len ≤ zs.length := by rw [hz]; split <;> omega
    refine ⟨some a, len, cap, zs.take len, hcs, ⟨by simp; omega, fun hn => ?_⟩, by omega, hl⟩
    obtain ⟨b, off, rfl, hc⟩ := ints_at hcell (by omega)
    refine ⟨b, off, rfl, cell_lt (hc 0 (by omega)), fun i hi => ?_⟩
    rw [hc i (by omega)]
    simp [List.getD_eq_getElem?_getD, List.getElem?_take_of_lt hi]
set_option maxRecDepth 100000 in
theorem slY_rowsN (h : DataW.trod enc Tryz.prog W base sp held fuel 83 cs = some x) :
    ∃ (A : Option Addr) (n cap : Nat) (rs : List (RowR Int)), cs = [.slice A n cap] ∧ RowsI W A n rs ∧ n ≤ 9223372036854775807 ∧ n ≤ cap :=
  slY_rows Tryz.underlying83 (by kernel_rfl) slY_intsN h
set_option maxRecDepth 100000 in
theorem argY_plan (hv : Value.okWide Tryz.prog W r b0 85 v) (h : DataW.Trod enc Tryz.prog W base sp held 85 v d p) :
    ∃ (ch : Int) (R : Option Addr) (m cr : Nat) (ps : List (RowR Int)), v = .agg #[.int .i64 ch, .slice R m cr] ∧ RowsI W R m ps ∧ m ≤ 9223372036854775807 := by
  obtain ⟨cs, rfl, _⟩ := okWide_struct Tryz.underlying85 hv
  obtain ⟨fuel, hf⟩ := h
  obtain ⟨y0, y1, n, _, hl, g0, g1⟩ := trod_struct2 Tryz.underlying85 hf
  rw [show Tryz.prog.cellsOf 85 = 2 by kernel_rfl] at hl
  obtain ⟨e0, e1, hcs⟩ := len_two' hl
  rw [hcs] at g0 g1
  simp only [show Tryz.prog.cellsOf 3 = 1 by kernel_rfl, show Tryz.prog.cellsOf 83 = 1 by kernel_rfl, List.drop_zero, List.drop_succ_cons, List.take_succ_cons, List.take_zero] at g0 g1
  obtain ⟨ch, q0, _, w0⟩ := DataW.trod_int Tryz.underlying3 g0
  obtain ⟨R, m, cr, ps, q1, h1, m1, m1'⟩ := slY_rowsN g1
  simp only [List.cons.injEq, and_true] at q0 q1
  refine ⟨ch, R, m, cr, ps, ?_, h1, m1⟩
  congr 1
  refine Array.ext' ?_
  have : cs.toList = [e0, e1] := by simpa [Value.cells] using hcs
  rw [this, q0, q1]
end
end Go.Proofs.YtlbjnkopbabcnaaGreatDoor
end

/- TopSeenByEye: the call answers true, whatever the input, and every argument reads as it did. Conditions: none of its own; the listed variables are tied to the program's text by the given tie. -/
section
namespace Go.Proofs.YtlbjnkopbabcnaaGreatDoor
open Go.ChangeShapes Go.WideShapes Go.ChangeAt Go.RowKit
set_option linter.unusedVariables false

theorem topSeenByEye_laid : Rows.topSeenByEyeRow.laid = topLaid := by kernel_rfl
theorem topSeenByEye_params : (Tryz.f8.params.toList.all fun t => Tryz.prog.readableRec t && decide (t < Tryz.prog.types.size)) = true := by kernel_rfl

set_option maxRecDepth 100000 in
/-- the walk, for each argument that there is and each world that holds the listed variables -/
theorem topSeenByEye_contract (H : Type) (enc : TypeId × Value → H) (W : World) (base : Nat) (args : Array Value) (ds gs : List (DataW H)) (before : List MemPlace)
    (hval : ∀ (j : Nat) t v, Tryz.f8.params[j]? = some t → args[j]? = some v → Value.okWide Tryz.prog W .any base t v)
    (hW : DataW.Whole enc Tryz.prog Tryz.f8.params.toList Rows.topSeenByEyeSpec.vars false W args.toList ds gs before) (hL : laidMetH Tryz.prog Rows.topSeenByEyeRow.laid W) :
    Calls Tryz.prog 8 args W fun e W' => ∃ v, e = .returned v ∧ Rows.topSeenByEyeSpec.post enc Tryz.prog Tryz.f8 false true false false W args v W' := by
  have hW' := hW
  obtain ⟨p, q, hA0, hV, hps, hfz, hnd⟩ := hW
  have hA : DataW.TrodAll enc Tryz.prog W 0 (fun _ => true) true Tryz.f8.params.toList args.toList ds p := hA0
  rw [Tryz.params8] at hA hval
  obtain ⟨v0, v1, v2, v3, v4, d0, d1, d2, d3, d4, p0, p1, p2, p3, p4, rfl, rfl, rfl, h0, h1, h2, h3, h4⟩ := trodAll_five hA
  have hLL : laidMet Tryz.prog topLaid W := by rw [← topSeenByEye_laid]; exact hL
  have hG := topGlob hLL
  have hf := topFirst hLL
  obtain ⟨E0, m0, ce0, L0, n0, cl0, rs0, ls0, rfl, hl0⟩ := argY_case (hval 0 25 v0 rfl rfl) h0
  obtain ⟨A1, n1, cap1, zs1, rfl, hz1, hn1, hc1⟩ := argY_ints (hval 1 30 v1 rfl rfl) h1
  obtain ⟨A2, n2, cap2, zs2, rfl, hz2, hn2, hc2⟩ := argY_u16s (hval 2 27 v2 rfl rfl) h2
  obtain ⟨ch3, R3, m3, cr3, ps3, rfl, hp3, hm3⟩ := argY_plan (hval 3 85 v3 rfl rfl) h3
  obtain ⟨n4, rfl, _, _, w4⟩ := open_int Tryz.underlying5 (hval 4 5 v4 rfl rfl) h4
  have bd4 := bounds_u8 w4
  clear hA0
  refine (topByEye_any _ _ _ _ _ _ _ _ A1 n1 cap1 zs1 A2 n2 cap2 zs2 ch3 R3 m3 cr3 ps3 n4 W hl0 hz1 hn1 hz2 hn2 hp3 hm3 bd4.1 bd4.2 hG).mono fun e W' ⟨he, hb⟩ => ?_
  subst he
  exact ⟨_, rfl, law_done laidOut rfl (fun t ht => by have := List.all_eq_true.1 topSeenByEye_params t ht; simpa using this) (by kernel_rfl) Tryz.underlying4 hW' (fun h => by subst h; rfl) (fun h => by subst h; rfl) (fun h => by subst h; rfl) hb⟩

theorem topSeenByEye_laid_met (os : Os) : laidMet Tryz.prog Rows.topSeenByEyeRow.laid ((topWorld os).forCall (fun _ _ => 0) ⟨#[], #[.agg #[.slice none 0 0, .slice none 0 0], .slice none 0 0, .slice none 0 0, .agg #[.int .i64 0, .slice none 0 0], .int .u8 0], []⟩).memory :=
  laidMet_of_run' 8 (by kernel_rfl) (by kernel_rfl)
theorem topSeenByEye_reads (os : Os) {H : Type} (enc : TypeId × Value → H) : ∃ places, DataW.whole enc Tryz.prog ((topWorld os).forCall (fun _ _ => 0) ⟨#[], #[.agg #[.slice none 0 0, .slice none 0 0], .slice none 0 0, .slice none 0 0, .agg #[.int .i64 0, .slice none 0 0], .int .u8 0], []⟩).memory Tryz.f8.params.toList Rows.topSeenByEyeSpec.vars false (#[.agg #[.slice none 0 0, .slice none 0 0], .slice none 0 0, .slice none 0 0, .agg #[.int .i64 0, .slice none 0 0], .int .u8 0] : Array Value).toList 8 = some ([.agg [.nil, .nil], .nil, .nil, .agg [.lit (.int .i64 0), .nil], .lit (.int .u8 0)], [], places) :=
  ⟨[], by kernel_rfl⟩

set_option maxRecDepth 100000 in
theorem topSeenByEye_lifted (os : Os) (started : os.Started) (H : Type) (enc : TypeId × Value → H) (F : Stop.Interp) :
    ReturnsInHanded {} Tryz.checked os 8 .any ((OpenSpec.ofChange Rows.topSeenByEyeSpec).preRow enc Tryz.prog Tryz.f8 Rows.topSeenByEyeRow.domain false Rows.topSeenByEyeRow.laid) (((OpenSpec.ofChange Rows.topSeenByEyeSpec).at F).post enc Tryz.prog Tryz.f8 false true false false) := by
  obtain ⟨places, hx⟩ := topSeenByEye_reads os enc
  refine returnsInHanded_of_row (C := Tryz.checked) (s := OpenSpec.ofChange Rows.topSeenByEyeSpec) own started (by kernel_rfl) Tryz.func8
    (witness_row_at (enc := enc) (C := Tryz.checked) false (topWorld os) #[.agg #[.slice none 0 0, .slice none 0 0], .slice none 0 0, .slice none 0 0, .agg #[.int .i64 0, .slice none 0 0], .int .u8 0] rfl (by kernel_rfl) (by kernel_rfl) (by kernel_rfl)
      (OpenSpec.preRow_of_cond 8 hx (by kernel_rfl) (fun k hk => by cases hk) (by kernel_rfl) (topSeenByEye_laid_met os))) ?_
  intro W base args ds gs before hval hW _ _ _ hL _ _
  exact topSeenByEye_contract H enc W base args ds gs before hval hW hL

/-- the closed cells, each by itself: together they need more room than a declaration has -/
theorem topSeenByEye_k1 : (Rows.topSeenByEyeRow.inPlace == Tryz.pinned.checked.prog.inPlace 8) = true := by kernel_rfl
theorem topSeenByEye_k2 : (Rows.topSeenByEyeRow.unfollowed == Tryz.pinned.checked.prog.unfollowed 8) = true := by kernel_rfl
theorem topSeenByEye_k3 : (Rows.topSeenByEyeRow.recurses == Tryz.pinned.checked.prog.recurses 8) = true := by kernel_rfl
theorem topSeenByEye_k4 : (Rows.topSeenByEyeRow.named == Tryz.pinned.checked.prog.varsNamed 8) = true := by kernel_rfl
theorem topSeenByEye_closed : joinedFacts Tryz.pinned.checked.prog 8 Tryz.f8 (OpenSpec.ofChange Rows.topSeenByEyeSpec).bare Rows.topSeenByEyeRow = true := by
  unfold joinedFacts
  rw [topSeenByEye_k1, topSeenByEye_k2, topSeenByEye_k3, topSeenByEye_k4]
  kernel_rfl

theorem topSeenByEye_said : Rows.TopSeenByEyeSaid :=
  OpenClaim.holds_of_cond 8 Tryz.f8 rfl rfl rfl rfl rfl rfl rfl ⟨rfl, rfl, rfl, rfl, rfl⟩ rfl rfl rfl rfl rfl (by kernel_rfl) Tryz.func8 topSeenByEye_closed
    (of_decide_eq_true (by kernel_rfl)) (by unfold Func.isWrapper; first | (rw [if_pos (by decide +kernel)]; kernel_rfl) | (rw [if_neg (by decide +kernel)]; exact ⟨rfl, rfl⟩))
    (fun os started H enc _ F => by rw [OpenClaim.pre_eq_preRow]; exact topSeenByEye_lifted os started H enc F)

theorem topSeenByEye_plain (f : FuncId) (fn : Func) (hf : Tryz.pinned.checked.prog.funcNamed Rows.topSeenByEyeRow.func = some f) (hfn : Tryz.pinned.checked.prog.funcs[f]? = some fn) :
    false = Tryz.pinned.checked.prog.looks [] ∧ ∀ (j : Nat) t, fn.params[j]? = some t → Tryz.pinned.checked.prog.wantsStandIn t = false := by
  obtain rfl : f = 8 := Option.some.inj ((show Tryz.prog.funcNamed Rows.topSeenByEyeRow.func = some 8 by kernel_rfl).symm.trans hf) |>.symm
  obtain rfl : fn = Tryz.f8 := (Option.some.inj (Tryz.func8.symm.trans hfn)).symm
  refine ⟨by kernel_rfl, fun j t ht => ?_⟩
  have hall : (Tryz.f8.params.toList.all fun u => !Tryz.prog.wantsStandIn u) = true := by kernel_rfl
  have hm : t ∈ Tryz.f8.params.toList := by simpa using Array.mem_of_getElem? ht
  exact (show Tryz.prog.wantsStandIn t = false by simpa using List.all_eq_true.1 hall t hm)

/-- TopSeenByEye, the card -/
theorem topSeenByEye_card : Rows.TopSeenByEyeCardSaid :=
  Claim7.holds_tied_plain_at .later [] _ _ _ _ topSeenByEye_said (fun _ h => by cases h) (by kernel_rfl) (fun _ h => by cases h) topSeenByEye_row_tie rfl ⟨rfl, rfl⟩ (by kernel_rfl) rfl topSeenByEye_plain (by kernel_rfl)
#print axioms topSeenByEye_card
end Go.Proofs.YtlbjnkopbabcnaaGreatDoor
end
