/- PD3 -/
import Derived.Test.YtlbjnkopbabcnaaGreatDoorYP12
/- Walks of package metamer: Numbers. -/
section
namespace Go.Proofs.YtlbjnkopbabcnaaGreatDoor
open Go.RowKit Go.Shelf
set_option linter.unusedSimpArgs false
set_option linter.unusedVariables false

@[local go_sem] theorem sl_nil (a : Addr) (n c : Nat) (w : World) : (binOp .eql 30 (.slice (some a) n c) (.slice none 0 0)).run Tryz.prog w = .ok (.bool false) w := by
  have h : (Op.equal 30 (.slice (some a) n c) (.slice none 0 0)).run Tryz.prog w = .ok false w := by
    unfold Op.equal
    rw [show Op.maxDepth = 9999 + 1 from rfl]
    generalize 9999 = d
    simp [Op.equalIn, run_underlying Tryz.underlying30]
  have hb : binOp .eql 30 (.slice (some a) n c) (.slice none 0 0) = (do pure (.bool (← Op.equal 30 (.slice (some a) n c) (.slice none 0 0)))) := rfl
  rw [hb]
  simp only [Sem.run_bind, h, Result.andThen_ok, Sem.run_pure]
set_option maxRecDepth 100000 in
set_option maxHeartbeats 2000000 in
theorem cloneI_any (g o m c : Nat) (zs : List Int) (w : World) (hz : Ints w (some ⟨g, o, none⟩) m zs) (hm : 0 < m) (hm2 : m ≤ 1000) :
    Calls Tryz.prog 59 #[.slice (some ⟨g, o, none⟩) m c] w fun e w' => ∃ g' c', e = .returned (.slice (some ⟨g', 0, none⟩) m c') ∧ Ints w' (some ⟨g', 0, none⟩) m zs ∧ m ≤ c' ∧ w.heap.size ≤ g' ∧ Below w.heap.size w w' := by
  have h1 : Ints (w.alloc (.cells #[] 2)) (some ⟨g, o, none⟩) m zs := hz.alloc _
  obtain ⟨c', W', hr, hO, hb, hlt, hc⟩ := app_empty (b := w.heap.size) (cc := c) h1 hm hm2
  have hl := hz.1
  have hI : Ints W' (some ⟨(w.alloc (.cells #[] 2)).heap.size, 0, none⟩) m zs := by
    obtain ⟨A', c2, e, hI, _⟩ := own_ints hl hO
    injection e with e _ _
    subst e
    exact hI
  have hbF : Below w.heap.size w W' := (balloc (Below.refl _ _) _ : Below w.heap.size w (w.alloc (.cells #[] 2))).trans (hb.mono (by simp))
  have HI := Lib.hid hI
  have HR := Lib.hid hr
  have HbF := Lib.hid hbF
  clear hz h1 hO hb hl hI hr hbF hlt
  go_enter Tryz.func59, Tryz.ntmps59
  go_wp2_with (at_builtin; refine list_app rfl _ _ rfl (by rfl) (by rfl) HR.out ?_)
  go_ret
  exact ⟨_, c', rfl, by simpa using HI.out, hc, by omega, HbF.out⟩

theorem RowsI.new1 (w : World) (H : Nat) (A : Option Addr) (n c : Nat) (zs : List Int) (t : TypeId) (hH : w.heap.size = H) (hz : Ints w A n zs) (hn : n ≤ 9223372036854775807) : RowsI (w.alloc (.cells #[.slice A n c] t)) (some ⟨H, 0, none⟩) 1 [⟨A, n, c, zs⟩] := by
  subst hH
  refine ⟨rfl, fun _ => ⟨w.heap.size, 0, rfl, by simp, fun i r hr => ?_⟩, fun r hr => ?_⟩
  · match i, hr with
    | 0, hr => simp at hr; subst hr; simp [rrV]
    | i + 1, hr => simp at hr
  · simp at hr
    subst hr
    exact ⟨hz.alloc _, hn⟩
/-- what an eye and a lamp make of a band -/
def pT (te : List (RowR Int)) (tl : List Int) (i b : Nat) : Int := (rwI te i).zs.getD b 0 * tl.getD b 0
theorem TruIn.tr {n : Nat} {ls : List (Int × Int)} {rs : List (RowR (Int × Int))} {tl : List Int} {te : List (RowR Int)} (h : TruIn n ls rs tl te) : Mm.TrC n (rgA ls) (egA rs) (zF tl) (fun i b => (rwI te i).zs.getD b 0) := ⟨h.L, h.E⟩
theorem pT_bd {n m : Nat} {ls : List (Int × Int)} {rs : List (RowR (Int × Int))} {tl : List Int} {te : List (RowR Int)} (hc : CaseOk n ls m rs) (ht : TruIn n ls rs tl te) {i b : Nat} (hi : i < 3) (hb : b < n) :
    0 ≤ pT te tl i b ∧ pT te tl i b ≤ 10000 := by
  have := Mm.prod_in hc.ok ht.tr hi hb
  unfold pT
  unfold zF at this
  omega

set_option maxRecDepth 100000 in
set_option maxHeartbeats 4000000 in
theorem numC_any (i b N n : Nat) (AE : Option Addr) (cE : Nat) (AL : Option Addr) (cL : Nat) (tl : List Int) (te : List (RowR Int)) (w : World) (hT : Tru w AE AL n tl te) (hB : Cs w N #[.slice AE 3 cE, .slice AL n cL]) (hN : (rwI te i).n = n) (hi : i < 3) (hb : b < n) (h1 : 0 ≤ pT te tl i b) (h2 : pT te tl i b ≤ 10000) (hn8 : n ≤ 8) :
    Calls Tryz.prog 58 #[.int .i64 (i : Nat), .int .i64 (b : Nat), .pointer (some ⟨N, 0, none⟩)] w fun e w' => e = .returned (.int .i64 (pT te tl i b)) ∧ Below w.heap.size w w' := by
  obtain ⟨tb, to, A2, n2, c2, zs2, rfl, hg2, tlt, d0, hI, hn2, _⟩ := hT.e.atA (Below.refl _ _) hi
  obtain rfl : n2 = n := by rw [hg2] at hN; exact hN
  obtain ⟨rb, ro, rfl, rlt, r0⟩ := hI.at0 (Below.refl _ _) hb
  obtain ⟨al, ao, rfl, alt, a0⟩ := hT.l.at0 (Below.refl _ _) hb
  have hp : pT te tl i b = zs2.getD b 0 * tl.getD b 0 := by unfold pT; rw [hg2]
  rw [hp] at h1 h2 ⊢
  generalize zs2.getD b 0 = x at *
  generalize tl.getD b 0 = y at *
  have hw : IntKind.i64.wrap (x * y) = x * y := IntWalk.i64_in _ (by omega)
  have hii : (i : Int) < 3 := by omega
  have hbi : (b : Int) < (n2 : Int) := by omega
  have cB := hB.c
  have lB := hB.lt
  clear hT hI hB hg2 hp hN
  go_enter Tryz.func58, Tryz.ntmps58
  go_wp2_with fail
  go_quiet (fail)
  go_wp2_with fail
  go_ret
  exact ⟨rfl, blA⟩

set_option maxRecDepth 100000 in
set_option maxHeartbeats 8000000 in
theorem numbers_ok (E : Option Addr) (m ce : Nat) (L : Option Addr) (n cl : Nat) (rs : List (RowR (Int × Int))) (ls : List (Int × Int)) (AE : Option Addr) (cE : Nat) (AL : Option Addr) (cL : Nat) (tl : List Int) (te : List (RowR Int)) (A : Option Addr) (c : Nat) (zs : List Int) (w : World) (h : Cse w E m L n rs ls) (hc : CaseOk n ls m rs) (hT : Tru w AE AL n tl te) (ht : TruIn n ls rs tl te) (hz : Ints w A n zs) (ho : ChipOk n n zs) :
    Calls Tryz.prog 16 #[.agg #[.slice E m ce, .slice L n cl], .agg #[.slice AE 3 cE, .slice AL n cL], .slice A n c] w fun e w' => ∃ g c', e = .returned (.tuple #[.slice (some ⟨g, 0, none⟩) 3 c', .int .i64 0]) ∧ Ints w' (some ⟨g, 0, none⟩) 3 [Mm.seen (pT te tl) (zF zs) n 0, Mm.seen (pT te tl) (zF zs) n 1, Mm.seen (pT te tl) (zF zs) n 2] ∧ w.heap.size ≤ g ∧ Below w.heap.size w w' := by
  have hn8 := hc.2.1
  have k1 := fun (C : Option Addr) (cc : Nat) (W : World) (hW : Below w.heap.size w W) (hr : RowsI W C 1 [⟨A, n, c, zs⟩]) => newMatcher_ok E m ce L n cl rs ls C 1 cc [⟨A, n, c, zs⟩] W (h.below hW) hc hr (by omega) (fun x hx => by simp at hx; subst hx; exact ho)
  have k2 := fun (W : World) (hW : Below w.heap.size w W) => truth_ok E m ce L n cl rs ls AE cE AL cL tl te W (h.below hW) hc (hT.below hW) ht
  have k3 := fun (W : World) (hW : Below w.heap.size w W) (hB : Cs W (w.heap.size + 1) #[.slice AE 3 cE, .slice AL n cL]) => see_any E m ce L n cl A n c zs 58 #[] #[.pointer (some ⟨w.heap.size + 1, 0, none⟩)] (pT te tl) W
    (enters_of Tryz.func58 (by kernel_rfl) rfl) (hz.below hW) hn8 (fun i b V hi hb hV => by
      have hp := pT_bd hc ht hi hb
      exact numC_any i b (w.heap.size + 1) n AE cE AL cL tl te V (hT.below (hW.trans (hV.mono hW.size))) (hB.keep hV) (ht.N i hi) hi hb hp.1 hp.2 hn8)
    (fun i b hi hb => by have := pT_bd hc ht hi hb; omega) (fun b hb => by have := ho.2 b hb; unfold zF; omega)
  have Hz := Lib.hid hz
  have hnm : n ≤ 9223372036854775807 := by omega
  generalize Mm.seen (pT te tl) (zF zs) n 0 = v0 at *
  generalize Mm.seen (pT te tl) (zF zs) n 1 = v1 at *
  generalize Mm.seen (pT te tl) (zF zs) n 2 = v2 at *
  clear h hc hT ht hz ho
  go_enter Tryz.func16, Tryz.ntmps16
  go_wp2_with fail
  refine (k1 _ _ _ blA (RowsI.new1 _ _ _ _ _ _ _ (by simp) ((Hz.out.alloc _).alloc _) hnm)).mono ?_
  rintro _ w2 ⟨rfl, hb2⟩
  have B1 : Cs w2 (w.heap.size + 1) #[.slice AE 3 cE, .slice AL n cL] := Cs.keep csA hb2
  have hbw : Below w.heap.size w w2 := blA
  clear hb2 k1
  have cB1 := B1.c
  have fB1 := B1.f
  have lB1 := B1.lt
  go_wp2_with fail
  refine (k2 _ blA).mono ?_
  rintro _ w3 ⟨rfl, hb3⟩
  have BM : Cs w3 w2.heap.size #[.slice E m ce, .slice L n cl] := Cs.keep csA hb3
  have cBM := BM.c
  have fBM := BM.f
  have lBM := BM.lt
  replace B1 : Cs w3 (w.heap.size + 1) #[.slice AE 3 cE, .slice AL n cL] := Cs.keep csA hb3
  replace BM : Cs w3 (w2.heap.size) #[.slice E m ce, .slice L n cl] := Cs.keep csA hb3
  replace hbw : Below w.heap.size w w3 := blA
  replace cB1 := B1.c
  replace fB1 := B1.f
  replace lB1 := B1.lt
  replace cBM := BM.c
  replace fBM := BM.f
  replace lBM := BM.lt
  clear hb3
  clear k2
  go_wp2_with fail
  refine (k3 _ hbw B1).mono ?_
  rintro _ w4 ⟨rfl, hb4⟩
  try clear cB1 fB1 lB1
  try clear B1
  try clear cBM fBM lBM
  try clear BM
  replace hbw : Below w.heap.size w w4 := blA
  clear hb4
  clear k3
  go_wp2_with fail
  refine (cloneI_any w4.heap.size 0 3 3 [v0, v1, v2] _ (Ints.new w4 _ [v0, v1, v2] _ rfl) (by omega) (by omega)).mono ?_
  rintro _ w5 ⟨g', c', rfl, hI, _, hg5, hb5⟩
  have hgF : w.heap.size ≤ g' := by have := hbw.size; simp at hg5; omega
  clear hg5
  have hbF : Below w.heap.size w w5 := blA
  have HI := Lib.hid hI
  clear hI hb5
  go_wp2_with fail
  exact bodyPost_ret (v := .tuple #[.slice (some ⟨g', 0, none⟩) 3 c', .int .i64 0]) (by simp [results, Tryz.results16, go_sem]) rfl ⟨g', c', rfl, HI.out, hgF, hbF⟩

end Go.Proofs.YtlbjnkopbabcnaaGreatDoor
end
