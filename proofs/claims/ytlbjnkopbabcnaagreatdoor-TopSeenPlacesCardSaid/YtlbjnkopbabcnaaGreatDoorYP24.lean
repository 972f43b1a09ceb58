/- PF3 -/
import Derived.Test.YtlbjnkopbabcnaaGreatDoorYP23
import Derived.Test.YtlbjnkopbabcnaaGreatDoorYV12
/- The walk of TopSeenPlaces: its first part. -/
section
namespace Go.Proofs.YtlbjnkopbabcnaaGreatDoor
open Go.RowKit Go.Shelf
set_option linter.unusedSimpArgs false
set_option linter.unusedVariables false

/-- what a curve's span of a chip is, and its number -/
def spJ (n q : Nat) (ls : List (Int × Int)) (rs : List (RowR (Int × Int))) (cs : List (RowR Int)) (j : Nat) : Int × Int :=
  (Mm.seen (Mm.low (rgA ls) (egA rs)) (zF (rwI cs j).zs) n q, Mm.seen (Mm.high (rgA ls) (egA rs)) (zF (rwI cs j).zs) n q)
def nmJ (n q : Nat) (tl : List Int) (te : List (RowR Int)) (cs : List (RowR Int)) (j : Nat) : Int := Mm.seen (pT te tl) (zF (rwI cs j).zs) n q
/-- what the rounds over the chips keep -/
structure Rnd (B : Nat) (n q : Nat) (ls : List (Int × Int)) (rs : List (RowR (Int × Int))) (tl : List Int) (te : List (RowR Int)) (cs : List (RowR Int)) (i : Nat) (v u : Value) (W : World) : Prop where
  o1 : W.ownsRow B 41 2 v i (((List.range i).map (spJ n q ls rs cs)).flatMap encR)
  o2 : W.ownsRow B 2 1 u i (((List.range i).map (nmJ n q tl te cs)).map (Value.int .i64))
  ne : ∀ g, v.ownBlock = some g → u.ownBlock ≠ some g
  ok : ∀ j, j < i → (rwI cs j).n = n ∧ ChipOk n n (rwI cs j).zs ∧ (spJ n q ls rs cs j).2 ≤ 100000
theorem Rnd.below {B n q i : Nat} {ls : List (Int × Int)} {rs : List (RowR (Int × Int))} {tl : List Int} {te : List (RowR Int)} {cs : List (RowR Int)} {v u : Value} {W W' : World} (h : Rnd B n q ls rs tl te cs i v u W) (hb : Below W.heap.size W W') : Rnd B n q ls rs tl te cs i v u W' :=
  ⟨own_keep h.o1 hb, own_keep h.o2 hb, h.ne, h.ok⟩

theorem Rnd.next {B n q i : Nat} {ls : List (Int × Int)} {rs : List (RowR (Int × Int))} {tl : List Int} {te : List (RowR Int)} {cs : List (RowR Int)} {v u v' u' : Value} {W V : World} (h : Rnd B n q ls rs tl te cs i v u W)
    (o1 : V.ownsRow B 41 2 v' (i + 1) (((List.range i).map (spJ n q ls rs cs)).flatMap encR ++ [.int .i64 (spJ n q ls rs cs i).1, .int .i64 (spJ n q ls rs cs i).2]))
    (o2 : V.ownsRow B 2 1 u' (i + 1) (((List.range i).map (nmJ n q tl te cs)).map (Value.int .i64) ++ [.int .i64 (nmJ n q tl te cs i)])) (ne : ∀ g, v'.ownBlock = some g → u'.ownBlock ≠ some g)
    (ok : (rwI cs i).n = n ∧ ChipOk n n (rwI cs i).zs ∧ (spJ n q ls rs cs i).2 ≤ 100000) : Rnd B n q ls rs tl te cs (i + 1) v' u' V := by
  refine ⟨?_, ?_, ne, fun j hj => ?_⟩
  · rw [List.range_succ, List.map_append, List.flatMap_append]; exact o1
  · rw [List.range_succ, List.map_append, List.map_append]; exact o2
  · by_cases e : j = i
    · subst e; exact ok
    · exact h.ok j (by omega)

theorem plc_get4 {zs : List (Int × Int)} {k : Nat} (hk : k < zs.length) : (plcL zs)[k]? = some (((rLo zs k zs.length : Nat) : Int), ((rHi zs k zs.length : Nat) : Int)) := by
  simp [plcL, hk]

set_option maxRecDepth 100000 in
set_option maxHeartbeats 16000000 in
theorem topSeen_main (E : Option Addr) (ce : Nat) (L : Option Addr) (n cl : Nat) (rs : List (RowR (Int × Int))) (ls : List (Int × Int)) (C : Option Addr) (k cC : Nat) (cs : List (RowR Int)) (B : Option Addr) (kb cb : Nat) (us : List Int) (cv wh : Int) (w : World)
    (h : Cse w E 3 L n rs ls) (hc : CaseOk n ls 3 rs) (hr : RowsI w C k cs) (hu : U16s w B kb us) (hk1 : 1 ≤ k) (hk : k ≤ 12) (hkb : kb ≤ 60) (c0 : 0 ≤ cv) (c1 : cv ≤ 255) (d0 : 0 ≤ wh) (d1 : wh ≤ 255) (hG : GlobW w) :
    Calls Tryz.prog 3 #[.agg #[.slice E 3 ce, .slice L n cl], .slice C k cC, .slice B kb cb, .int .u8 cv, .int .u8 wh] w fun e w' => e = .returned (.bool true) ∧ Below w.heap.size w w' := by
  have hn8 := hc.2.1
  have kc := fun (V : World) (hV : Below w.heap.size w V) => case04_any E 3 ce L n cl rs ls V (h.below hV)
  have kt := fun (V : World) (hV : Below w.heap.size w V) => true4_any E 3 ce L n cl rs ls B kb cb us V (h.below hV) hc (hu.below hV) (by omega)
  have kw := fun (V : World) (hV : Below w.heap.size w V) => top_works04_any V (hG.below hV)
  obtain ⟨q, hq⟩ : ∃ q : Nat, cv.tmod 3 = (q : Int) := ⟨(cv.tmod 3).toNat, by have := Int.tmod_nonneg 3 c0; omega⟩
  have hq3 : q < 3 := by have := Int.tmod_lt_of_pos cv (show (0 : Int) < 3 by omega); omega
  obtain ⟨a, ha⟩ : ∃ a : Nat, wh.tmod (k : Int) = (a : Int) := ⟨(wh.tmod (k : Int)).toNat, by have := Int.tmod_nonneg (k : Int) d0; omega⟩
  have hak : a < k := by have := Int.tmod_lt_of_pos wh (show (0 : Int) < (k : Int) by omega); omega
  have Hc := Lib.hid hc
  have Hh := Lib.hid h
  have Hr := Lib.hid hr
  have KW := Lib.hid kw
  have KT := Lib.hid kt
  have Ha := Lib.hid ha
  have m1 : ¬ (k : Int) < 1 := by omega
  have m2 : ¬ (12 : Int) < (k : Int) := by omega
  have m3 : ¬ (60 : Int) < (kb : Int) := by omega
  have m4 : IntKind.i64.wrap cv = cv := IntWalk.i64_in _ (by omega)
  have m5 : IntKind.i64.wrap wh = wh := IntWalk.i64_in _ (by omega)
  clear hc h hr hu hG kw kt ha
  go_enter Tryz.func3, Tryz.ntmps3
  go_wp2_with fail
  refine (kc _ blA).mono ?_
  rintro _ w1 ⟨⟨b0, rfl, hb0⟩, hb1⟩
  obtain rfl : b0 = true := hb0.2 Hc.out
  have B5 : Cs w1 w.heap.size #[.slice E 3 ce, .slice L n cl] := Cs.keep csA hb1
  have hbw : Below w.heap.size w w1 := blA
  clear hb1 kc hb0
  have cB5 := B5.c
  go_wp2_with fail
  refine (KT.out _ hbw).mono ?_
  rintro _ w2 ⟨AE, cE, AL, cL, tl, te, rfl, hte, htl, hti, hb2⟩
  replace B5 : Cs w2 w.heap.size #[.slice E 3 ce, .slice L n cl] := B5.keep hb2
  have hbw2 : Below w.heap.size w w2 := hbw.trans (hb2.mono hbw.size)
  have hT : Tru w2 AE AL n tl te := ⟨hte, htl⟩
  clear hb2 cB5 hbw KT hte htl
  have HT := Lib.hid hT
  have Hti := Lib.hid hti
  clear hT hti
  go_wp2_with fail
  obtain ⟨W0, hW0⟩ : ∃ W0, w2.alloc (.cells #[.slice AE 3 cE, .slice AL n cL] 32) = W0 := ⟨_, rfl⟩
  have B11 : Cs W0 w2.heap.size #[.slice AE 3 cE, .slice AL n cL] := by rw [← hW0]; exact csA
  replace B5 : Cs W0 w.heap.size #[.slice E 3 ce, .slice L n cl] := by rw [← hW0]; exact B5.alloc _
  replace HT := Lib.hid (show Tru W0 AE AL n tl te by rw [← hW0]; exact HT.out.below (balloc (Below.refl _ _) _))
  have hbw : Below w.heap.size w W0 := by rw [← hW0]; exact balloc hbw2 _
  have hs1 : w.heap.size < W0.heap.size := B5.lt
  have hs2 : w2.heap.size < W0.heap.size := B11.lt
  have hR0 : Rnd W0.heap.size n q ls rs tl te cs 0 (.slice none 0 0) (.slice none 0 0) W0 := ⟨W0.ownsRow_nil _ _ _, W0.ownsRow_nil _ _ _, fun g e => (by cases e), fun j hj => absurd hj (by omega)⟩
  have HR0 := Lib.hid hR0
  have HB5 := Lib.hid B5
  have HB11 := Lib.hid B11
  rw [hW0]
  clear hW0 hbw2 hR0 B5 B11
  go_loopw [13, 14, 15] (fun s13 s14 s15 wx => ∃ (i : Nat) (W : World), i ≤ k ∧ s15 = .int .i64 (i : Nat) ∧ Hid (W = wx) ∧ Hid (Rnd W0.heap.size n q ls rs tl te cs i s13 s14 W) ∧ Hid (Below W0.heap.size W0 W)) (fun _ _ s15 _ => k - (intOf s15).toNat)
  case atStart => exact ⟨0, _, Nat.zero_le _, rfl, Lib.hid rfl, HR0, Lib.hid (Below.refl _ _)⟩
  case round =>
    clear HR0
    obtain ⟨i, W, hi, rfl, HW, HR, HB⟩ := hrel
    obtain rfl := HW.out
    clear HW
    by_cases hik : i < k
    · have hii : (i : Int) < (k : Int) := by omega
      have hbW := hbw.trans (HB.out.mono hbw.size)
      obtain ⟨xb, xo, A', n', c', zs', rfl, hg, xlt, xc, hI, hn', _⟩ := Hr.out.atA hbW hik
      have HSt : Hid (∀ V, Below W.heap.size W V → V.cell? ⟨w.heap.size, 0, none⟩ = some (.slice E 3 ce) ∧ V.cell? ⟨w.heap.size, 1, none⟩ = some (.slice L n cl) ∧ V.cell? ⟨w2.heap.size, 0, none⟩ = some (.slice AE 3 cE) ∧ V.cell? ⟨w2.heap.size, 1, none⟩ = some (.slice AL n cL) ∧ V.cell? ⟨xb, xo + i, none⟩ = some (.slice A' n' c')) :=
        Lib.hid fun V hV => by
          have h5 := (HB5.out.keep HB.out).keep hV
          have h11 := (HB11.out.keep HB.out).keep hV
          exact ⟨h5.c 0, h5.c 1, h11.c 0, h11.c 1, (hV.cell (p := ⟨xb, xo + i, none⟩) (Nat.lt_of_lt_of_le xlt hbW.size)).trans xc⟩
      have HbW := Lib.hid hbW
      have HI := Lib.hid hI
      have Hg := Lib.hid hg
      clear hbW hI xc hg
      go_wp2_with fail
      refine wp_region_tree (S := fun U : World => U.cell? ⟨w.heap.size, 0, none⟩ = some (.slice E 3 ce) ∧ U.cell? ⟨w.heap.size, 1, none⟩ = some (.slice L n cl) ∧ U.cell? ⟨w2.heap.size, 0, none⟩ = some (.slice AE 3 cE) ∧ U.cell? ⟨w2.heap.size, 1, none⟩ = some (.slice AL n cL) ∧ U.cell? ⟨xb, xo + i, none⟩ = some (.slice A' n' c')) (.t 0 1 (.t 1 3 (.t 2 7 (.t 3 15 (.t 4 31 (.o 5 63 (.t 6 127 .nil))))))) (by kernel_rfl) (by kernel_rfl) (by as_aux_lemma => kernel_rfl) (by kernel_rfl) (fun c a d v w h => by cases d <;> exact h) (HSt.out _ (Below.drew (Below.refl _ _))) (fun hHeld => ?_)
      clear hHeld
      iterate 5 (refine tree_take (v := ?_) rfl (by rfl) ?_ ?_; rotate_left; (focus (intro w9 hSw; obtain ⟨s1, s2, s3, s4, s5⟩ := hSw; (go_simp <;> with_reducible rfl))); try simp only [Act.put, List.setIfInBounds_toArray, List.set_cons_zero, List.set_cons_succ])
      refine tree_one rfl (fun K9 hS9 => ?_)
      go_simp
      refine (rchip_any E 3 ce L n cl A' n' c' zs' _ (HI.out.below (Below.drew (Below.refl _ _))) hn').mono ?_
      rintro e9 V1 ⟨⟨p, rfl, hp⟩, hy⟩
      have V1b : Below W.heap.size W V1 := (Below.drew (Below.refl _ _)).trans hy
      have Hp := Lib.hid hp
      refine hS9.out _ _ (HSt.out _ V1b) (fun _ => ?_)
      clear hS9 K9 hy hp
      try simp only [Act.put, List.setIfInBounds_toArray, List.set_cons_zero, List.set_cons_succ]
      iterate 1 (refine tree_take (v := ?_) rfl (by rfl) ?_ ?_; rotate_left; (focus (intro w9 hSw; obtain ⟨s1, s2, s3, s4, s5⟩ := hSw; (go_simp <;> with_reducible rfl))); try simp only [Act.put, List.setIfInBounds_toArray, List.set_cons_zero, List.set_cons_succ])
      have HR1 := Lib.hid (HR.out.below V1b)
      have HbV1 := Lib.hid (HbW.out.trans (V1b.mono HbW.out.size))
      have HB1 := Lib.hid (HB.out.trans (V1b.mono HB.out.size))
      refine tree_done (fun U => V1 = U) rfl (fun U hU => ?_)
      subst hU
      by_cases hp0 : p = 0
      · subst hp0
        have hco := Hp.out.1 rfl
        obtain rfl : n = n' := hco.1.symm
        have Hco := Lib.hid hco
        clear hco Hp
        go_wp2_with fail
        refine wp_region_tree (S := fun U : World => U.cell? ⟨w.heap.size, 0, none⟩ = some (.slice E 3 ce) ∧ U.cell? ⟨w.heap.size, 1, none⟩ = some (.slice L n cl) ∧ U.cell? ⟨w2.heap.size, 0, none⟩ = some (.slice AE 3 cE) ∧ U.cell? ⟨w2.heap.size, 1, none⟩ = some (.slice AL n cL) ∧ U.cell? ⟨xb, xo + i, none⟩ = some (.slice A' n c')) (.t 0 1 (.t 1 3 (.t 2 7 (.t 3 15 (.t 4 31 (.o 5 63 (.t 6 127 (.t 7 255 (.t 8 511 (.t 9 1023 (.t 10 2047 .nil))))))))))) (by kernel_rfl) (by kernel_rfl) (by as_aux_lemma => kernel_rfl) (by kernel_rfl) (fun c a d v w h => by cases d <;> exact h) (HSt.out _ (Below.drew V1b)) (fun hHeld => ?_)
        clear hHeld
        iterate 5 (refine tree_take (v := ?_) rfl (by rfl) ?_ ?_; rotate_left; (focus (intro w9 hSw; obtain ⟨s1, s2, s3, s4, s5⟩ := hSw; (go_simp <;> with_reducible rfl))); try simp only [Act.put, List.setIfInBounds_toArray, List.set_cons_zero, List.set_cons_succ])
        refine tree_one rfl (fun K9 hS9 => ?_)
        go_simp
        refine (spansE_ok E ce L n cl rs ls A' c' zs' _ (Hh.out.below (HbV1.out.trans (Below.drew (Below.refl _ _) |>.mono HbV1.out.size))) Hc.out (HI.out.below (Below.drew V1b)) Hco.out).mono ?_
        rintro e9 V2 ⟨gs, rfl, hP, hgs, hy⟩
        replace hgs : W.heap.size ≤ gs := Nat.le_trans V1b.size hgs
        have V2b : Below W.heap.size W V2 := (Below.drew V1b).trans (hy.mono V1b.size)
        have hd : Below V1.heap.size V1 V2 := (Below.drew (Below.refl _ _)).trans hy
        have HP := Lib.hid hP
        clear hP
        refine hS9.out _ _ (HSt.out _ V2b) (fun _ => ?_)
        clear hS9 K9 hy hd
        try simp only [Act.put, List.setIfInBounds_toArray, List.set_cons_zero, List.set_cons_succ]
        iterate 5 (refine tree_take (v := ?_) rfl (by rfl) ?_ ?_; rotate_left; (focus (intro w9 hSw; obtain ⟨s1, s2, s3, s4, s5⟩ := hSw; (go_simp <;> with_reducible rfl))); try simp only [Act.put, List.setIfInBounds_toArray, List.set_cons_zero, List.set_cons_succ])
        refine tree_done (fun U => V2 = U) rfl (fun U hU => ?_)
        subst hU
        go_wp2_with fail
        refine wp_region_tree (S := fun U : World => U.cell? ⟨w.heap.size, 0, none⟩ = some (.slice E 3 ce) ∧ U.cell? ⟨w.heap.size, 1, none⟩ = some (.slice L n cl) ∧ U.cell? ⟨w2.heap.size, 0, none⟩ = some (.slice AE 3 cE) ∧ U.cell? ⟨w2.heap.size, 1, none⟩ = some (.slice AL n cL) ∧ U.cell? ⟨xb, xo + i, none⟩ = some (.slice A' n c')) (.t 0 1 (.t 1 3 (.t 2 7 (.t 3 15 (.t 4 31 (.t 5 63 (.o 6 127 (.t 7 255 (.t 8 511 (.t 9 1023 (.t 10 2047 (.t 11 4095 .nil)))))))))))) (by kernel_rfl) (by kernel_rfl) (by as_aux_lemma => kernel_rfl) (by kernel_rfl) (fun c a d v w h => by cases d <;> exact h) (HSt.out _ (Below.drew V2b)) (fun hHeld => ?_)
        clear hHeld
        iterate 6 (refine tree_take (v := ?_) rfl (by rfl) ?_ ?_; rotate_left; (focus (intro w9 hSw; obtain ⟨s1, s2, s3, s4, s5⟩ := hSw; (go_simp <;> with_reducible rfl))); try simp only [Act.put, List.setIfInBounds_toArray, List.set_cons_zero, List.set_cons_succ])
        refine tree_one rfl (fun K9 hS9 => ?_)
        go_simp
        refine (numbers_ok E 3 ce L n cl rs ls AE cE AL cL tl te A' c' zs' _ (Hh.out.below (HbW.out.trans ((Below.drew V2b).mono HbW.out.size))) Hc.out (HT.out.below (HB.out.trans ((Below.drew V2b).mono HB.out.size))) Hti.out (HI.out.below (Below.drew V2b)) Hco.out).mono ?_
        rintro e9 V3 ⟨gn, c9, rfl, hN, hgn, hy⟩
        replace hgn : W.heap.size ≤ gn := Nat.le_trans V2b.size hgn
        have V3b : Below W.heap.size W V3 := (Below.drew V2b).trans (hy.mono V2b.size)
        have hd : Below V2.heap.size V2 V3 := (Below.drew (Below.refl _ _)).trans hy
        have HN := Lib.hid hN
        clear hN
        replace HP := Lib.hid (HP.out.below hd)
        refine hS9.out _ _ (HSt.out _ V3b) (fun _ => ?_)
        clear hS9 K9 hy hd
        try simp only [Act.put, List.setIfInBounds_toArray, List.set_cons_zero, List.set_cons_succ]
        iterate 5 (refine tree_take (v := ?_) rfl (by rfl) ?_ ?_; rotate_left; (focus (intro w9 hSw; obtain ⟨s1, s2, s3, s4, s5⟩ := hSw; (go_simp <;> with_reducible rfl))); try simp only [Act.put, List.setIfInBounds_toArray, List.set_cons_zero, List.set_cons_succ])
        refine tree_done (fun U => V3 = U) rfl (fun U hU => ?_)
        subst hU
        have hbb3 := HbW.out.trans (V3b.mono HbW.out.size)
        have Hbb3 := Lib.hid hbb3
        have xn := HN.out.cell0 q hq3
        have en : [Mm.seen (pT te tl) (zF zs') n 0, Mm.seen (pT te tl) (zF zs') n 1, Mm.seen (pT te tl) (zF zs') n 2].getD q 0 = nmJ n q tl te cs i := by
          unfold nmJ; rw [Hg.out]
          match q, hq3 with
          | 0, _ => rfl
          | 1, _ => rfl
          | 2, _ => rfl
        rw [en, Nat.zero_add] at xn
        have ep : (spanL (rgA ls) (egA rs) (zF zs') n)[q]? = some ((spJ n q ls rs cs i).1, (spJ n q ls rs cs i).2) := by
          unfold spJ; rw [Hg.out]
          match q, hq3 with
          | 0, _ => rfl
          | 1, _ => rfl
          | 2, _ => rfl
        obtain ⟨pb, po, epo, plt, pc⟩ := HP.out.2 (by omega)
        injection epo with epo
        injection epo with e1 e2
        subst e1 e2
        obtain ⟨xlo, xhi⟩ := pc q _ _ ep
        rw [Nat.zero_add] at xlo xhi
        have hin := seen_in Hc.out Hti.out Hco.out hq3
        have hin2 : 0 ≤ (spJ n q ls rs cs i).1 ∧ (spJ n q ls rs cs i).1 ≤ nmJ n q tl te cs i ∧ nmJ n q tl te cs i ≤ (spJ n q ls rs cs i).2 := by
          unfold spJ nmJ; rw [Hg.out]; exact hin
        have hRn : ∀ (V : World), Below W.heap.size W V → Rnd W0.heap.size n q ls rs tl te cs i u13 u14 V := fun V hV => HR.out.below hV
        have HR3 := Lib.hid (hRn _ V3b)
        have hRk := fun (v u : Value) (V : World) (o1 : V.ownsRow W0.heap.size 41 2 v (i + 1) (((List.range i).map (spJ n q ls rs cs)).flatMap encR ++ [.int .i64 (spJ n q ls rs cs i).1, .int .i64 (spJ n q ls rs cs i).2])) (o2 : V.ownsRow W0.heap.size 2 1 u (i + 1) (((List.range i).map (nmJ n q tl te cs)).map (Value.int .i64) ++ [.int .i64 (nmJ n q tl te cs i)])) (ne : ∀ g, v.ownBlock = some g → u.ownBlock ≠ some g) (h9 : (spJ n q ls rs cs i).2 ≤ 100000) => HR.out.next o1 o2 ne ⟨by rw [Hg.out], by rw [Hg.out]; exact Hco.out, h9⟩
        have HRk := Lib.hid hRk
        obtain ⟨x, hx⟩ : ∃ x, nmJ n q tl te cs i = x := ⟨_, rfl⟩
        obtain ⟨lo, hlo⟩ : ∃ x, (spJ n q ls rs cs i).1 = x := ⟨_, rfl⟩
        obtain ⟨hi', hhi⟩ : ∃ x, (spJ n q ls rs cs i).2 = x := ⟨_, rfl⟩
        rw [hx] at xn hin2
        rw [hlo] at xlo hin2
        rw [hhi] at xhi hin2
        simp only [hx, hlo, hhi] at HRk
        obtain ⟨p0, p1, p2⟩ := hin2
        have n1 : ¬ x < lo := by omega
        have n2 : ¬ hi' < x := by omega
        have hqi : (q : Int) < 3 := by omega
        have lP := HP.out
        have HN2 := Lib.hid HN.out
        have HR0 := HR
        clear hbb3 hin en ep hRn hRk HR HN HP lP pc hx hlo hhi
        go_wp2_with fail
        go_quiet (fail)
        by_cases h100 : 100000 < hi'
        · go_wp2_with fail
          have HbD := Lib.hid (Hbb3.out.trans ((bdrewN (Below.refl _ _) nq).mono Hbb3.out.size))
          refine (KW.out _ HbD.out).mono ?_
          rintro _ w5 ⟨rfl, hb5⟩
          go_wp2_with fail
          go_ret
          exact ⟨rfl, HbD.out.trans (hb5.mono HbD.out.size)⟩
        · have h13 : ∀ g, u13.ownBlock = some g → g < W.heap.size := fun g e => (HR0.out.o1.lt g e).2
          have h14 : ∀ g, u14.ownBlock = some g → g < W.heap.size := fun g e => (HR0.out.o2.lt g e).2
          go_wp2_with fail
          have pb : Below W0.heap.size W0 (V3.drewN nq).drew := Below.drew (bdrewN (HB.out.trans (V3b.mono HB.out.size)) nq)
          have p1 := (HR3.out.below (Below.drew (bdrewN (Below.refl _ _) nq))).o1
          have p2 := (HR3.out.below (Below.drew (bdrewN (Below.refl _ _) nq))).o2
          have pne := HR3.out.ne
          have pB : W0.heap.size ≤ (V3.drewN nq).drew.heap.size := pb.size
          have pw : W.heap.size ≤ (V3.drewN nq).drew.heap.size := V3b.size
          have pS : (V3.drewN nq).drew.cell? ⟨gs, q * 2, none⟩ = some (.int .i64 lo) ∧ (V3.drewN nq).drew.cell? ⟨gs, q * 2 + 1, none⟩ = some (.int .i64 hi') ∧ (V3.drewN nq).drew.cell? ⟨gn, q, none⟩ = some (.int .i64 x) := ⟨xlo, xhi, xn⟩
          clear xlo xhi xn HR3
          refine wp_region_tree (S := fun U : World => U.cell? ⟨gs, q * 2, none⟩ = some (.int .i64 lo) ∧ U.cell? ⟨gs, q * 2 + 1, none⟩ = some (.int .i64 hi') ∧ U.cell? ⟨gn, q, none⟩ = some (.int .i64 x)) (.t 0 1 (.t 1 3 (.t 2 7 (.t 3 15 (.t 4 31 (.t 7 159 (.t 8 415 (.t 9 927 (.t 10 1951 (.t 11 3999 (.c 5 12 4031 8095 (.c 6 12 4095 8127 (.o 12 8191 (.o 13 16383 (.t 14 32767 (.t 15 65535 .nil)))) (.o 6 8191 (.o 13 16383 (.t 14 32767 (.t 15 65535 .nil))))) (.o 5 8127 (.o 6 8191 (.o 13 16383 (.t 14 32767 (.t 15 65535 .nil)))))))))))))))) (by kernel_rfl) (by kernel_rfl) (by as_aux_lemma => kernel_rfl) (by kernel_rfl) (fun c a d v w h => by cases d <;> exact h) pS (fun hHeld => ?_)
          clear hHeld
          generalize (V3.drewN nq).drew = X0 at *
          iterate 10 (refine tree_take (v := ?_) rfl (by rfl) ?_ ?_; rotate_left; (focus (intro w9 hSw; obtain ⟨s1, s2, s3⟩ := hSw; (go_simp <;> with_reducible rfl))); try simp only [Act.put, List.setIfInBounds_toArray, List.set_cons_zero, List.set_cons_succ])
          refine tree_two ?_ ?_
          · refine tree_one rfl (fun K9 hS9 => ?_)
            go_simp
            have CR : (X0.alloc (.cells #[.int .i64 lo, .int .i64 hi'] 41)).heap[X0.heap.size]? = some (.cells ⟨[.int .i64 lo, .int .i64 hi']⟩ 41 (0, 0)) := heap_alloc_new X0 _
            have hal : Below X0.heap.size X0 (X0.alloc (.cells #[.int .i64 lo, .int .i64 hi'] 41)) := balloc (Below.refl _ _) _
            have q1 := own_keep p1 hal
            have q2 := own_keep p2 hal
            have qb : Below W0.heap.size W0 (X0.alloc (.cells #[.int .i64 lo, .int .i64 hi'] 41)) := pb.alloc pB _
            have qB : W0.heap.size ≤ (X0.alloc (.cells #[.int .i64 lo, .int .i64 hi'] 41)).heap.size := Nat.le_trans pB hal.size
            have qw : W.heap.size ≤ (X0.alloc (.cells #[.int .i64 lo, .int .i64 hi'] 41)).heap.size := Nat.le_trans pw hal.size
            have lR : W.heap.size ≤ X0.heap.size := pw
            have mR : X0.heap.size < (X0.alloc (.cells #[.int .i64 lo, .int .i64 hi'] 41)).heap.size := by simp
            have qS : (X0.alloc (.cells #[.int .i64 lo, .int .i64 hi'] 41)).cell? ⟨gs, q * 2, none⟩ = some (.int .i64 lo) ∧ (X0.alloc (.cells #[.int .i64 lo, .int .i64 hi'] 41)).cell? ⟨gs, q * 2 + 1, none⟩ = some (.int .i64 hi') ∧ (X0.alloc (.cells #[.int .i64 lo, .int .i64 hi'] 41)).cell? ⟨gn, q, none⟩ = some (.int .i64 x) :=
              ⟨(hal.cell (p := ⟨gs, q * 2, none⟩) (World.block_lt_of_cell? _ _ pS.1)).trans pS.1, (hal.cell (p := ⟨gs, q * 2 + 1, none⟩) (World.block_lt_of_cell? _ _ pS.2.1)).trans pS.2.1, (hal.cell (p := ⟨gn, q, none⟩) (World.block_lt_of_cell? _ _ pS.2.2)).trans pS.2.2⟩
            refine hS9.out _ _ qS (fun _ => ?_)
            clear hS9 K9 hal p1 p2 pb pB pw pS
            try simp only [Act.put, List.setIfInBounds_toArray, List.set_cons_zero, List.set_cons_succ]
            generalize X0.heap.size = bR at *
            generalize X0.alloc (.cells #[.int .i64 lo, .int .i64 hi'] 41) = X1 at *
            have p1 := q1
            have p2 := q2
            have pb := qb
            have pB := qB
            have pw := qw
            have pS := qS
            clear q1 q2 qb qB qw qS
            refine tree_two ?_ ?_
            · obtain ⟨gL, cL9, X2, hrun, q1, q2, qne, qg, qo⟩ := app_two elRange p1 p2 pne CR rfl (by intro u hu; simp at hu; rcases hu with rfl | rfl <;> rfl) (by omega) pB 23
              have hv1 : ∀ g, u13.ownBlock = some g → g < W.heap.size := fun g e => h13 g e
              have qS : X2.cell? ⟨gs, q * 2, none⟩ = some (.int .i64 lo) ∧ X2.cell? ⟨gs, q * 2 + 1, none⟩ = some (.int .i64 hi') ∧ X2.cell? ⟨gn, q, none⟩ = some (.int .i64 x) :=
                ⟨qg.cell pS.1 (fun e => by have := hv1 gs e.symm; omega), qg.cell pS.2.1 (fun e => by have := hv1 gs e.symm; omega), qg.cell pS.2.2 (fun e => by have := hv1 gn e.symm; omega)⟩
              have qb : Below W0.heap.size W0 X2 := pb.trans (below_grown qg p1 (Nat.le_refl _) pB)
              have qB : W0.heap.size ≤ X2.heap.size := Nat.le_trans pB qg.size
              have qw : W.heap.size ≤ X2.heap.size := Nat.le_trans pw qg.size
              refine tree_app rfl rfl rfl rfl rfl hrun qS ?_
              clear hrun p1 p2 pb pB pw pS qg CR
              try simp only [Act.put, List.setIfInBounds_toArray, List.set_cons_zero, List.set_cons_succ]
              have p1 := q1
              have p2 := q2
              have pb := qb
              have pB := qB
              have pw := qw
              have pS := qS
              clear q1 q2 qb qB qw qS
              refine tree_one rfl (fun K9 hS9 => ?_)
              go_simp
              have CI : (X2.alloc (.cells #[.int .i64 x] 2)).heap[X2.heap.size]? = some (.cells ⟨[.int .i64 x]⟩ 2 (0, 0)) := heap_alloc_new X2 _
              have hal : Below X2.heap.size X2 (X2.alloc (.cells #[.int .i64 x] 2)) := balloc (Below.refl _ _) _
              have q1 := own_keep p1 hal
              have q2 := own_keep p2 hal
              have qb : Below W0.heap.size W0 (X2.alloc (.cells #[.int .i64 x] 2)) := pb.alloc pB _
              have qB : W0.heap.size ≤ (X2.alloc (.cells #[.int .i64 x] 2)).heap.size := Nat.le_trans pB hal.size
              have qw : W.heap.size ≤ (X2.alloc (.cells #[.int .i64 x] 2)).heap.size := Nat.le_trans pw hal.size
              have lI : W.heap.size ≤ X2.heap.size := pw
              have mI : X2.heap.size < (X2.alloc (.cells #[.int .i64 x] 2)).heap.size := by simp
              have qS : (X2.alloc (.cells #[.int .i64 x] 2)).cell? ⟨gs, q * 2, none⟩ = some (.int .i64 lo) ∧ (X2.alloc (.cells #[.int .i64 x] 2)).cell? ⟨gs, q * 2 + 1, none⟩ = some (.int .i64 hi') ∧ (X2.alloc (.cells #[.int .i64 x] 2)).cell? ⟨gn, q, none⟩ = some (.int .i64 x) :=
                ⟨(hal.cell (p := ⟨gs, q * 2, none⟩) (World.block_lt_of_cell? _ _ pS.1)).trans pS.1, (hal.cell (p := ⟨gs, q * 2 + 1, none⟩) (World.block_lt_of_cell? _ _ pS.2.1)).trans pS.2.1, (hal.cell (p := ⟨gn, q, none⟩) (World.block_lt_of_cell? _ _ pS.2.2)).trans pS.2.2⟩
              refine hS9.out _ _ qS (fun _ => ?_)
              clear hS9 K9 hal p1 p2 pb pB pw pS
              try simp only [Act.put, List.setIfInBounds_toArray, List.set_cons_zero, List.set_cons_succ]
              generalize X2.heap.size = bI at *
              generalize X2.alloc (.cells #[.int .i64 x] 2) = X3 at *
              have p1 := q1
              have p2 := q2
              have pb := qb
              have pB := qB
              have pw := qw
              have pS := qS
              clear q1 q2 qb qB qw qS
              obtain ⟨gT, cT9, X4, hrun, q2, q1, qn2, qg, qp⟩ := app_two elI64 p2 p1 (fun g e e2 => by injection e2 with e2; subst e2; exact qne e) CI rfl (by intro u hu; simp at hu; subst hu; rfl) (by omega) pB 30
              have hv1 : ∀ g, u14.ownBlock = some g → g < W.heap.size := fun g e => h14 g e
              have qS : X4.cell? ⟨gs, q * 2, none⟩ = some (.int .i64 lo) ∧ X4.cell? ⟨gs, q * 2 + 1, none⟩ = some (.int .i64 hi') ∧ X4.cell? ⟨gn, q, none⟩ = some (.int .i64 x) :=
                ⟨qg.cell pS.1 (fun e => by have := hv1 gs e.symm; omega), qg.cell pS.2.1 (fun e => by have := hv1 gs e.symm; omega), qg.cell pS.2.2 (fun e => by have := hv1 gn e.symm; omega)⟩
              have qb : Below W0.heap.size W0 X4 := pb.trans (below_grown qg p2 (Nat.le_refl _) pB)
              refine tree_app rfl rfl rfl rfl rfl hrun qS ?_
              clear hrun p1 p2 pb pB pw pS qg CI
              try simp only [Act.put, List.setIfInBounds_toArray, List.set_cons_zero, List.set_cons_succ]
              iterate 2 (refine tree_take (v := ?_) rfl (by rfl) ?_ ?_; rotate_left; (focus (intro w9 hSw; obtain ⟨s1, s2, s3⟩ := hSw; (go_simp <;> with_reducible rfl))); try simp only [Act.put, List.setIfInBounds_toArray, List.set_cons_zero, List.set_cons_succ])
              have qR := HRk.out _ _ _ q1 q2 (fun g e e2 => by first | exact qn2 (e.trans e2.symm) | exact qn2 (e2.trans e.symm)) (by omega)
              have HqR := Lib.hid qR
              have Hqb := Lib.hid qb
              clear q1 q2 qn2 qb qS qR
              refine tree_done (fun U => X4 = U) rfl (fun U hU => ?_)
              subst hU
              go_wp2_with fail
              go_roundw
              case rel => exact ⟨i + 1, _, by omega, by go_num, Lib.hid rfl, HqR, Hqb⟩
              case measure => simp [intOf]; omega
            · refine tree_one rfl (fun K9 hS9 => ?_)
              go_simp
              have CI : (X1.alloc (.cells #[.int .i64 x] 2)).heap[X1.heap.size]? = some (.cells ⟨[.int .i64 x]⟩ 2 (0, 0)) := heap_alloc_new X1 _
              have hal : Below X1.heap.size X1 (X1.alloc (.cells #[.int .i64 x] 2)) := balloc (Below.refl _ _) _
              have q1 := own_keep p1 hal
              have q2 := own_keep p2 hal
              have qb : Below W0.heap.size W0 (X1.alloc (.cells #[.int .i64 x] 2)) := pb.alloc pB _
              have qB : W0.heap.size ≤ (X1.alloc (.cells #[.int .i64 x] 2)).heap.size := Nat.le_trans pB hal.size
              have qw : W.heap.size ≤ (X1.alloc (.cells #[.int .i64 x] 2)).heap.size := Nat.le_trans pw hal.size
              have lI : W.heap.size ≤ X1.heap.size := pw
              have mI : X1.heap.size < (X1.alloc (.cells #[.int .i64 x] 2)).heap.size := by simp
              have qS : (X1.alloc (.cells #[.int .i64 x] 2)).cell? ⟨gs, q * 2, none⟩ = some (.int .i64 lo) ∧ (X1.alloc (.cells #[.int .i64 x] 2)).cell? ⟨gs, q * 2 + 1, none⟩ = some (.int .i64 hi') ∧ (X1.alloc (.cells #[.int .i64 x] 2)).cell? ⟨gn, q, none⟩ = some (.int .i64 x) :=
                ⟨(hal.cell (p := ⟨gs, q * 2, none⟩) (World.block_lt_of_cell? _ _ pS.1)).trans pS.1, (hal.cell (p := ⟨gs, q * 2 + 1, none⟩) (World.block_lt_of_cell? _ _ pS.2.1)).trans pS.2.1, (hal.cell (p := ⟨gn, q, none⟩) (World.block_lt_of_cell? _ _ pS.2.2)).trans pS.2.2⟩
              replace CR := (hal.block _ mR).trans CR
              have mR := Nat.lt_of_lt_of_le mR hal.size
              refine hS9.out _ _ qS (fun _ => ?_)
              clear hS9 K9 hal p1 p2 pb pB pw pS
              try simp only [Act.put, List.setIfInBounds_toArray, List.set_cons_zero, List.set_cons_succ]
              generalize X1.heap.size = bI at *
              generalize X1.alloc (.cells #[.int .i64 x] 2) = X2 at *
              have p1 := q1
              have p2 := q2
              have pb := qb
              have pB := qB
              have pw := qw
              have pS := qS
              clear q1 q2 qb qB qw qS
              obtain ⟨gL, cL9, X3, hrun, q1, q2, qne, qg, qo⟩ := app_two elRange p1 p2 pne CR rfl (by intro u hu; simp at hu; rcases hu with rfl | rfl <;> rfl) (by omega) pB 23
              have hv1 : ∀ g, u13.ownBlock = some g → g < W.heap.size := fun g e => h13 g e
              have qS : X3.cell? ⟨gs, q * 2, none⟩ = some (.int .i64 lo) ∧ X3.cell? ⟨gs, q * 2 + 1, none⟩ = some (.int .i64 hi') ∧ X3.cell? ⟨gn, q, none⟩ = some (.int .i64 x) :=
                ⟨qg.cell pS.1 (fun e => by have := hv1 gs e.symm; omega), qg.cell pS.2.1 (fun e => by have := hv1 gs e.symm; omega), qg.cell pS.2.2 (fun e => by have := hv1 gn e.symm; omega)⟩
              have qb : Below W0.heap.size W0 X3 := pb.trans (below_grown qg p1 (Nat.le_refl _) pB)
              have qB : W0.heap.size ≤ X3.heap.size := Nat.le_trans pB qg.size
              have qw : W.heap.size ≤ X3.heap.size := Nat.le_trans pw qg.size
              replace CI := (qg.block _ mI (fun e => by have := h13 _ e.symm; omega)).trans CI
              refine tree_app rfl rfl rfl rfl rfl hrun qS ?_
              clear hrun p1 p2 pb pB pw pS qg CR
              try simp only [Act.put, List.setIfInBounds_toArray, List.set_cons_zero, List.set_cons_succ]
              have p1 := q1
              have p2 := q2
              have pb := qb
              have pB := qB
              have pw := qw
              have pS := qS
              clear q1 q2 qb qB qw qS
              obtain ⟨gT, cT9, X4, hrun, q2, q1, qn2, qg, qp⟩ := app_two elI64 p2 p1 (fun g e e2 => by injection e2 with e2; subst e2; exact qne e) CI rfl (by intro u hu; simp at hu; subst hu; rfl) (by omega) pB 30
              have hv1 : ∀ g, u14.ownBlock = some g → g < W.heap.size := fun g e => h14 g e
              have qS : X4.cell? ⟨gs, q * 2, none⟩ = some (.int .i64 lo) ∧ X4.cell? ⟨gs, q * 2 + 1, none⟩ = some (.int .i64 hi') ∧ X4.cell? ⟨gn, q, none⟩ = some (.int .i64 x) :=
                ⟨qg.cell pS.1 (fun e => by have := hv1 gs e.symm; omega), qg.cell pS.2.1 (fun e => by have := hv1 gs e.symm; omega), qg.cell pS.2.2 (fun e => by have := hv1 gn e.symm; omega)⟩
              have qb : Below W0.heap.size W0 X4 := pb.trans (below_grown qg p2 (Nat.le_refl _) pB)
              refine tree_app rfl rfl rfl rfl rfl hrun qS ?_
              clear hrun p1 p2 pb pB pw pS qg CI
              try simp only [Act.put, List.setIfInBounds_toArray, List.set_cons_zero, List.set_cons_succ]
              iterate 2 (refine tree_take (v := ?_) rfl (by rfl) ?_ ?_; rotate_left; (focus (intro w9 hSw; obtain ⟨s1, s2, s3⟩ := hSw; (go_simp <;> with_reducible rfl))); try simp only [Act.put, List.setIfInBounds_toArray, List.set_cons_zero, List.set_cons_succ])
              have qR := HRk.out _ _ _ q1 q2 (fun g e e2 => by first | exact qn2 (e.trans e2.symm) | exact qn2 (e2.trans e.symm)) (by omega)
              have HqR := Lib.hid qR
              have Hqb := Lib.hid qb
              clear q1 q2 qn2 qb qS qR
              refine tree_done (fun U => X4 = U) rfl (fun U hU => ?_)
              subst hU
              go_wp2_with fail
              go_roundw
              case rel => exact ⟨i + 1, _, by omega, by go_num, Lib.hid rfl, HqR, Hqb⟩
              case measure => simp [intOf]; omega
          · refine tree_one rfl (fun K9 hS9 => ?_)
            go_simp
            have CI : (X0.alloc (.cells #[.int .i64 x] 2)).heap[X0.heap.size]? = some (.cells ⟨[.int .i64 x]⟩ 2 (0, 0)) := heap_alloc_new X0 _
            have hal : Below X0.heap.size X0 (X0.alloc (.cells #[.int .i64 x] 2)) := balloc (Below.refl _ _) _
            have q1 := own_keep p1 hal
            have q2 := own_keep p2 hal
            have qb : Below W0.heap.size W0 (X0.alloc (.cells #[.int .i64 x] 2)) := pb.alloc pB _
            have qB : W0.heap.size ≤ (X0.alloc (.cells #[.int .i64 x] 2)).heap.size := Nat.le_trans pB hal.size
            have qw : W.heap.size ≤ (X0.alloc (.cells #[.int .i64 x] 2)).heap.size := Nat.le_trans pw hal.size
            have lI : W.heap.size ≤ X0.heap.size := pw
            have mI : X0.heap.size < (X0.alloc (.cells #[.int .i64 x] 2)).heap.size := by simp
            have qS : (X0.alloc (.cells #[.int .i64 x] 2)).cell? ⟨gs, q * 2, none⟩ = some (.int .i64 lo) ∧ (X0.alloc (.cells #[.int .i64 x] 2)).cell? ⟨gs, q * 2 + 1, none⟩ = some (.int .i64 hi') ∧ (X0.alloc (.cells #[.int .i64 x] 2)).cell? ⟨gn, q, none⟩ = some (.int .i64 x) :=
              ⟨(hal.cell (p := ⟨gs, q * 2, none⟩) (World.block_lt_of_cell? _ _ pS.1)).trans pS.1, (hal.cell (p := ⟨gs, q * 2 + 1, none⟩) (World.block_lt_of_cell? _ _ pS.2.1)).trans pS.2.1, (hal.cell (p := ⟨gn, q, none⟩) (World.block_lt_of_cell? _ _ pS.2.2)).trans pS.2.2⟩
            refine hS9.out _ _ qS (fun _ => ?_)
            clear hS9 K9 hal p1 p2 pb pB pw pS
            try simp only [Act.put, List.setIfInBounds_toArray, List.set_cons_zero, List.set_cons_succ]
            generalize X0.heap.size = bI at *
            generalize X0.alloc (.cells #[.int .i64 x] 2) = X1 at *
            have p1 := q1
            have p2 := q2
            have pb := qb
            have pB := qB
            have pw := qw
            have pS := qS
            clear q1 q2 qb qB qw qS
            refine tree_one rfl (fun K9 hS9 => ?_)
            go_simp
            have CR : (X1.alloc (.cells #[.int .i64 lo, .int .i64 hi'] 41)).heap[X1.heap.size]? = some (.cells ⟨[.int .i64 lo, .int .i64 hi']⟩ 41 (0, 0)) := heap_alloc_new X1 _
            have hal : Below X1.heap.size X1 (X1.alloc (.cells #[.int .i64 lo, .int .i64 hi'] 41)) := balloc (Below.refl _ _) _
            have q1 := own_keep p1 hal
            have q2 := own_keep p2 hal
            have qb : Below W0.heap.size W0 (X1.alloc (.cells #[.int .i64 lo, .int .i64 hi'] 41)) := pb.alloc pB _
            have qB : W0.heap.size ≤ (X1.alloc (.cells #[.int .i64 lo, .int .i64 hi'] 41)).heap.size := Nat.le_trans pB hal.size
            have qw : W.heap.size ≤ (X1.alloc (.cells #[.int .i64 lo, .int .i64 hi'] 41)).heap.size := Nat.le_trans pw hal.size
            have lR : W.heap.size ≤ X1.heap.size := pw
            have mR : X1.heap.size < (X1.alloc (.cells #[.int .i64 lo, .int .i64 hi'] 41)).heap.size := by simp
            have qS : (X1.alloc (.cells #[.int .i64 lo, .int .i64 hi'] 41)).cell? ⟨gs, q * 2, none⟩ = some (.int .i64 lo) ∧ (X1.alloc (.cells #[.int .i64 lo, .int .i64 hi'] 41)).cell? ⟨gs, q * 2 + 1, none⟩ = some (.int .i64 hi') ∧ (X1.alloc (.cells #[.int .i64 lo, .int .i64 hi'] 41)).cell? ⟨gn, q, none⟩ = some (.int .i64 x) :=
              ⟨(hal.cell (p := ⟨gs, q * 2, none⟩) (World.block_lt_of_cell? _ _ pS.1)).trans pS.1, (hal.cell (p := ⟨gs, q * 2 + 1, none⟩) (World.block_lt_of_cell? _ _ pS.2.1)).trans pS.2.1, (hal.cell (p := ⟨gn, q, none⟩) (World.block_lt_of_cell? _ _ pS.2.2)).trans pS.2.2⟩
            replace CI := (hal.block _ mI).trans CI
            have mI := Nat.lt_of_lt_of_le mI hal.size
            refine hS9.out _ _ qS (fun _ => ?_)
            clear hS9 K9 hal p1 p2 pb pB pw pS
            try simp only [Act.put, List.setIfInBounds_toArray, List.set_cons_zero, List.set_cons_succ]
            generalize X1.heap.size = bR at *
            generalize X1.alloc (.cells #[.int .i64 lo, .int .i64 hi'] 41) = X2 at *
            have p1 := q1
            have p2 := q2
            have pb := qb
            have pB := qB
            have pw := qw
            have pS := qS
            clear q1 q2 qb qB qw qS
            obtain ⟨gL, cL9, X3, hrun, q1, q2, qne, qg, qo⟩ := app_two elRange p1 p2 pne CR rfl (by intro u hu; simp at hu; rcases hu with rfl | rfl <;> rfl) (by omega) pB 23
            have hv1 : ∀ g, u13.ownBlock = some g → g < W.heap.size := fun g e => h13 g e
            have qS : X3.cell? ⟨gs, q * 2, none⟩ = some (.int .i64 lo) ∧ X3.cell? ⟨gs, q * 2 + 1, none⟩ = some (.int .i64 hi') ∧ X3.cell? ⟨gn, q, none⟩ = some (.int .i64 x) :=
              ⟨qg.cell pS.1 (fun e => by have := hv1 gs e.symm; omega), qg.cell pS.2.1 (fun e => by have := hv1 gs e.symm; omega), qg.cell pS.2.2 (fun e => by have := hv1 gn e.symm; omega)⟩
            have qb : Below W0.heap.size W0 X3 := pb.trans (below_grown qg p1 (Nat.le_refl _) pB)
            have qB : W0.heap.size ≤ X3.heap.size := Nat.le_trans pB qg.size
            have qw : W.heap.size ≤ X3.heap.size := Nat.le_trans pw qg.size
            replace CI := (qg.block _ mI (fun e => by have := h13 _ e.symm; omega)).trans CI
            refine tree_app rfl rfl rfl rfl rfl hrun qS ?_
            clear hrun p1 p2 pb pB pw pS qg CR
            try simp only [Act.put, List.setIfInBounds_toArray, List.set_cons_zero, List.set_cons_succ]
            have p1 := q1
            have p2 := q2
            have pb := qb
            have pB := qB
            have pw := qw
            have pS := qS
            clear q1 q2 qb qB qw qS
            obtain ⟨gT, cT9, X4, hrun, q2, q1, qn2, qg, qp⟩ := app_two elI64 p2 p1 (fun g e e2 => by injection e2 with e2; subst e2; exact qne e) CI rfl (by intro u hu; simp at hu; subst hu; rfl) (by omega) pB 30
            have hv1 : ∀ g, u14.ownBlock = some g → g < W.heap.size := fun g e => h14 g e
            have qS : X4.cell? ⟨gs, q * 2, none⟩ = some (.int .i64 lo) ∧ X4.cell? ⟨gs, q * 2 + 1, none⟩ = some (.int .i64 hi') ∧ X4.cell? ⟨gn, q, none⟩ = some (.int .i64 x) :=
              ⟨qg.cell pS.1 (fun e => by have := hv1 gs e.symm; omega), qg.cell pS.2.1 (fun e => by have := hv1 gs e.symm; omega), qg.cell pS.2.2 (fun e => by have := hv1 gn e.symm; omega)⟩
            have qb : Below W0.heap.size W0 X4 := pb.trans (below_grown qg p2 (Nat.le_refl _) pB)
            refine tree_app rfl rfl rfl rfl rfl hrun qS ?_
            clear hrun p1 p2 pb pB pw pS qg CI
            try simp only [Act.put, List.setIfInBounds_toArray, List.set_cons_zero, List.set_cons_succ]
            iterate 2 (refine tree_take (v := ?_) rfl (by rfl) ?_ ?_; rotate_left; (focus (intro w9 hSw; obtain ⟨s1, s2, s3⟩ := hSw; (go_simp <;> with_reducible rfl))); try simp only [Act.put, List.setIfInBounds_toArray, List.set_cons_zero, List.set_cons_succ])
            have qR := HRk.out _ _ _ q1 q2 (fun g e e2 => by first | exact qn2 (e.trans e2.symm) | exact qn2 (e2.trans e.symm)) (by omega)
            have HqR := Lib.hid qR
            have Hqb := Lib.hid qb
            clear q1 q2 qn2 qb qS qR
            refine tree_done (fun U => X4 = U) rfl (fun U hU => ?_)
            subst hU
            go_wp2_with fail
            go_roundw
            case rel => exact ⟨i + 1, _, by omega, by go_num, Lib.hid rfl, HqR, Hqb⟩
            case measure => simp [intOf]; omega
      · have hp1 : (p = 0) = False := eq_false hp0
        go_wp2_with fail
        refine (KW.out _ HbV1.out).mono ?_
        rintro _ w5 ⟨rfl, hb5⟩
        go_wp2_with fail
        go_ret
        exact ⟨rfl, (HbV1.out).trans (hb5.mono (HbV1.out).size)⟩
    · obtain rfl : k = i := by omega
      have hok := HR.out.ok
      have o1 := HR.out.o1
      have o2 := HR.out.o2
      obtain ⟨AP, cP, rfl, hP, hkP⟩ := own_prs (zs := (List.range k).map (spJ n q ls rs cs)) (by simp) o1
      obtain ⟨AT, cT, rfl, hT2, hkT⟩ := own_ints (zs := (List.range k).map (nmJ n q tl te cs)) (by simp) o2
      have hbW := hbw.trans (HB.out.mono hbw.size)
      have hsp : ∀ j, j < k → (rg ((List.range k).map (spJ n q ls rs cs)) j) = spJ n q ls rs cs j := fun j hj => by unfold rg; rw [List.getD_eq_getElem?_getD, List.getElem?_map, List.getElem?_range hj]; rfl
      have hnm : ∀ j, j < k → ((List.range k).map (nmJ n q tl te cs)).getD j 0 = nmJ n q tl te cs j := fun j hj => by rw [List.getD_eq_getElem?_getD, List.getElem?_map, List.getElem?_range hj]; rfl
      have hin : ∀ j, j < k → 0 ≤ (spJ n q ls rs cs j).1 ∧ (spJ n q ls rs cs j).1 ≤ nmJ n q tl te cs j ∧ nmJ n q tl te cs j ≤ (spJ n q ls rs cs j).2 := fun j hj => seen_in Hc.out Hti.out (hok j hj).2.1 hq3
      have hany : ((List.range k).map (spJ n q ls rs cs)).any (fun x => !rgB 0 100000 x) = false := by
        rw [List.any_eq_false]
        intro x hx
        rw [List.mem_map] at hx
        obtain ⟨j, hj, rfl⟩ := hx
        rw [List.mem_range] at hj
        have h1 := hin j hj
        have h2 := (hok j hj).2.2
        simp [rgB]
        omega
      have hbr := fun b => brK_in (zs := (List.range k).map (spJ n q ls rs cs)) (ts := (List.range k).map (nmJ n q tl te cs)) hak (fun j hj => by rw [hsp j hj, hnm j hj]; exact (hin j hj).2) k b
      have hbr := hbr (Nat.le_refl _)
      have hpl : ((List.range k).map (spJ n q ls rs cs)).length = k := by simp
      have hlt : ∀ j, j < k → -1000000000 ≤ nmJ n q tl te cs j ∧ nmJ n q tl te cs j ≤ 1000000000 := fun j hj => by have h1 := hin j hj; have h2 := (hok j hj).2.2; omega
      have kp := fun (V : World) (hV : Below W.heap.size W V) => places_ok AP k cP ((List.range k).map (spJ n q ls rs cs)) V (hP.below hV) hk1 hk hany
      generalize hzsP : (List.range k).map (spJ n q ls rs cs) = zsP at *
      generalize htsT : (List.range k).map (nmJ n q tl te cs) = tsT at *
      have Hok := Lib.hid hok
      have HT2 := Lib.hid hT2
      have Hnm := Lib.hid hnm
      have Hbr := Lib.hid hbr
      have Hpl := Lib.hid hpl
      have HbW := Lib.hid hbW
      clear hok o1 o2 hP hT2 hsp hnm hin hany hbr hzsP htsT hpl hbW HR hlt
      go_wp2_with fail
      refine (kp _ (Below.refl _ _)).mono ?_
      rintro _ w5 ⟨A9, n9, c9, rfl, h9, -, hb5⟩
      obtain rfl : k = n9 := by have := h9.1; rw [show (plcL zsP).length = zsP.length by simp [plcL], Hpl.out] at this; exact this
      have H9 := Lib.hid h9
      have HB9 := Lib.hid (HB.out.trans (hb5.mono HB.out.size))
      have HbW9 := Lib.hid (HbW.out.trans (hb5.mono HbW.out.size))
      replace HT2 := Lib.hid (HT2.out.below hb5)
      clear hb5 h9 kp HB HbW
      have hk0 : ((k : Int) = 0) = False := eq_false (by omega)
      have hkB : ((k : Int) == 0) = false := by simp; omega
      have ha := Ha.out
      go_wp2_with fail
      obtain ⟨tb, tq, eT, tlt, tc⟩ := HT2.out.2 (by omega)
      subst eT
      have Htc := Lib.hid tc
      clear tc
      go_loopw [23, 24] (fun s23 s24 wx => ∃ (j : Nat) (V : World), j ≤ k ∧ s23 = .int .i64 (brK tsT a j : Nat) ∧ s24 = .int .i64 (j : Nat) ∧ Hid (V = wx) ∧ Hid (Below w5.heap.size w5 V)) (fun _ s24 _ => k - (intOf s24).toNat)
      case atStart => exact ⟨0, _, Nat.zero_le _, rfl, rfl, Lib.hid rfl, Lib.hid (Below.refl _ _)⟩
      case round =>
        obtain ⟨j, V, hj, rfl, rfl, HV, HB5V⟩ := hrel
        obtain rfl := HV.out
        clear HV
        have hbV := HbW9.out.trans (HB5V.out.mono HbW9.out.size)
        have hbV0 := HB9.out.trans (HB5V.out.mono HB9.out.size)
        by_cases hjk : j < k
        · have hji : (j : Int) < (k : Int) := by omega
          have hai : (a : Int) < (k : Int) := by omega
          obtain ⟨xb, xo, Aa, na, ca, za, rfl, hga, xlt, xca, hIa, hna', _⟩ := Hr.out.atA hbV hak
          obtain ⟨xb', xo', Aj, nj, cj, zj, eC, hgj, xlt', xcj, hIj, hnj', _⟩ := Hr.out.atA hbV hjk
          injection eC with eC
          injection eC with e1 e2
          subst e1 e2
          obtain ⟨oa1, oa2, -⟩ := Hok.out a hak
          obtain ⟨oj1, oj2, -⟩ := Hok.out j hjk
          rw [hga] at oa1 oa2
          rw [hgj] at oj1 oj2
          obtain rfl : n = na := oa1.symm
          obtain rfl : n = nj := oj1.symm
          have hta : nmJ n q tl te cs a = Mm.seen (pT te tl) (zF za) n q := by unfold nmJ; rw [hga]
          have htj : nmJ n q tl te cs j = Mm.seen (pT te tl) (zF zj) n q := by unfold nmJ; rw [hgj]
          have ea := Hnm.out a hak
          have ej := Hnm.out j hjk
          have tca := (HB5V.out.cell (p := ⟨tb, tq + a, none⟩) tlt).trans (Htc.out a hak)
          have tcj := (HB5V.out.cell (p := ⟨tb, tq + j, none⟩) tlt).trans (Htc.out j hjk)
          have hbr1 : brK tsT a (j + 1) = brK tsT a j + if tsT.getD a 0 < tsT.getD j 0 then 1 else 0 := rfl
          have hbl := brK_le tsT a j
          have hsure : (partR (rgA ls) (egA rs) (fun b => zF zj b - zF za b) n).2 = false → tsT.getD j 0 = tsT.getD a 0 := fun h => by
            rw [ea, ej, hta, htj]; exact sure_of Hc.out Hti.out h hq3
          have ksu := fun (U : World) (hU : Below V.heap.size V U) => surely_any E ce L n cl rs ls Aj cj zj Aa ca za U (Hh.out.below (hbV.trans (hU.mono hbV.size))) Hc.out (hIj.below hU) oj2 (hIa.below hU) oa2
          generalize (partR (rgA ls) (egA rs) (fun b => zF zj b - zF za b) n).2 = pr at *
          have HSt : Hid (∀ U, Below V.heap.size V U → U.cell? ⟨w.heap.size, 0, none⟩ = some (.slice E 3 ce) ∧ U.cell? ⟨w.heap.size, 1, none⟩ = some (.slice L n cl) ∧ U.cell? ⟨xb, xo + j, none⟩ = some (.slice Aj n cj) ∧ U.cell? ⟨xb, xo + a, none⟩ = some (.slice Aa n ca)) :=
            Lib.hid fun U hU => by
              have h5 := (HB5.out.keep hbV0).keep hU
              exact ⟨h5.c 0, h5.c 1, (hU.cell (p := ⟨xb, xo + j, none⟩) (Nat.lt_of_lt_of_le xlt hbV.size)).trans xcj, (hU.cell (p := ⟨xb, xo + a, none⟩) (Nat.lt_of_lt_of_le xlt hbV.size)).trans xca⟩
          have Hsure := Lib.hid hsure
          have Ksu := Lib.hid ksu
          obtain ⟨x, hx⟩ : ∃ x, tsT.getD j 0 = x := ⟨_, rfl⟩
          obtain ⟨y, hy⟩ : ∃ y, tsT.getD a 0 = y := ⟨_, rfl⟩
          rw [hx] at tcj hbr1 Hsure
          rw [hy] at tca hbr1 Hsure
          have HbV := Lib.hid hbV
          have TA := Lib.hid tca
          have TJ := Lib.hid tcj
          generalize hbj : brK tsT a j = bj at *
          generalize hbj1 : brK tsT a (j + 1) = bj1 at *
          have hw1 : IntKind.i64.wrap ((bj : Int) + 1) = (bj : Int) + 1 := IntWalk.i64_in _ (by omega)
          have Hbr1 := Lib.hid hbr1
          have Hbj1 := Lib.hid hbj1
          clear hga hgj xca xcj hIa hIj oa1 oj1 oa2 oj2 hta htj ea ej hsure ksu hx hy hbV hbV0 hbj hbj1 hbr1
          go_wp2_with fail
          go_quiet (fail)
          by_cases hxy : y < x
          · have hb2 : bj1 = bj + 1 := by have := Hbr1.out; rwa [if_pos hxy] at this
            clear Hbr1 tca tcj
            go_wp2_with fail
            refine wp_region_tree (S := fun U : World => U.cell? ⟨w.heap.size, 0, none⟩ = some (.slice E 3 ce) ∧ U.cell? ⟨w.heap.size, 1, none⟩ = some (.slice L n cl) ∧ U.cell? ⟨xb, xo + j, none⟩ = some (.slice Aj n cj) ∧ U.cell? ⟨xb, xo + a, none⟩ = some (.slice Aa n ca)) (.t 0 1 (.t 1 3 (.t 2 7 (.t 3 15 (.t 4 31 (.t 5 63 (.t 6 127 (.t 7 255 (.t 8 511 (.o 9 1023 (.t 10 2047 .nil))))))))))) (by kernel_rfl) (by kernel_rfl) (by as_aux_lemma => kernel_rfl) (by kernel_rfl) (fun c a d v w h => by cases d <;> exact h) (HSt.out _ (Below.drew (bdrewN (Below.refl _ _) nq))) (fun hHeld => ?_)
            clear hHeld
            iterate 9 (refine tree_take (v := ?_) rfl (by rfl) ?_ ?_; rotate_left; (focus (intro w9 hSw; obtain ⟨s1, s2, s3, s4⟩ := hSw; (go_simp <;> with_reducible rfl))); try simp only [Act.put, List.setIfInBounds_toArray, List.set_cons_zero, List.set_cons_succ])
            refine tree_one rfl (fun K9 hS9 => ?_)
            go_simp
            refine (Ksu.out _ (Below.drew (bdrewN (Below.refl _ _) nq))).mono ?_
            rintro e9 V1 ⟨rfl, hy⟩
            have V1b : Below V.heap.size V V1 := (Below.drew (bdrewN (Below.refl _ _) nq)).trans hy
            refine hS9.out _ _ (HSt.out _ V1b) (fun _ => ?_)
            clear hS9 K9 hy
            try simp only [Act.put, List.setIfInBounds_toArray, List.set_cons_zero, List.set_cons_succ]
            iterate 1 (refine tree_take (v := ?_) rfl (by rfl) ?_ ?_; rotate_left; (focus (intro w9 hSw; obtain ⟨s1, s2, s3, s4⟩ := hSw; (go_simp <;> with_reducible rfl))); try simp only [Act.put, List.setIfInBounds_toArray, List.set_cons_zero, List.set_cons_succ])
            refine tree_done (fun U => V1 = U) rfl (fun U hU => ?_)
            subst hU
            have tca := (V1b.cell (p := ⟨tb, tq + a, none⟩) (Nat.lt_of_lt_of_le tlt HB5V.out.size)).trans TA.out
            have tcj := (V1b.cell (p := ⟨tb, tq + j, none⟩) (Nat.lt_of_lt_of_le tlt HB5V.out.size)).trans TJ.out
            have HBn := Lib.hid (HB5V.out.trans (V1b.mono HB5V.out.size))
            cases pr with
            | true =>
              simp only [if_true]
              go_wp2_with fail
              go_quiet (fail)
              go_wp2_with fail
              go_roundw
              case rel => exact ⟨j + 1, _, by omega, by rw [Hbj1.out, hb2]; go_num, by go_num, Lib.hid rfl, Lib.hid (bdrewN HBn.out _)⟩
              case measure => simp [intOf]; omega
            | false =>
              have hxe := Hsure.out rfl
              subst hxe
              simp only [Bool.false_eq_true, if_false]
              go_wp2_with fail
              go_quiet (fail)
              go_wp2_with fail
              go_roundw
              case rel => exact ⟨j + 1, _, by omega, by rw [Hbj1.out, hb2]; go_num, by go_num, Lib.hid rfl, Lib.hid (bdrewN HBn.out _)⟩
              case measure => simp [intOf]; omega
          · have hb2 : bj1 = bj := by have := Hbr1.out; rwa [if_neg hxy] at this
            clear Hbr1 tca tcj
            go_wp2_with fail
            refine wp_region_tree (S := fun U : World => U.cell? ⟨w.heap.size, 0, none⟩ = some (.slice E 3 ce) ∧ U.cell? ⟨w.heap.size, 1, none⟩ = some (.slice L n cl) ∧ U.cell? ⟨xb, xo + j, none⟩ = some (.slice Aj n cj) ∧ U.cell? ⟨xb, xo + a, none⟩ = some (.slice Aa n ca)) (.t 0 1 (.t 1 3 (.t 2 7 (.t 3 15 (.t 4 31 (.t 5 63 (.t 6 127 (.t 7 255 (.t 8 511 (.o 9 1023 (.t 10 2047 .nil))))))))))) (by kernel_rfl) (by kernel_rfl) (by as_aux_lemma => kernel_rfl) (by kernel_rfl) (fun c a d v w h => by cases d <;> exact h) (HSt.out _ (Below.drew (bdrewN (Below.refl _ _) nq))) (fun hHeld => ?_)
            clear hHeld
            iterate 9 (refine tree_take (v := ?_) rfl (by rfl) ?_ ?_; rotate_left; (focus (intro w9 hSw; obtain ⟨s1, s2, s3, s4⟩ := hSw; (go_simp <;> with_reducible rfl))); try simp only [Act.put, List.setIfInBounds_toArray, List.set_cons_zero, List.set_cons_succ])
            refine tree_one rfl (fun K9 hS9 => ?_)
            go_simp
            refine (Ksu.out _ (Below.drew (bdrewN (Below.refl _ _) nq))).mono ?_
            rintro e9 V1 ⟨rfl, hy⟩
            have V1b : Below V.heap.size V V1 := (Below.drew (bdrewN (Below.refl _ _) nq)).trans hy
            refine hS9.out _ _ (HSt.out _ V1b) (fun _ => ?_)
            clear hS9 K9 hy
            try simp only [Act.put, List.setIfInBounds_toArray, List.set_cons_zero, List.set_cons_succ]
            iterate 1 (refine tree_take (v := ?_) rfl (by rfl) ?_ ?_; rotate_left; (focus (intro w9 hSw; obtain ⟨s1, s2, s3, s4⟩ := hSw; (go_simp <;> with_reducible rfl))); try simp only [Act.put, List.setIfInBounds_toArray, List.set_cons_zero, List.set_cons_succ])
            refine tree_done (fun U => V1 = U) rfl (fun U hU => ?_)
            subst hU
            have tca := (V1b.cell (p := ⟨tb, tq + a, none⟩) (Nat.lt_of_lt_of_le tlt HB5V.out.size)).trans TA.out
            have tcj := (V1b.cell (p := ⟨tb, tq + j, none⟩) (Nat.lt_of_lt_of_le tlt HB5V.out.size)).trans TJ.out
            have HBn := Lib.hid (HB5V.out.trans (V1b.mono HB5V.out.size))
            cases pr with
            | true =>
              simp only [if_true]
              go_wp2_with fail
              go_quiet (fail)
              go_wp2_with fail
              go_roundw
              case rel => exact ⟨j + 1, _, by omega, by rw [Hbj1.out, hb2], by go_num, Lib.hid rfl, Lib.hid (bdrewN HBn.out _)⟩
              case measure => simp [intOf]; omega
            | false =>
              have hxe := Hsure.out rfl
              subst hxe
              simp only [Bool.false_eq_true, if_false]
              go_wp2_with fail
              go_quiet (fail)
              go_wp2_with fail
              go_roundw
              case rel => exact ⟨j + 1, _, by omega, by rw [Hbj1.out, hb2], by go_num, Lib.hid rfl, Lib.hid (bdrewN HBn.out _)⟩
              case measure => simp [intOf]; omega
        · obtain rfl : k = j := by omega
          obtain ⟨lo, hi2, hpl1, hlo2, hhi2⟩ : ∃ lo hi2 : Nat, (plcL zsP)[a]? = some ((lo : Int), (hi2 : Int)) ∧ lo ≤ brK tsT a k ∧ brK tsT a k ≤ hi2 := ⟨rLo zsP a k, rHi zsP a k, by have := plc_get4 (zs := zsP) (k := a) (by rw [Hpl.out]; exact hak); rw [Hpl.out] at this; exact this, Hbr.out.1, Hbr.out.2⟩
          obtain ⟨pb, po, epo, plt, pc⟩ := H9.out.2 (by omega)
          subst epo
          obtain ⟨xlo, xhi⟩ := pc a _ _ hpl1
          have klo := (HB5V.out.cell (p := ⟨pb, po + a * 2, none⟩) plt).trans xlo
          have khi := (HB5V.out.cell (p := ⟨pb, po + a * 2 + 1, none⟩) plt).trans xhi
          have hji : ¬ (k : Int) < (k : Int) := by omega
          have hai : (a : Int) < (k : Int) := by omega
          obtain ⟨bk, hbk⟩ : ∃ bk, brK tsT a k = bk := ⟨_, rfl⟩
          rw [hbk] at hlo2 hhi2
          have g1 : (lo : Int) ≤ (bk : Int) := by omega
          have g2 : (bk : Int) ≤ (hi2 : Int) := by omega
          rw [hbk]
          have KV := Lib.hid (fun U (hU : Below V.heap.size V U) => KW.out U (hbV.trans (hU.mono hbV.size)))
          have HbV := Lib.hid hbV
          clear hlo2 hhi2 hbk xlo xhi pc plt hpl1 hbV hbV0
          go_wp2_with fail
          refine (KV.out _ (Below.refl _ _)).mono ?_
          rintro _ w9 ⟨rfl, hb9⟩
          go_wp2_with fail
          go_ret
          exact ⟨rfl, HbV.out.trans (hb9.mono HbV.out.size)⟩
end Go.Proofs.YtlbjnkopbabcnaaGreatDoor
end
