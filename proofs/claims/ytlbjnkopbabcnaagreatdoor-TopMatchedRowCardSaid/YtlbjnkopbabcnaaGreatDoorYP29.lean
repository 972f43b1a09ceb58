/- PG4 -/
import Derived.Test.YtlbjnkopbabcnaaGreatDoorYP28
/- Walks of package metamer: Parting. -/
section
namespace Go.Proofs.YtlbjnkopbabcnaaGreatDoor
open Go.RowKit Go.Shelf
set_option linter.unusedSimpArgs false
set_option linter.unusedVariables false

/-- what Parting hands back -/
def PartPost (n : Nat) (ls : List (Int × Int)) (rs : List (RowR (Int × Int))) (at_ : Int × Int) (w : World) (e : Ending) (w' : World) : Prop :=
  ∃ AE cE AL cL tl te, e = .returned (.tuple #[.agg #[.slice AE 3 cE, .slice AL n cL], .int .i64 0]) ∧ TruF w.heap.size w' AE AL n tl te ∧ PtT n ls rs at_ tl te ∧ Below w.heap.size w w'

set_option maxRecDepth 100000 in
set_option maxHeartbeats 16000000 in
theorem parting_ok (E : Option Addr) (ce : Nat) (L : Option Addr) (n cl : Nat) (rs : List (RowR (Int × Int))) (ls : List (Int × Int)) (A : Option Addr) (cA : Nat) (zs : List Int) (B : Option Addr) (cB : Nat) (us : List Int) (rx ry : Int) (w : World)
    (hC : Cse w E 3 L n rs ls) (hc : CaseOk n ls 3 rs) (hz : Ints w A n zs) (oz : ChipOk n n zs) (hu : Ints w B n us) (ou : ChipOk n n us) (hR : partR (rgA ls) (egA rs) (fun b => zF zs b - zF us b) n = ((rx, ry), true)) :
    Calls Tryz.prog 30 #[.agg #[.slice E 3 ce, .slice L n cl], .slice A n cA, .slice B n cB] w (PartPost n ls rs (rx, ry) w) := by
  have hn8 := hc.2.1
  have hn1 := hc.1
  have o1 : ∀ b, b < n → 0 ≤ zF zs b ∧ zF zs b ≤ 1000 := fun b hb => by have := oz.2 b hb; unfold zF; omega
  have o2 : ∀ b, b < n → 0 ≤ zF us b ∧ zF us b ≤ 1000 := fun b hb => by have := ou.2 b hb; unfold zF; omega
  have k1 := fun (C : Option Addr) (cc : Nat) (W : World) (hW : Below w.heap.size w W) (hr : RowsI W C 2 [⟨A, n, cA, zs⟩, ⟨B, n, cB, us⟩]) => newMatcher_ok E 3 ce L n cl rs ls C 2 cc [⟨A, n, cA, zs⟩, ⟨B, n, cB, us⟩] W (hC.below hW) hc hr (by omega) (fun x hx => by
    simp at hx
    rcases hx with rfl | rfl
    · exact oz
    · exact ou)
  have k2 := fun (W : World) (hW : Below w.heap.size w W) => less_any A cA B n cB zs us W (hz.below hW) (hu.below hW) (by omega) hn8 o1 o2
  have k3 := fun (g : Nat) (W : World) (hW : Below w.heap.size w W) (hI : Ints W (some ⟨g, 0, none⟩) n (lesL zs us n n)) => part_any E ce L n cl rs ls (some ⟨g, 0, none⟩) n (lesL zs us n n) W (hC.below hW) hc hI (les_bd o1 o2)
  rw [partR_les, hR] at k3
  have kl := fun (W : World) (hW : Below w.heap.size w W) => lows_any L n cl ls W (hC.l.below hW) hn8
  have hat : (rx = -1 ∧ ry = -1) ∨ ∃ c b : Nat, rx = (c : Int) ∧ ry = (b : Int) ∧ c < 3 ∧ b < n := by
    rcases partR_at hR with ⟨h1, h2, -⟩ | ⟨c, b, h1, h2, h3, h4, -⟩
    · exact .inl ⟨h1, h2⟩
    · exact .inr ⟨c, b, h1, h2, h3, h4⟩
  have hll : ls.length = n := hC.l.1
  have hlr : ∀ j, j < 3 → (rwP rs j).zs.length = n := fun j hj => by
    obtain ⟨b, off, A', n', c', zs', -, hg, -, -, hp, -⟩ := hC.e.atA (Below.refl _ _) hj
    have := hc.2.2.2.1 j hj
    rw [hg] at this ⊢
    exact hp.1.trans this
  have Hz := Lib.hid hz
  have Hu := Lib.hid hu
  have K2 := Lib.hid k2
  have K3 := Lib.hid k3
  have KL := Lib.hid kl
  have He := Lib.hid hC.e
  have Hl := Lib.hid hC.l
  have Hc := Lib.hid hc
  have Hat := Lib.hid hat
  have Hlr := Lib.hid hlr
  have Hll := Lib.hid hll
  have hnm : n ≤ 9223372036854775807 := by omega
  clear hC hc hz oz hu ou o1 o2 k2 k3 kl hat hlr hll hR
  go_enter Tryz.func30, Tryz.ntmps30
  go_wp2_with fail
  refine (k1 _ _ _ blA (RowsI.new2 _ _ _ _ _ _ _ _ _ _ _ (by simp) ((Hz.out.below blA)) ((Hu.out.below blA)) hnm hnm)).mono ?_
  rintro _ w2 ⟨rfl, hb2⟩
  have hbw : Below w.heap.size w w2 := blA
  have BR : Cs w2 (w.heap.size + 1) #[.slice none 0 0, .slice none 0 0] := Cs.keep csA hb2
  clear hb2 k1
  go_upto_region 4 with fail
  have BM : Cs (w2.alloc (.cells #[.slice E 3 ce, .slice L n cl] 120)) w2.heap.size #[.slice E 3 ce, .slice L n cl] := csA
  have hbm : Below w.heap.size w (w2.alloc (.cells #[.slice E 3 ce, .slice L n cl] 120)) := blA
  have BR1 : Cs (w2.alloc (.cells #[.slice E 3 ce, .slice L n cl] 120)) (w.heap.size + 1) #[.slice none 0 0, .slice none 0 0] := BR.alloc _
  have lRM : w.heap.size + 1 < w2.heap.size := BR.lt
  clear BR
  generalize (w2.alloc (.cells #[.slice E 3 ce, .slice L n cl] 120)) = W1 at *
  have HSt : Hid (∀ V, Below W1.drew.heap.size W1.drew V → V.cell? ⟨w2.heap.size, 0, none⟩ = some (.slice E 3 ce) ∧ V.cell? ⟨w2.heap.size, 1, none⟩ = some (.slice L n cl)) :=
    Lib.hid fun V hV => ⟨(BM.drew.keep hV).c 0, (BM.drew.keep hV).c 1⟩
  have HB : Hid (∀ V, Below W1.drew.heap.size W1.drew V → Below w.heap.size w V) := Lib.hid fun V hV => (Below.drew hbm).trans (hV.mono (Below.drew hbm).size)
  have HBR : Hid (∀ V, Below W1.drew.heap.size W1.drew V → Cs V (w.heap.size + 1) #[.slice none 0 0, .slice none 0 0] ∧ Cs V w2.heap.size #[.slice E 3 ce, .slice L n cl] ∧ Below w.heap.size w V) := Lib.hid fun V hV => ⟨BR1.drew.keep hV, BM.drew.keep hV, (Below.drew hbm).trans (hV.mono (Below.drew hbm).size)⟩
  clear BR1
  go_cut [10, 11] (fun s10 s11 wx => ∃ (pb : Nat) (V : World), s10 = .pointer (some ⟨pb, 0, none⟩) ∧ s11 = .bool true ∧ Hid (V = wx) ∧ Hid (Cs V pb #[.int .i64 rx, .int .i64 ry]) ∧ Hid (Cs V (w.heap.size + 1) #[.slice none 0 0, .slice none 0 0]) ∧ Hid (Cs V w2.heap.size #[.slice E 3 ce, .slice L n cl]) ∧ Hid (Below w.heap.size w V))
  case first =>
    refine wp_region_tree (S := fun V => V.cell? ⟨w2.heap.size, 0, none⟩ = some (.slice E 3 ce) ∧ V.cell? ⟨w2.heap.size, 1, none⟩ = some (.slice L n cl)) (.t 0 1 (.t 1 3 (.t 2 7 (.c 3 8 15 263 (.c 4 8 31 271 (.t 5 63 (.t 6 127 (.t 7 255 (.o 8 511 (.o 9 1023 (.t 10 2047 .nil)))))) (.o 4 287 (.t 5 319 (.t 6 383 (.t 7 511 (.o 9 1023 (.t 10 2047 .nil))))))) (.o 3 271 (.o 4 287 (.t 5 319 (.t 6 383 (.t 7 511 (.o 9 1023 (.t 10 2047 .nil))))))))))) (by kernel_rfl) (by kernel_rfl) (by as_aux_lemma => kernel_rfl) (by kernel_rfl) (fun c a d v w h => by cases d <;> exact h) (HSt.out _ (Below.refl _ _)) (fun hHeld => ?_)
    clear hHeld BM hbm
    generalize W1.drew = V0 at *
    obtain ⟨N0, hN0⟩ : ∃ N, V0.heap.size = N := ⟨_, rfl⟩
    rw [hN0] at HSt HB HBR
    have V0b : Below N0 V0 V0 := Below.refl _ _
    have hge : Hid (∀ V, Below N0 V0 V → N0 ≤ V.heap.size) := Lib.hid fun V hV => by have := hV.size; omega
    clear hN0
    iterate 3 (refine tree_take (v := ?_) rfl (by rfl) ?_ ?_; rotate_left; focus (intro w9 hSw; obtain ⟨s1, s2⟩ := hSw; (go_simp <;> with_reducible rfl)); try simp only [Act.put, List.setIfInBounds_toArray, List.set_cons_zero, List.set_cons_succ])
    refine tree_two ?_ ?_
    · refine tree_one rfl (fun K9 hS9 => ?_)
      go_simp
      refine (K2.out V0 (HB.out _ V0b)).mono ?_
      rintro e9 V1 ⟨g, rfl, hI, hy⟩
      have V1b := V0b.trans (hy.mono (hge.out _ V0b))
      refine hS9.out _ _ (HSt.out _ V1b) (fun _ => ?_)
      clear hS9 K9 hy
      try simp only [Act.put, List.setIfInBounds_toArray, List.set_cons_zero, List.set_cons_succ]
      refine tree_two ?_ ?_
      · refine tree_one rfl (fun K9 hS9 => ?_)
        go_simp
        refine (K3.out g V1 (HB.out _ V1b) hI).mono ?_
        rintro e9 V2 ⟨rfl, hy⟩
        have V2b := V1b.trans (hy.mono (hge.out _ V1b))
        refine hS9.out _ _ (HSt.out _ V2b) (fun _ => ?_)
        clear hS9 K9 hy hI
        try simp only [Act.put, List.setIfInBounds_toArray, List.set_cons_zero, List.set_cons_succ]
        iterate 3 (refine tree_take (v := ?_) rfl (by rfl) ?_ ?_; rotate_left; focus (intro w9 hSw; obtain ⟨s1, s2⟩ := hSw; (go_simp <;> with_reducible rfl)); try simp only [Act.put, List.setIfInBounds_toArray, List.set_cons_zero, List.set_cons_succ])
        refine tree_one rfl (fun K9 hS9 => ?_)
        go_simp
        have BP := Cs.new V2 _ #[.int .i64 0, .int .i64 0] 134 rfl
        have hal : Below V2.heap.size V2 (V2.alloc (.cells #[.int .i64 0, .int .i64 0] 134)) := balloc (Below.refl _ _) _
        have V3b := V2b.trans (hal.mono (hge.out _ V2b))
        have hpg : N0 ≤ V2.heap.size := hge.out _ V2b
        try replace hI := hI.below hal
        refine hS9.out _ _ (HSt.out _ V3b) (fun _ => ?_)
        clear hS9 K9 hal
        try simp only [Act.put, List.setIfInBounds_toArray, List.set_cons_zero, List.set_cons_succ]
        generalize V2.heap.size = pb at *
        generalize V2.alloc (.cells #[.int .i64 0, .int .i64 0] 134) = V3 at *
        have cBP := BP.c
        have fBP := BP.f
        have lBP := BP.lt
        refine tree_one rfl (fun K9 hS9 => ?_)
        go_simp
        have hFb := (V3b.setCell (p := ⟨pb, 0, none⟩) hpg (.int .i64 rx)).setCell (p := ⟨pb, 1, none⟩) hpg (.int .i64 ry)
        have HPB := Lib.hid (BP.set2 (.int .i64 rx) (.int .i64 ry))
        refine hS9.out _ _ (HSt.out _ hFb) (fun _ => ?_)
        clear hS9 K9 cBP fBP lBP BP
        try simp only [Act.put, List.setIfInBounds_toArray, List.set_cons_zero, List.set_cons_succ]
        iterate 1 (refine tree_take (v := ?_) rfl (by rfl) ?_ ?_; rotate_left; focus (intro w9 hSw; obtain ⟨s1, s2⟩ := hSw; (go_simp <;> with_reducible rfl)); try simp only [Act.put, List.setIfInBounds_toArray, List.set_cons_zero, List.set_cons_succ])
        refine tree_done (fun U => (V3.setCell ⟨pb, 0, none⟩ (.int .i64 rx)).setCell ⟨pb, 1, none⟩ (.int .i64 ry) = U) rfl (fun U hU => ?_)
        subst hU
        have HFb := Lib.hid hFb
        clear hFb
        go_wp2_with fail
        go_meet
        case rel => exact ⟨pb, _, rfl, rfl, Lib.hid rfl, HPB, Lib.hid (HBR.out _ HFb.out).1, Lib.hid (HBR.out _ HFb.out).2.1, Lib.hid (HBR.out _ HFb.out).2.2⟩
      · refine tree_one rfl (fun K9 hS9 => ?_)
        go_simp
        have BP := Cs.new V1 _ #[.int .i64 0, .int .i64 0] 134 rfl
        have hal : Below V1.heap.size V1 (V1.alloc (.cells #[.int .i64 0, .int .i64 0] 134)) := balloc (Below.refl _ _) _
        have V2b := V1b.trans (hal.mono (hge.out _ V1b))
        have hpg : N0 ≤ V1.heap.size := hge.out _ V1b
        try replace hI := hI.below hal
        refine hS9.out _ _ (HSt.out _ V2b) (fun _ => ?_)
        clear hS9 K9 hal
        try simp only [Act.put, List.setIfInBounds_toArray, List.set_cons_zero, List.set_cons_succ]
        generalize V1.heap.size = pb at *
        generalize V1.alloc (.cells #[.int .i64 0, .int .i64 0] 134) = V2 at *
        refine tree_one rfl (fun K9 hS9 => ?_)
        go_simp
        refine (K3.out g V2 (HB.out _ V2b) hI).mono ?_
        rintro e9 V3 ⟨rfl, hy⟩
        have V3b := V2b.trans (hy.mono (hge.out _ V2b))
        replace BP := BP.keep hy
        refine hS9.out _ _ (HSt.out _ V3b) (fun _ => ?_)
        clear hS9 K9 hy hI
        try simp only [Act.put, List.setIfInBounds_toArray, List.set_cons_zero, List.set_cons_succ]
        iterate 3 (refine tree_take (v := ?_) rfl (by rfl) ?_ ?_; rotate_left; focus (intro w9 hSw; obtain ⟨s1, s2⟩ := hSw; (go_simp <;> with_reducible rfl)); try simp only [Act.put, List.setIfInBounds_toArray, List.set_cons_zero, List.set_cons_succ])
        have cBP := BP.c
        have fBP := BP.f
        have lBP := BP.lt
        refine tree_one rfl (fun K9 hS9 => ?_)
        go_simp
        have hFb := (V3b.setCell (p := ⟨pb, 0, none⟩) hpg (.int .i64 rx)).setCell (p := ⟨pb, 1, none⟩) hpg (.int .i64 ry)
        have HPB := Lib.hid (BP.set2 (.int .i64 rx) (.int .i64 ry))
        refine hS9.out _ _ (HSt.out _ hFb) (fun _ => ?_)
        clear hS9 K9 cBP fBP lBP BP
        try simp only [Act.put, List.setIfInBounds_toArray, List.set_cons_zero, List.set_cons_succ]
        iterate 1 (refine tree_take (v := ?_) rfl (by rfl) ?_ ?_; rotate_left; focus (intro w9 hSw; obtain ⟨s1, s2⟩ := hSw; (go_simp <;> with_reducible rfl)); try simp only [Act.put, List.setIfInBounds_toArray, List.set_cons_zero, List.set_cons_succ])
        refine tree_done (fun U => (V3.setCell ⟨pb, 0, none⟩ (.int .i64 rx)).setCell ⟨pb, 1, none⟩ (.int .i64 ry) = U) rfl (fun U hU => ?_)
        subst hU
        have HFb := Lib.hid hFb
        clear hFb
        go_wp2_with fail
        go_meet
        case rel => exact ⟨pb, _, rfl, rfl, Lib.hid rfl, HPB, Lib.hid (HBR.out _ HFb.out).1, Lib.hid (HBR.out _ HFb.out).2.1, Lib.hid (HBR.out _ HFb.out).2.2⟩
    · refine tree_one rfl (fun K9 hS9 => ?_)
      go_simp
      have BP := Cs.new V0 _ #[.int .i64 0, .int .i64 0] 134 rfl
      have hal : Below V0.heap.size V0 (V0.alloc (.cells #[.int .i64 0, .int .i64 0] 134)) := balloc (Below.refl _ _) _
      have V1b := V0b.trans (hal.mono (hge.out _ V0b))
      have hpg : N0 ≤ V0.heap.size := hge.out _ V0b
      try replace hI := hI.below hal
      refine hS9.out _ _ (HSt.out _ V1b) (fun _ => ?_)
      clear hS9 K9 hal
      try simp only [Act.put, List.setIfInBounds_toArray, List.set_cons_zero, List.set_cons_succ]
      generalize V0.heap.size = pb at *
      generalize V0.alloc (.cells #[.int .i64 0, .int .i64 0] 134) = V1 at *
      refine tree_one rfl (fun K9 hS9 => ?_)
      go_simp
      refine (K2.out V1 (HB.out _ V1b)).mono ?_
      rintro e9 V2 ⟨g, rfl, hI, hy⟩
      have V2b := V1b.trans (hy.mono (hge.out _ V1b))
      replace BP := BP.keep hy
      refine hS9.out _ _ (HSt.out _ V2b) (fun _ => ?_)
      clear hS9 K9 hy
      try simp only [Act.put, List.setIfInBounds_toArray, List.set_cons_zero, List.set_cons_succ]
      refine tree_one rfl (fun K9 hS9 => ?_)
      go_simp
      refine (K3.out g V2 (HB.out _ V2b) hI).mono ?_
      rintro e9 V3 ⟨rfl, hy⟩
      have V3b := V2b.trans (hy.mono (hge.out _ V2b))
      replace BP := BP.keep hy
      refine hS9.out _ _ (HSt.out _ V3b) (fun _ => ?_)
      clear hS9 K9 hy hI
      try simp only [Act.put, List.setIfInBounds_toArray, List.set_cons_zero, List.set_cons_succ]
      iterate 3 (refine tree_take (v := ?_) rfl (by rfl) ?_ ?_; rotate_left; focus (intro w9 hSw; obtain ⟨s1, s2⟩ := hSw; (go_simp <;> with_reducible rfl)); try simp only [Act.put, List.setIfInBounds_toArray, List.set_cons_zero, List.set_cons_succ])
      have cBP := BP.c
      have fBP := BP.f
      have lBP := BP.lt
      refine tree_one rfl (fun K9 hS9 => ?_)
      go_simp
      have hFb := (V3b.setCell (p := ⟨pb, 0, none⟩) hpg (.int .i64 rx)).setCell (p := ⟨pb, 1, none⟩) hpg (.int .i64 ry)
      have HPB := Lib.hid (BP.set2 (.int .i64 rx) (.int .i64 ry))
      refine hS9.out _ _ (HSt.out _ hFb) (fun _ => ?_)
      clear hS9 K9 cBP fBP lBP BP
      try simp only [Act.put, List.setIfInBounds_toArray, List.set_cons_zero, List.set_cons_succ]
      iterate 1 (refine tree_take (v := ?_) rfl (by rfl) ?_ ?_; rotate_left; focus (intro w9 hSw; obtain ⟨s1, s2⟩ := hSw; (go_simp <;> with_reducible rfl)); try simp only [Act.put, List.setIfInBounds_toArray, List.set_cons_zero, List.set_cons_succ])
      refine tree_done (fun U => (V3.setCell ⟨pb, 0, none⟩ (.int .i64 rx)).setCell ⟨pb, 1, none⟩ (.int .i64 ry) = U) rfl (fun U hU => ?_)
      subst hU
      have HFb := Lib.hid hFb
      clear hFb
      go_wp2_with fail
      go_meet
      case rel => exact ⟨pb, _, rfl, rfl, Lib.hid rfl, HPB, Lib.hid (HBR.out _ HFb.out).1, Lib.hid (HBR.out _ HFb.out).2.1, Lib.hid (HBR.out _ HFb.out).2.2⟩
  case rest =>
    clear HSt HB HBR BM hbm K2 K3 Hz Hu
    obtain ⟨pb, V, rfl, rfl, HV, HP, HBR, HBM, HbV⟩ := hcut
    obtain rfl := HV.out
    clear HV
    have cM := HBM.out.c
    go_wp2_with fail
    refine (KL.out V HbV.out).mono ?_
    rintro _ w3 ⟨o, cL, rfl, hO, hb3⟩
    obtain ⟨gl, cL', e1, -⟩ := World.ownsRow.form hO hn1
    injection e1 with e1 e2 e3
    subst e1
    clear e2 e3 cM
    have hgl := own_lt hO
    have hq0 := HBR.out.lt
    have hp0 := HP.out.lt
    have hm0 := HBM.out.lt
    replace HP := Lib.hid (HP.out.keep hb3)
    replace HBR := Lib.hid (HBR.out.keep hb3)
    replace HBM := Lib.hid (HBM.out.keep hb3)
    have lP := HP.out.lt
    have lR9 := HBR.out.lt
    have lM9 := HBM.out.lt
    have hb3w := HbV.out.trans (hb3.mono HbV.out.size)
    have hqg : w.heap.size + 1 < gl := by have h2 := hgl.1; omega
    have hpg : pb < gl := by have h2 := hgl.1; omega
    have hMg : w2.heap.size < gl := by have h2 := hgl.1; omega
    have cM := HBM.out.c
    have lM := HBM.out.lt
    obtain ⟨W4, hW4⟩ : ∃ W4, w3.alloc (.cells #[.slice none 0 0, .slice (some ⟨gl, 0, none⟩) n cL] 32) = W4 := ⟨_, rfl⟩
    have HJ0 : Hid (JP w w3.heap.size n gl cL ls rs 0 (.slice none 0 0) [] W4) := Lib.hid (by
      rw [← hW4]
      exact ⟨csA, World.ownsRow_nil _ _ _ _, own_rebase (hO.alloc _) HbV.out.size, hgl.2, rfl, fun j hj => absurd hj (by omega), fun j k hj => absurd hj (by omega), by simp, hb3w.size, blA⟩)
    replace HP := Lib.hid (show Cs W4 pb #[.int .i64 rx, .int .i64 ry] by rw [← hW4]; exact HP.out.alloc _)
    replace HBR := Lib.hid (show Cs W4 (w.heap.size + 1) #[.slice none 0 0, .slice none 0 0] by rw [← hW4]; exact HBR.out.alloc _)
    replace HBM := Lib.hid (show Cs W4 w2.heap.size #[.slice E 3 ce, .slice L n cl] by rw [← hW4]; exact HBM.out.alloc _)
    clear hb3 HbV hO
    have cM4 := HBM.out.c
    have HW4 := Lib.hid hW4
    clear hW4
    go_wp2_with fail
    rw [HW4.out]
    clear HW4 cM lM cM4
    go_loopw [47] (fun s47 wx => ∃ (i : Nat) (v : Value) (te : List (RowR Int)) (W : World), i ≤ 3 ∧ s47 = .int .i64 (i : Nat) ∧ Hid (W = wx) ∧ Hid (JP w w3.heap.size n gl cL ls rs i v te W) ∧ Hid (Below w3.heap.size W4 W)) (fun s47 _ => 3 - (intOf s47).toNat)
    case atStart => exact ⟨0, _, [], _, by omega, rfl, Lib.hid rfl, HJ0, Lib.hid (Below.refl _ _)⟩
    case round =>
      clear HJ0
      obtain ⟨i, v, te, W, hi, rfl, HW, HJ, HB⟩ := hrel
      obtain rfl := HW.out
      clear HW
      by_cases hin : i < 3
      · obtain ⟨eb, eo, A', n', c', zs', rfl, hg, elt, ec, hp, hn'⟩ := He.out.atA HJ.out.b hin
        have e1 : n' = n := by have := Hc.out.2.2.2.1 i hin; rw [hg] at this; exact this
        subst e1
        have hii : (i : Int) < 3 := by omega
        have Hp := Lib.hid hp
        have Hg := Lib.hid hg
        clear hp hg
        go_wp2_with fail
        have hvW : ∀ g, v.ownBlock = some g → g < W.heap.size := fun g e => (HJ.out.o.lt g e).2
        have hdW : ∀ j, j < i → ∃ g, (rwI te j).A = some ⟨g, 0, none⟩ ∧ g < W.heap.size := fun j hj => by
          obtain ⟨g, c, q1, q2, -⟩ := HJ.out.r j hj
          exact ⟨g, by rw [q1], (own_lt q2).2⟩
        refine wp_region_tree (S := fun _ => True) (.t 0 1 (.t 2 5 (.c 1 3 7 13 (.o 3 15 (.o 4 31 (.o 5 63 (.t 6 127 (.o 7 255 .nil))))) (.c 1 4 15 29 (.o 4 31 (.o 5 63 (.t 6 127 (.o 7 255 .nil)))) (.o 1 31 (.o 5 63 (.t 6 127 (.o 7 255 .nil)))))))) (by kernel_rfl) (by kernel_rfl) (by as_aux_lemma => kernel_rfl) (by kernel_rfl) (fun c a d v w h => by cases d <;> exact h) trivial (fun _ => ?_)
        have bV0 : Below W.heap.size W W.drew := Below.drew (Below.refl _ _)
        have JV0 := HJ.out.keep bV0
        generalize W.drew = V0 at *
        iterate 2 (refine tree_take (v := ?_) rfl (by rfl) ?_ ?_; rotate_left; (focus (intro w9 hSw; (go_simp <;> with_reducible rfl))); try simp only [Act.put, List.setIfInBounds_toArray, List.set_cons_zero, List.set_cons_succ])
        refine tree_two ?_ ?_
        · refine tree_one rfl (fun K9 hS9 => ?_)
          have c0 := JV0.cx.c 0
          go_simp
          refine hS9.out _ _ trivial (fun _ => ?_)
          clear hS9 K9 c0
          try simp only [Act.put, List.setIfInBounds_toArray, List.set_cons_zero, List.set_cons_succ]
          refine tree_one rfl (fun K9 hS9 => ?_)
          go_simp
          refine (lows_any _ n' c' zs' V0 (Hp.out.below bV0) hn8).mono ?_
          rintro e9 V1 ⟨o9, cr, rfl, hOV1, hy⟩
          obtain ⟨gr, cr', e1, -⟩ := World.ownsRow.form hOV1 hn1
          injection e1 with e1 e2 e3
          subst e1
          clear e2 e3 cr'
          have hgr : W.heap.size ≤ gr := Nat.le_trans bV0.size (own_lt hOV1).1
          replace hOV1 := own_rebase hOV1 JV0.s
          have JV1 := JV0.keep hy
          have bV1 := bV0.trans (hy.mono bV0.size)
          refine hS9.out _ _ trivial (fun _ => ?_)
          clear hS9 K9 hy
          try simp only [Act.put, List.setIfInBounds_toArray, List.set_cons_zero, List.set_cons_succ]
          refine tree_one rfl (fun K9 hS9 => ?_)
          go_simp
          obtain ⟨V2, hV2⟩ : ∃ U, V1.alloc (.cells #[.slice (some ⟨gr, 0, none⟩) n' cr] 30) = U := ⟨_, rfl⟩
          have CR : V2.heap[V1.heap.size]? = some (.cells ⟨[.slice (some ⟨gr, 0, none⟩) n' cr]⟩ 30 (0, 0)) := by rw [← hV2]; exact heap_alloc_new V1 _
          have hal : Below V1.heap.size V1 V2 := by rw [← hV2]; exact balloc (Below.refl _ _) _
          have JV2 := JV1.keep hal
          have hOV2 := own_keep hOV1 hal
          have bV2 := bV1.trans (hal.mono bV1.size)
          try rw [hV2]
          refine hS9.out _ _ trivial (fun _ => ?_)
          clear hS9 K9 hal hV2
          generalize V1.heap.size = b1 at CR ⊢
          try simp only [Act.put, List.setIfInBounds_toArray, List.set_cons_zero, List.set_cons_succ]
          obtain ⟨g7, c7, V3, hrun, r1, r2, rne, rg, ro⟩ := app_two elRowI JV2.o (World.ownsRow_nil V2 _ 2 1) (fun g e e2 => by cases e2) CR rfl (by intro u hu; simp at hu; subst hu; rfl) (by omega) JV2.s 26
          refine tree_app rfl rfl rfl rfl rfl hrun trivial ?_
          obtain ⟨D, JN⟩ := JV2.next (by rw [Hg.out]; exact hOV2) (fun e => by have := hvW _ e; omega) (fun j hj e => by obtain ⟨g, q1, q2⟩ := hdW j hj; rw [q1] at e; injection e with e; injection e with e; omega) r1 rg ro
          have bX : Below w3.heap.size V2 V3 := below_grewB rg (fun g e => by have := (JV2.o.lt g e).1; omega) (by have := JV2.s; omega)
          have bN := (HB.out.trans (bV2.mono (by have := HJ.out.s; omega))).trans bX
          have HJN := Lib.hid JN
          have HBN := Lib.hid (below_set bN (p := ⟨w3.heap.size, 0, none⟩) (Nat.le_refl _) (.slice (some ⟨g7, 0, none⟩) (i + 1) c7))
          clear hrun r1 r2 rne rg ro bX bN JN CR hOV2 JV2
          try simp only [Act.put, List.setIfInBounds_toArray, List.set_cons_zero, List.set_cons_succ]
          iterate 1 (refine tree_take (v := ?_) rfl (by rfl) ?_ ?_; rotate_left; (focus (intro w9 hSw; (go_simp <;> with_reducible rfl))); try simp only [Act.put, List.setIfInBounds_toArray, List.set_cons_zero, List.set_cons_succ])
          have cD := D.c
          have fD := D.f
          have lD := D.lt
          refine tree_one rfl (fun K9 hS9 => ?_)
          go_simp
          refine hS9.out _ _ trivial (fun _ => ?_)
          clear hS9 K9 cD fD lD D
          try simp only [Act.put, List.setIfInBounds_toArray, List.set_cons_zero, List.set_cons_succ]
          refine tree_done (fun U => V3.setCell ⟨w3.heap.size, 0, none⟩ (.slice (some ⟨g7, 0, none⟩) (i + 1) c7) = U) rfl (fun U hU => ?_)
          subst hU
          go_wp2_with fail
          go_roundw
          case rel => exact ⟨i + 1, _, _, _, by omega, by go_num, Lib.hid rfl, HJN, HBN⟩
          case measure => simp [intOf]; omega
        · refine tree_one rfl (fun K9 hS9 => ?_)
          go_simp
          refine (lows_any _ n' c' zs' V0 (Hp.out.below bV0) hn8).mono ?_
          rintro e9 V1 ⟨o9, cr, rfl, hOV1, hy⟩
          obtain ⟨gr, cr', e1, -⟩ := World.ownsRow.form hOV1 hn1
          injection e1 with e1 e2 e3
          subst e1
          clear e2 e3 cr'
          have hgr : W.heap.size ≤ gr := Nat.le_trans bV0.size (own_lt hOV1).1
          replace hOV1 := own_rebase hOV1 JV0.s
          have JV1 := JV0.keep hy
          have bV1 := bV0.trans (hy.mono bV0.size)
          refine hS9.out _ _ trivial (fun _ => ?_)
          clear hS9 K9 hy
          try simp only [Act.put, List.setIfInBounds_toArray, List.set_cons_zero, List.set_cons_succ]
          refine tree_two ?_ ?_
          · refine tree_one rfl (fun K9 hS9 => ?_)
            have c0 := JV1.cx.c 0
            go_simp
            refine hS9.out _ _ trivial (fun _ => ?_)
            clear hS9 K9 c0
            try simp only [Act.put, List.setIfInBounds_toArray, List.set_cons_zero, List.set_cons_succ]
            refine tree_one rfl (fun K9 hS9 => ?_)
            go_simp
            obtain ⟨V2, hV2⟩ : ∃ U, V1.alloc (.cells #[.slice (some ⟨gr, 0, none⟩) n' cr] 30) = U := ⟨_, rfl⟩
            have CR : V2.heap[V1.heap.size]? = some (.cells ⟨[.slice (some ⟨gr, 0, none⟩) n' cr]⟩ 30 (0, 0)) := by rw [← hV2]; exact heap_alloc_new V1 _
            have hal : Below V1.heap.size V1 V2 := by rw [← hV2]; exact balloc (Below.refl _ _) _
            have JV2 := JV1.keep hal
            have hOV2 := own_keep hOV1 hal
            have bV2 := bV1.trans (hal.mono bV1.size)
            try rw [hV2]
            refine hS9.out _ _ trivial (fun _ => ?_)
            clear hS9 K9 hal hV2
            generalize V1.heap.size = b1 at CR ⊢
            try simp only [Act.put, List.setIfInBounds_toArray, List.set_cons_zero, List.set_cons_succ]
            obtain ⟨g7, c7, V3, hrun, r1, r2, rne, rg, ro⟩ := app_two elRowI JV2.o (World.ownsRow_nil V2 _ 2 1) (fun g e e2 => by cases e2) CR rfl (by intro u hu; simp at hu; subst hu; rfl) (by omega) JV2.s 26
            refine tree_app rfl rfl rfl rfl rfl hrun trivial ?_
            obtain ⟨D, JN⟩ := JV2.next (by rw [Hg.out]; exact hOV2) (fun e => by have := hvW _ e; omega) (fun j hj e => by obtain ⟨g, q1, q2⟩ := hdW j hj; rw [q1] at e; injection e with e; injection e with e; omega) r1 rg ro
            have bX : Below w3.heap.size V2 V3 := below_grewB rg (fun g e => by have := (JV2.o.lt g e).1; omega) (by have := JV2.s; omega)
            have bN := (HB.out.trans (bV2.mono (by have := HJ.out.s; omega))).trans bX
            have HJN := Lib.hid JN
            have HBN := Lib.hid (below_set bN (p := ⟨w3.heap.size, 0, none⟩) (Nat.le_refl _) (.slice (some ⟨g7, 0, none⟩) (i + 1) c7))
            clear hrun r1 r2 rne rg ro bX bN JN CR hOV2 JV2
            try simp only [Act.put, List.setIfInBounds_toArray, List.set_cons_zero, List.set_cons_succ]
            iterate 1 (refine tree_take (v := ?_) rfl (by rfl) ?_ ?_; rotate_left; (focus (intro w9 hSw; (go_simp <;> with_reducible rfl))); try simp only [Act.put, List.setIfInBounds_toArray, List.set_cons_zero, List.set_cons_succ])
            have cD := D.c
            have fD := D.f
            have lD := D.lt
            refine tree_one rfl (fun K9 hS9 => ?_)
            go_simp
            refine hS9.out _ _ trivial (fun _ => ?_)
            clear hS9 K9 cD fD lD D
            try simp only [Act.put, List.setIfInBounds_toArray, List.set_cons_zero, List.set_cons_succ]
            refine tree_done (fun U => V3.setCell ⟨w3.heap.size, 0, none⟩ (.slice (some ⟨g7, 0, none⟩) (i + 1) c7) = U) rfl (fun U hU => ?_)
            subst hU
            go_wp2_with fail
            go_roundw
            case rel => exact ⟨i + 1, _, _, _, by omega, by go_num, Lib.hid rfl, HJN, HBN⟩
            case measure => simp [intOf]; omega
          · refine tree_one rfl (fun K9 hS9 => ?_)
            go_simp
            obtain ⟨V2, hV2⟩ : ∃ U, V1.alloc (.cells #[.slice (some ⟨gr, 0, none⟩) n' cr] 30) = U := ⟨_, rfl⟩
            have CR : V2.heap[V1.heap.size]? = some (.cells ⟨[.slice (some ⟨gr, 0, none⟩) n' cr]⟩ 30 (0, 0)) := by rw [← hV2]; exact heap_alloc_new V1 _
            have hal : Below V1.heap.size V1 V2 := by rw [← hV2]; exact balloc (Below.refl _ _) _
            have JV2 := JV1.keep hal
            have hOV2 := own_keep hOV1 hal
            have bV2 := bV1.trans (hal.mono bV1.size)
            try rw [hV2]
            refine hS9.out _ _ trivial (fun _ => ?_)
            clear hS9 K9 hal hV2
            generalize V1.heap.size = b1 at CR ⊢
            try simp only [Act.put, List.setIfInBounds_toArray, List.set_cons_zero, List.set_cons_succ]
            refine tree_one rfl (fun K9 hS9 => ?_)
            have c0 := JV2.cx.c 0
            go_simp
            refine hS9.out _ _ trivial (fun _ => ?_)
            clear hS9 K9 c0
            try simp only [Act.put, List.setIfInBounds_toArray, List.set_cons_zero, List.set_cons_succ]
            obtain ⟨g7, c7, V3, hrun, r1, r2, rne, rg, ro⟩ := app_two elRowI JV2.o (World.ownsRow_nil V2 _ 2 1) (fun g e e2 => by cases e2) CR rfl (by intro u hu; simp at hu; subst hu; rfl) (by omega) JV2.s 26
            refine tree_app rfl rfl rfl rfl rfl hrun trivial ?_
            obtain ⟨D, JN⟩ := JV2.next (by rw [Hg.out]; exact hOV2) (fun e => by have := hvW _ e; omega) (fun j hj e => by obtain ⟨g, q1, q2⟩ := hdW j hj; rw [q1] at e; injection e with e; injection e with e; omega) r1 rg ro
            have bX : Below w3.heap.size V2 V3 := below_grewB rg (fun g e => by have := (JV2.o.lt g e).1; omega) (by have := JV2.s; omega)
            have bN := (HB.out.trans (bV2.mono (by have := HJ.out.s; omega))).trans bX
            have HJN := Lib.hid JN
            have HBN := Lib.hid (below_set bN (p := ⟨w3.heap.size, 0, none⟩) (Nat.le_refl _) (.slice (some ⟨g7, 0, none⟩) (i + 1) c7))
            clear hrun r1 r2 rne rg ro bX bN JN CR hOV2 JV2
            try simp only [Act.put, List.setIfInBounds_toArray, List.set_cons_zero, List.set_cons_succ]
            iterate 1 (refine tree_take (v := ?_) rfl (by rfl) ?_ ?_; rotate_left; (focus (intro w9 hSw; (go_simp <;> with_reducible rfl))); try simp only [Act.put, List.setIfInBounds_toArray, List.set_cons_zero, List.set_cons_succ])
            have cD := D.c
            have fD := D.f
            have lD := D.lt
            refine tree_one rfl (fun K9 hS9 => ?_)
            go_simp
            refine hS9.out _ _ trivial (fun _ => ?_)
            clear hS9 K9 cD fD lD D
            try simp only [Act.put, List.setIfInBounds_toArray, List.set_cons_zero, List.set_cons_succ]
            refine tree_done (fun U => V3.setCell ⟨w3.heap.size, 0, none⟩ (.slice (some ⟨g7, 0, none⟩) (i + 1) c7) = U) rfl (fun U hU => ?_)
            subst hU
            go_wp2_with fail
            go_roundw
            case rel => exact ⟨i + 1, _, _, _, by omega, by go_num, Lib.hid rfl, HJN, HBN⟩
            case measure => simp [intOf]; omega
      · obtain rfl : i = 3 := by omega
        have HP4 := Lib.hid (HP.out.keepB lP HB.out)
        have HR4 := Lib.hid (HBR.out.keepB lR9 HB.out)
        have HM4 := Lib.hid (HBM.out.keepB lM9 HB.out)
        obtain ⟨AE, cE, e1, hrows⟩ := HJ.out.rows hn8
        subst e1
        have cP := HP4.out.c
        have cX := HJ.out.cx.c
        have cR := HR4.out.c
        have fR := HR4.out.f
        have lR := HR4.out.lt
        rcases Hat.out with ⟨rfl, rfl⟩ | ⟨k, b, rfl, rfl, hk3, hb⟩
        · have Hres := Lib.hid (HJ.out.tru hn8 hqg (Nat.le_succ _) (.slice AE 3 cE) (.slice (some ⟨gl, 0, none⟩) n cL))
          clear hrows
          go_wp2_with fail
          obtain ⟨A', c', e', hT, hB⟩ := Hres.out
          injection e' with e1 _ e2
          subst e1 e2
          have D1 := HR4.out.set2 (.slice AE 3 cE) (.slice (some ⟨gl, 0, none⟩) n cL)
          have cD1 := D1.c
          have fD1 := D1.f
          have lD1 := D1.lt
          exact bodyPost_ret (v := .tuple #[.agg #[.slice AE 3 cE, .slice (some ⟨gl, 0, none⟩) n cL], .int .i64 0]) (by simp [results, Tryz.results30, go_sem, cD1, fD1, lD1]) rfl (by refine ⟨AE, cE, some ⟨gl, 0, none⟩, cL, fstL ls, te, rfl, hT, HJ.out.plain Hll.out Hlr.out, hB⟩)
        · have hb0 : (0 : Int) ≤ (b : Int) := by omega
          have hbn : (b : Int) < (n : Int) := by omega
          have hk0 : (0 : Int) ≤ (k : Int) := by omega
          have hk3' : (k : Int) < 3 := by omega
          obtain ⟨lb, lo, rfl, llt, l0, l1⟩ := Hl.out.atA HJ.out.b hb
          obtain ⟨eb, eo, A', n', c', zs', rfl, hg, elt, ec, hp, hn'⟩ := He.out.atA HJ.out.b hk3
          obtain rfl : n = n' := by have := Hc.out.2.2.2.1 k hk3; rw [hg] at this; exact this.symm
          obtain ⟨rb, ro, rfl, rlt, r0, r1⟩ := hp.atA (Below.refl _ _) hb
          have rlt2 : rb < w.heap.size := by
            obtain ⟨eb2, eo2, A2, n2, c2, zs2, -, hg2, -, -, hp2, -⟩ := He.out.atA (Below.refl _ _) hk3
            rw [hg] at hg2
            injection hg2 with hA hn hc hz
            subst hA hn hc hz
            obtain ⟨b5, o5, e5, h5, -⟩ := hp2.atA (Below.refl _ _) hb
            injection e5 with e5; injection e5 with e5
            omega
          obtain ⟨g, cr, q1, q2, q3⟩ := HJ.out.r k hk3
          obtain ⟨xb, xo, A2, n2, c2, zs2, rfl, hg2, xlt, xc, -, -⟩ := hrows.atA (Below.refl _ _) hk3
          rw [q1] at hg2
          injection hg2 with hA hn hc hz
          subst hA hn hc hz
          have hxX := (HJ.out.o.lt xb rfl).1
          have hgX := own_lt q2
          have hxg : xb ≠ g := fun e => q3 (by rw [← e]; rfl)
          have hglw := own_lt HJ.out.l
          have hglX := HJ.out.gx
          have hXw := HJ.out.xw
          have eh1 : ∃ x, (rgA ls b).2 = x := ⟨_, rfl⟩
          obtain ⟨h1, eh1⟩ := eh1
          have eh2 : ∃ x, (egA rs k b).2 = x := ⟨_, rfl⟩
          obtain ⟨h2, eh2⟩ := eh2
          rw [eh1] at l1
          rw [show (rgA zs' b).2 = h2 by rw [← eh2]; unfold egA; rw [hg]] at r1
          have Hput := Lib.hid (fun (V : World) (hV : JP w w3.heap.size n gl cL ls rs 3 (.slice (some ⟨xb, xo, none⟩) 3 cE) te V) (u0 u1 : Value) => hV.put hn8 Hll.out Hlr.out hk3 hb q1 hqg (Nat.le_succ _) u0 u1)
          rw [eh1, eh2] at Hput
          have cl0 := HJ.out.l.cellAt b (by omega)
          have fl0 := HJ.out.l.frozenAt b
          rw [show ((fstL ls).map (Value.int .i64))[b]? = some (.int .i64 (rgA ls b).1) by
            have := fstL_get (zs := ls) (b := b) (by rw [Hll.out]; exact hb)
            rw [List.getD_eq_getElem?_getD] at this
            have hl : b < (fstL ls).length := by unfold fstL; simp; rw [Hll.out]; exact hb
            rw [List.getElem?_map, List.getElem?_eq_getElem hl] at *
            simp at this
            simp [this]] at cl0
          clear hrows hg hp r0 l0 q1
          go_wp2_with fail
          have hS14 : W.drew.cell? ⟨w3.heap.size, 1, none⟩ = some (.slice (some ⟨gl, 0, none⟩) n cL) ∧ W.drew.cell? ⟨pb, 1, none⟩ = some (.int .i64 (b : Nat)) ∧ W.drew.cell? ⟨w2.heap.size, 1, none⟩ = some (.slice (some ⟨lb, lo, none⟩) n cl) ∧ W.drew.cell? ⟨lb, lo + b * 2 + 1, none⟩ = some (.int .i64 h1) := ⟨cX 1, cP 1, HM4.out.c 1, l1⟩
          refine wp_region_tree (S := fun U => U.cell? ⟨w3.heap.size, 1, none⟩ = some (.slice (some ⟨gl, 0, none⟩) n cL) ∧ U.cell? ⟨pb, 1, none⟩ = some (.int .i64 (b : Nat)) ∧ U.cell? ⟨w2.heap.size, 1, none⟩ = some (.slice (some ⟨lb, lo, none⟩) n cl) ∧ U.cell? ⟨lb, lo + b * 2 + 1, none⟩ = some (.int .i64 h1)) (.t 0 1 (.t 1 3 (.t 2 7 (.t 3 15 (.t 4 31 (.t 5 63 (.t 6 127 (.t 7 255 (.t 8 511 (.t 9 1023 (.t 10 2047 (.t 11 4095 (.t 12 8191 (.o 13 16383 .nil)))))))))))))) (by kernel_rfl) (by kernel_rfl) (by as_aux_lemma => kernel_rfl) (by kernel_rfl) (fun c a d v w h => by cases d <;> exact h) hS14 (fun hHeld => ?_)
          clear hHeld
          iterate 13 (refine tree_take (v := ?_) rfl (by rfl) ?_ ?_; rotate_left; (focus (intro w9 hSw; obtain ⟨s1, s2, s3, s4⟩ := hSw; (go_simp <;> with_reducible rfl))); try simp only [Act.put, List.setIfInBounds_toArray, List.set_cons_zero, List.set_cons_succ])
          have hS15 : W.drew.cell? ⟨w3.heap.size, 0, none⟩ = some (.slice (some ⟨xb, xo, none⟩) 3 cE) ∧ W.drew.cell? ⟨pb, 0, none⟩ = some (.int .i64 (k : Nat)) ∧ W.drew.cell? ⟨xb, xo + k, none⟩ = some (.slice (some ⟨g, 0, none⟩) n cr) ∧ W.drew.cell? ⟨pb, 1, none⟩ = some (.int .i64 (b : Nat)) ∧ W.drew.cell? ⟨w2.heap.size, 0, none⟩ = some (.slice (some ⟨eb, eo, none⟩) 3 ce) ∧ W.drew.cell? ⟨eb, eo + k, none⟩ = some (.slice (some ⟨rb, ro, none⟩) n c') ∧ W.drew.cell? ⟨rb, ro + b * 2 + 1, none⟩ = some (.int .i64 h2) := ⟨cX 0, cP 0, xc, cP 1, HM4.out.c 0, ec, r1⟩
          have JV0 := HJ.out.keep (Below.drew (Below.refl _ _))
          have cl1 : W.drew.cell? ⟨gl, b, none⟩ = some (.int .i64 (rgA ls b).1) := cl0
          have fl1 : W.drew.frozen? ⟨gl, b, none⟩ = false := fl0
          have HR5 := Lib.hid (HR4.out.drew)
          have HV0b : Below W.heap.size W W.drew := Below.drew (Below.refl _ _)
          generalize W.drew = V0 at *
          have q2' := JV0.r k hk3
          have JP0 := Lib.hid (fun u0 u1 => Hput.out V0 JV0 u0 u1)
          have qr : V0.ownsRow (w3.heap.size + 1) 2 1 (.slice (some ⟨g, 0, none⟩) n cr) n ((fstL (rwP rs k).zs).map (Value.int .i64)) := own_keep q2 HV0b
          have hpw := hpg
          refine tree_one rfl (fun K9 hS9 => ?_)
          go_simp
          have setS : ∀ (p : Addr) (x : Value), p.block ≠ gl → V0.cell? p = some x → (V0.setCell ⟨gl, b, none⟩ (.int .i64 h1)).cell? p = some x := fun p x hp hx => by
            rw [World.cell?_setCell_other _ _ _ _ (by intro e; apply hp; rw [← e])]; exact hx
          obtain ⟨p1, p2, p3, p4⟩ := hS14
          obtain ⟨r1, r2, r3, r4, r5, r6, r7⟩ := hS15
          refine hS9.out _ _ ⟨setS _ _ (by show w3.heap.size ≠ gl; omega) p1, setS _ _ (by show pb ≠ gl; omega) p2, setS _ _ (by show w2.heap.size ≠ gl; omega) p3, setS _ _ (by show lb ≠ gl; omega) p4⟩ (fun _ => ?_)
          have hS15 : (fun U : World => U.cell? ⟨w3.heap.size, 0, none⟩ = some (.slice (some ⟨xb, xo, none⟩) 3 cE) ∧ U.cell? ⟨pb, 0, none⟩ = some (.int .i64 (k : Nat)) ∧ U.cell? ⟨xb, xo + k, none⟩ = some (.slice (some ⟨g, 0, none⟩) n cr) ∧ U.cell? ⟨pb, 1, none⟩ = some (.int .i64 (b : Nat)) ∧ U.cell? ⟨w2.heap.size, 0, none⟩ = some (.slice (some ⟨eb, eo, none⟩) 3 ce) ∧ U.cell? ⟨eb, eo + k, none⟩ = some (.slice (some ⟨rb, ro, none⟩) n c') ∧ U.cell? ⟨rb, ro + b * 2 + 1, none⟩ = some (.int .i64 h2)) (V0.setCell ⟨gl, b, none⟩ (.int .i64 h1)) := ⟨setS _ _ (by show w3.heap.size ≠ gl; omega) r1, setS _ _ (by show pb ≠ gl; omega) r2, setS _ _ (by show xb ≠ gl; omega) r3, setS _ _ (by show pb ≠ gl; omega) r4, setS _ _ (by show w2.heap.size ≠ gl; omega) r5, setS _ _ (by show eb ≠ gl; omega) r6, setS _ _ (by show rb ≠ gl; omega) r7⟩
          clear hS9 K9 setS p1 p2 p3 p4 r1 r2 r3 r4 r5 r6 r7
          try simp only [Act.put, List.setIfInBounds_toArray, List.set_cons_zero, List.set_cons_succ]
          refine tree_done (fun U => V0.setCell ⟨gl, b, none⟩ (.int .i64 h1) = U) rfl (fun U hU => ?_)
          subst hU
          have qr1 := ownsRow_setCell_other qr (a := ⟨gl, b, none⟩) (by simp only [Value.ownBlock]; intro e; injection e with e; have : g = gl := e; omega) (.int .i64 h1)
          have HR6 := Lib.hid (HR5.out.other (p := ⟨gl, b, none⟩) (by show w.heap.size + 1 ≠ gl; omega) (.int .i64 h1))
          have cg0 := qr1.cellAt b (by omega)
          have fg0 := qr1.frozenAt b
          have hlz : (rwP rs k).zs.length = n := Hlr.out k hk3
          obtain ⟨xg, hxg2⟩ : ∃ xg, ((fstL (rwP rs k).zs).map (Value.int .i64))[b]? = some (.int .i64 xg) := by
            have hl : b < (fstL (rwP rs k).zs).length := by unfold fstL; simp; omega
            rw [List.getElem?_map, List.getElem?_eq_getElem hl]
            exact ⟨_, rfl⟩
          rw [hxg2] at cg0
          clear cl0 fl0 cl1 fl1 cX cP cR fR lR hxg2 qr qr1 q2' q2
          generalize hV1 : V0.setCell ⟨gl, b, none⟩ (.int .i64 h1) = V1 at *
          go_wp2_with fail
          refine wp_region_tree (S := fun U : World => U.cell? ⟨w3.heap.size, 0, none⟩ = some (.slice (some ⟨xb, xo, none⟩) 3 cE) ∧ U.cell? ⟨pb, 0, none⟩ = some (.int .i64 (k : Nat)) ∧ U.cell? ⟨xb, xo + k, none⟩ = some (.slice (some ⟨g, 0, none⟩) n cr) ∧ U.cell? ⟨pb, 1, none⟩ = some (.int .i64 (b : Nat)) ∧ U.cell? ⟨w2.heap.size, 0, none⟩ = some (.slice (some ⟨eb, eo, none⟩) 3 ce) ∧ U.cell? ⟨eb, eo + k, none⟩ = some (.slice (some ⟨rb, ro, none⟩) n c') ∧ U.cell? ⟨rb, ro + b * 2 + 1, none⟩ = some (.int .i64 h2)) (.t 0 1 (.t 1 3 (.t 2 7 (.t 3 15 (.t 4 31 (.t 5 63 (.t 6 127 (.t 7 255 (.t 8 511 (.t 9 1023 (.t 10 2047 (.t 11 4095 (.t 12 8191 (.t 13 16383 (.t 14 32767 (.t 15 65535 (.t 16 131071 (.t 17 262143 (.t 18 524287 (.t 19 1048575 (.t 20 2097151 (.o 21 4194303 .nil)))))))))))))))))))))) (by kernel_rfl) (by kernel_rfl) (by as_aux_lemma => kernel_rfl) (by kernel_rfl) (fun c a d v w h => by cases d <;> exact h) hS15 (fun hHeld => ?_)
          clear hHeld
          iterate 21 (refine tree_take (v := ?_) rfl (by rfl) ?_ ?_; rotate_left; (focus (intro w9 hSw; obtain ⟨s1, s2, s3, s4, s5, s6, s7⟩ := hSw; (go_simp <;> with_reducible rfl))); try simp only [Act.put, List.setIfInBounds_toArray, List.set_cons_zero, List.set_cons_succ])
          have cg1 : V1.drew.cell? ⟨g, b, none⟩ = some (.int .i64 xg) := cg0
          have fg1 : V1.drew.frozen? ⟨g, b, none⟩ = false := fg0
          have HR7 := Lib.hid (HR6.out.drew)
          clear cg0 fg0
          refine tree_one rfl (fun K9 hS9 => ?_)
          go_simp
          have setS : ∀ (p : Addr) (x : Value), p.block ≠ g → V1.drew.cell? p = some x → (V1.drew.setCell ⟨g, b, none⟩ (.int .i64 h2)).cell? p = some x := fun p x hp hx => by
            rw [World.cell?_setCell_other _ _ _ _ (by intro e; apply hp; rw [← e])]; exact hx
          obtain ⟨r1, r2, r3, r4, r5, r6, r7⟩ := hS15
          refine hS9.out _ _ ⟨setS _ _ (by show w3.heap.size ≠ g; omega) r1, setS _ _ (by show pb ≠ g; omega) r2, setS _ _ (by show xb ≠ g; omega) r3, setS _ _ (by show pb ≠ g; omega) r4, setS _ _ (by show w2.heap.size ≠ g; omega) r5, setS _ _ (by show eb ≠ g; omega) r6, setS _ _ (by show rb ≠ g; omega) r7⟩ (fun _ => ?_)
          clear hS9 K9 setS r1 r2 r3 r4 r5 r6 r7 cg1 fg1
          try simp only [Act.put, List.setIfInBounds_toArray, List.set_cons_zero, List.set_cons_succ]
          obtain ⟨A', cE', te', e', hCx, hT, hPt, hB⟩ := JP0.out (.slice (some ⟨xb, xo, none⟩) 3 cE) (.slice (some ⟨gl, 0, none⟩) n cL)
          injection e' with e1 _ e2
          subst e1 e2
          have HT := Lib.hid hT
          have HPt := Lib.hid hPt
          have HB9 := Lib.hid hB
          refine tree_done (fun U => V1.drew.setCell ⟨g, b, none⟩ (.int .i64 h2) = U) rfl (fun U hU => ?_)
          have cXX : ∀ i, U.cell? ⟨w3.heap.size, i, none⟩ = (#[.slice (some ⟨xb, xo, none⟩) 3 cE, .slice (some ⟨gl, 0, none⟩) n cL] : Array Value)[i]? := fun i => by rw [← hU]; exact hCx.c i
          have HRU : Cs U (w.heap.size + 1) #[.slice none 0 0, .slice none 0 0] := by rw [← hU]; exact HR7.out.other (p := ⟨g, b, none⟩) (by show w.heap.size + 1 ≠ g; omega) (.int .i64 h2)
          have HAB : Hid (Below (V1.setCell ⟨g, b, none⟩ (.int .i64 h2)).heap.size (V1.setCell ⟨g, b, none⟩ (.int .i64 h2)) U) := Lib.hid (by rw [← hU]; exact ⟨rfl, rfl, rfl, Nat.le_refl _, fun _ _ => rfl⟩)
          have cRU := HRU.c
          have fRU := HRU.f
          have lRU := HRU.lt
          have HU := Lib.hid hU
          clear hU hT hPt hB hCx
          go_wp2_with fail
          have D1 := HRU.set2 (.slice (some ⟨xb, xo, none⟩) 3 cE) (.slice (some ⟨gl, 0, none⟩) n cL)
          have cD1 := D1.c
          have fD1 := D1.f
          have lD1 := D1.lt
          have hAU : Below (((V1.setCell ⟨g, b, none⟩ (.int .i64 h2)).setCell ⟨w.heap.size + 1, 0, none⟩ (.slice (some ⟨xb, xo, none⟩) 3 cE)).setCell ⟨w.heap.size + 1, 1, none⟩ (.slice (some ⟨gl, 0, none⟩) n cL)).heap.size
              (((V1.setCell ⟨g, b, none⟩ (.int .i64 h2)).setCell ⟨w.heap.size + 1, 0, none⟩ (.slice (some ⟨xb, xo, none⟩) 3 cE)).setCell ⟨w.heap.size + 1, 1, none⟩ (.slice (some ⟨gl, 0, none⟩) n cL))
              ((U.setCell ⟨w.heap.size + 1, 0, none⟩ (.slice (some ⟨xb, xo, none⟩) 3 cE)).setCell ⟨w.heap.size + 1, 1, none⟩ (.slice (some ⟨gl, 0, none⟩) n cL)) := by rw [← HU.out]; exact ⟨rfl, rfl, rfl, Nat.le_refl _, fun _ _ => rfl⟩
          exact bodyPost_ret (v := .tuple #[.agg #[.slice (some ⟨xb, xo, none⟩) 3 cE, .slice (some ⟨gl, 0, none⟩) n cL], .int .i64 0]) (by simp [results, Tryz.results30, go_sem, cD1, fD1, lD1]) rfl (by exact ⟨some ⟨xb, xo, none⟩, cE, some ⟨gl, 0, none⟩, cL, (fstL ls).set b h1, te', rfl, HT.out.below hAU, HPt.out, HB9.out.trans (hAU.mono HB9.out.size)⟩)
end Go.Proofs.YtlbjnkopbabcnaaGreatDoor
end
