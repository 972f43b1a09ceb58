/- PE5 -/
import Derived.Test.YtlbjnkopbabcnaaGreatDoorYP17
/- Walks of package metamer: Surely. -/
section
namespace Go.Proofs.YtlbjnkopbabcnaaGreatDoor
open Go.RowKit Go.Shelf
set_option linter.unusedSimpArgs false
set_option linter.unusedVariables false

theorem opL_congr {p q : Nat → Bool} {k m : Nat} (h : ∀ j, k ≤ j → j < k + m → p j = q j) : opL p k m = opL q k m := by
  unfold opL
  rw [List.filter_congr fun x hx => ?_]
  rw [List.mem_range'] at hx
  obtain ⟨i, hi, rfl⟩ := hx
  exact h _ (by omega) (by omega)
theorem partR_congr {L : Nat → Int × Int} {E : Nat → Nat → Int × Int} {d d' : Nat → Int} {n : Nat} (h : ∀ b, b < n → d b = d' b) : partR L E d n = partR L E d' n := by
  have hs : ∀ i, Mm.seen (Mm.low L E) d n i = Mm.seen (Mm.low L E) d' n i := fun i => Mm.sm_congr fun b hb => by rw [h b hb]
  unfold partR
  rw [hs, hs, hs, opL_congr fun j _ hj => ?_]
  unfold opB
  rw [h (j / 3) (by omega)]
theorem partR_les (L : Nat → Int × Int) (E : Nat → Nat → Int × Int) (zs us : List Int) (n : Nat) : partR L E (zF (lesL zs us n n)) n = partR L E (fun b => zF zs b - zF us b) n :=
  partR_congr fun b hb => by unfold zF; rw [lesL_get zs us n n hb, if_pos hb]; rfl
theorem RowsI.new2 (w : World) (H : Nat) (A : Option Addr) (n c : Nat) (zs : List Int) (B : Option Addr) (m d : Nat) (us : List Int) (t : TypeId) (hH : w.heap.size = H) (hz : Ints w A n zs) (hu : Ints w B m us) (hn : n ≤ 9223372036854775807) (hm : m ≤ 9223372036854775807) :
    RowsI (w.alloc (.cells #[.slice A n c, .slice B m d] t)) (some ⟨H, 0, none⟩) 2 [⟨A, n, c, zs⟩, ⟨B, m, d, us⟩] := by
  subst hH
  refine ⟨rfl, fun _ => ⟨w.heap.size, 0, rfl, by simp, fun i r hr => ?_⟩, fun r hr => ?_⟩
  · match i, hr with
    | 0, hr => simp at hr; subst hr; simp [rrV]
    | 1, hr => simp at hr; subst hr; simp [rrV]
    | i + 2, hr => simp at hr
  · simp at hr
    rcases hr with rfl | rfl
    · exact ⟨hz.alloc _, hn⟩
    · exact ⟨hu.alloc _, hm⟩

/-- a chip less another one: its numbers -/
theorem les_bd {zs us : List Int} {n : Nat} (h1 : ∀ b, b < n → 0 ≤ zF zs b ∧ zF zs b ≤ 1000) (h2 : ∀ b, b < n → 0 ≤ zF us b ∧ zF us b ≤ 1000) : ∀ b, b < n → -1000 ≤ zF (lesL zs us n n) b ∧ zF (lesL zs us n n) b ≤ 1000 := fun b hb => by
  have q1 := h1 b hb
  have q2 := h2 b hb
  unfold zF at *
  rw [lesL_get zs us n n hb, if_pos hb]
  unfold zF
  omega

set_option maxRecDepth 100000 in
set_option maxHeartbeats 4000000 in
theorem surely_any (E : Option Addr) (ce : Nat) (L : Option Addr) (n cl : Nat) (rs : List (RowR (Int × Int))) (ls : List (Int × Int)) (A : Option Addr) (cA : Nat) (zs : List Int) (B : Option Addr) (cB : Nat) (us : List Int) (w : World)
    (hC : Cse w E 3 L n rs ls) (hc : CaseOk n ls 3 rs) (hz : Ints w A n zs) (oz : ChipOk n n zs) (hu : Ints w B n us) (ou : ChipOk n n us) :
    Calls Tryz.prog 18 #[.agg #[.slice E 3 ce, .slice L n cl], .slice A n cA, .slice B n cB] w fun e w' => e = .returned (.int .i64 (if (partR (rgA ls) (egA rs) (fun b => zF zs b - zF us b) n).2 then 19 else 0)) ∧ Below w.heap.size w w' := by
  have hn8 := hc.2.1
  have hn1 := hc.1
  have o1 : ∀ b, b < n → 0 ≤ zF zs b ∧ zF zs b ≤ 1000 := fun b hb => by have := oz.2 b hb; unfold zF; omega
  have o2 : ∀ b, b < n → 0 ≤ zF us b ∧ zF us b ≤ 1000 := fun b hb => by have := ou.2 b hb; unfold zF; omega
  have k1 := fun (C : Option Addr) (cc : Nat) (W : World) (hW : Below w.heap.size w W) (hr : RowsI W C 2 [⟨A, n, cA, zs⟩, ⟨B, n, cB, us⟩]) => newMatcher_ok E 3 ce L n cl rs ls C 2 cc [⟨A, n, cA, zs⟩, ⟨B, n, cB, us⟩] W (hC.below hW) hc hr (by omega) (fun x hx => by
    simp at hx
    rcases hx with rfl | rfl
    · exact oz
    · exact ou)
  have k2 := fun (W : World) (hW : Below w.heap.size w W) => less_any A cA B n cB zs us W (hz.below hW) (hu.below hW) (by omega) hn8 o1 o2
  have k3 := fun (g : Nat) (W : World) (hW : Below w.heap.size w W) (hI : Ints W (some ⟨g, 0, none⟩) n (lesL zs us n n)) => part_any E ce L n cl rs ls (some ⟨g, 0, none⟩) n (lesL zs us n n) W (hC.below hW) hc hI (les_bd o1 o2)
  rw [partR_les] at k3
  generalize partR (rgA ls) (egA rs) (fun b => zF zs b - zF us b) n = R at *
  obtain ⟨⟨rx, ry⟩, rq⟩ := R
  obtain ⟨rv, hrv⟩ : ∃ v : Int, (if rq then 19 else 0) = v := ⟨_, rfl⟩
  simp only [hrv]
  have Hrv := Lib.hid hrv
  clear hrv
  have Hz := Lib.hid hz
  have Hu := Lib.hid hu
  have K2 := Lib.hid k2
  have K3 := Lib.hid k3
  have hnm : n ≤ 9223372036854775807 := by omega
  clear hC hc hz oz hu ou o1 o2 k2 k3
  go_enter Tryz.func18, Tryz.ntmps18
  go_wp2_with fail
  refine (k1 _ _ _ blA (RowsI.new2 _ _ _ _ _ _ _ _ _ _ _ (by simp) (Hz.out.alloc _) (Hu.out.alloc _) hnm hnm)).mono ?_
  rintro _ w2 ⟨rfl, hb2⟩
  have hbw : Below w.heap.size w w2 := blA
  clear hb2 k1
  go_wp2_with fail
  have BM : Cs (w2.alloc (.cells #[.slice E 3 ce, .slice L n cl] 120)) w2.heap.size #[.slice E 3 ce, .slice L n cl] := csA
  have hbm : Below w.heap.size w (w2.alloc (.cells #[.slice E 3 ce, .slice L n cl] 120)) := blA
  have hlm : w2.heap.size < (w2.alloc (.cells #[.slice E 3 ce, .slice L n cl] 120)).heap.size := by simp
  generalize (w2.alloc (.cells #[.slice E 3 ce, .slice L n cl] 120)) = W1 at *
  have HSt : Hid (∀ V, Below W1.drew.heap.size W1.drew V → V.cell? ⟨w2.heap.size, 0, none⟩ = some (.slice E 3 ce) ∧ V.cell? ⟨w2.heap.size, 1, none⟩ = some (.slice L n cl)) :=
    Lib.hid fun V hV => ⟨(BM.drew.keep hV).c 0, (BM.drew.keep hV).c 1⟩
  have HB : Hid (∀ V, Below W1.drew.heap.size W1.drew V → Below w.heap.size w V) := Lib.hid fun V hV => (Below.drew hbm).trans (hV.mono (Below.drew hbm).size)
  refine wp_region_tree (S := fun V => V.cell? ⟨w2.heap.size, 0, none⟩ = some (.slice E 3 ce) ∧ V.cell? ⟨w2.heap.size, 1, none⟩ = some (.slice L n cl)) (.t 0 1 (.t 1 3 (.t 2 7 (.c 3 8 15 263 (.c 4 8 31 271 (.t 5 63 (.t 6 127 (.t 7 255 (.o 8 511 (.o 9 1023 (.t 10 2047 .nil)))))) (.o 4 287 (.t 5 319 (.t 6 383 (.t 7 511 (.o 9 1023 (.t 10 2047 .nil))))))) (.o 3 271 (.o 4 287 (.t 5 319 (.t 6 383 (.t 7 511 (.o 9 1023 (.t 10 2047 .nil))))))))))) (by kernel_rfl) (by kernel_rfl) (by as_aux_lemma => kernel_rfl) (by kernel_rfl) (fun c a d v w h => by cases d <;> exact h) (HSt.out _ (Below.refl _ _)) (fun hHeld => ?_)
  clear hHeld BM hbm hlm
  generalize W1.drew = V0 at *
  obtain ⟨N0, hN0⟩ : ∃ N, V0.heap.size = N := ⟨_, rfl⟩
  rw [hN0] at HSt HB
  have V0b : Below N0 V0 V0 := Below.refl _ _
  have hge : Hid (∀ V, Below N0 V0 V → N0 ≤ V.heap.size) := Lib.hid fun V hV => by have := hV.size; omega
  clear hN0
  iterate 3 (refine tree_take (v := ?_) rfl (by rfl) ?_ ?_; rotate_left; focus (intro w9 hSw; obtain ⟨s1, s2⟩ := hSw; (go_simp <;> with_reducible rfl)); try simp only [Act.put, List.setIfInBounds_toArray, List.set_cons_zero, List.set_cons_succ])
  refine tree_two ?_ ?_
  · refine tree_one rfl (fun K9 hS9 => ?_)
    go_simp
    refine (K2.out V0 (HB.out _ V0b)).mono ?_
    rintro e9 V1 ⟨g, rfl, hI, hy⟩
    have V1b := V0b.trans (hy.mono (hge.out _ V0b))
    refine hS9.out _ _ (HSt.out _ V1b) (fun _ => ?_)
    clear hS9 K9 hy
    try simp only [Act.put, List.setIfInBounds_toArray, List.set_cons_zero, List.set_cons_succ]
    refine tree_two ?_ ?_
    · refine tree_one rfl (fun K9 hS9 => ?_)
      go_simp
      refine (K3.out g V1 (HB.out _ V1b) hI).mono ?_
      rintro e9 V2 ⟨rfl, hy⟩
      have V2b := V1b.trans (hy.mono (hge.out _ V1b))
      refine hS9.out _ _ (HSt.out _ V2b) (fun _ => ?_)
      clear hS9 K9 hy hI
      try simp only [Act.put, List.setIfInBounds_toArray, List.set_cons_zero, List.set_cons_succ]
      iterate 3 (refine tree_take (v := ?_) rfl (by rfl) ?_ ?_; rotate_left; focus (intro w9 hSw; obtain ⟨s1, s2⟩ := hSw; (go_simp <;> with_reducible rfl)); try simp only [Act.put, List.setIfInBounds_toArray, List.set_cons_zero, List.set_cons_succ])
      refine tree_one rfl (fun K9 hS9 => ?_)
      go_simp
      have BP := Cs.new V2 _ #[.int .i64 0, .int .i64 0] 134 rfl
      have hal : Below V2.heap.size V2 (V2.alloc (.cells #[.int .i64 0, .int .i64 0] 134)) := balloc (Below.refl _ _) _
      have V3b := V2b.trans (hal.mono (hge.out _ V2b))
      have hpg : N0 ≤ V2.heap.size := hge.out _ V2b
      try replace hI := hI.below hal
      refine hS9.out _ _ (HSt.out _ V3b) (fun _ => ?_)
      clear hS9 K9 hal
      try simp only [Act.put, List.setIfInBounds_toArray, List.set_cons_zero, List.set_cons_succ]
      generalize V2.heap.size = pb at *
      generalize V2.alloc (.cells #[.int .i64 0, .int .i64 0] 134) = V3 at *
      have cBP := BP.c
      have fBP := BP.f
      have lBP := BP.lt
      refine tree_one rfl (fun K9 hS9 => ?_)
      go_simp
      have hFb := (V3b.setCell (p := ⟨pb, 0, none⟩) hpg (.int .i64 rx)).setCell (p := ⟨pb, 1, none⟩) hpg (.int .i64 ry)
      refine hS9.out _ _ (HSt.out _ hFb) (fun _ => ?_)
      clear hS9 K9 cBP fBP lBP BP
      try simp only [Act.put, List.setIfInBounds_toArray, List.set_cons_zero, List.set_cons_succ]
      iterate 1 (refine tree_take (v := ?_) rfl (by rfl) ?_ ?_; rotate_left; focus (intro w9 hSw; obtain ⟨s1, s2⟩ := hSw; (go_simp <;> with_reducible rfl)); try simp only [Act.put, List.setIfInBounds_toArray, List.set_cons_zero, List.set_cons_succ])
      refine tree_done (fun U => Below w.heap.size w U) (HB.out _ hFb) (fun U hU => ?_)
      clear hFb
      cases rq with
      | false =>
        go_wp2_with fail
        go_ret
        exact ⟨ret_int (by have := Hrv.out; simpa using this), hU⟩
      | true =>
        go_wp2_with fail
        go_ret
        exact ⟨ret_int (by have := Hrv.out; simpa using this), hU⟩
    · refine tree_one rfl (fun K9 hS9 => ?_)
      go_simp
      have BP := Cs.new V1 _ #[.int .i64 0, .int .i64 0] 134 rfl
      have hal : Below V1.heap.size V1 (V1.alloc (.cells #[.int .i64 0, .int .i64 0] 134)) := balloc (Below.refl _ _) _
      have V2b := V1b.trans (hal.mono (hge.out _ V1b))
      have hpg : N0 ≤ V1.heap.size := hge.out _ V1b
      try replace hI := hI.below hal
      refine hS9.out _ _ (HSt.out _ V2b) (fun _ => ?_)
      clear hS9 K9 hal
      try simp only [Act.put, List.setIfInBounds_toArray, List.set_cons_zero, List.set_cons_succ]
      generalize V1.heap.size = pb at *
      generalize V1.alloc (.cells #[.int .i64 0, .int .i64 0] 134) = V2 at *
      refine tree_one rfl (fun K9 hS9 => ?_)
      go_simp
      refine (K3.out g V2 (HB.out _ V2b) hI).mono ?_
      rintro e9 V3 ⟨rfl, hy⟩
      have V3b := V2b.trans (hy.mono (hge.out _ V2b))
      replace BP := BP.keep hy
      refine hS9.out _ _ (HSt.out _ V3b) (fun _ => ?_)
      clear hS9 K9 hy hI
      try simp only [Act.put, List.setIfInBounds_toArray, List.set_cons_zero, List.set_cons_succ]
      iterate 3 (refine tree_take (v := ?_) rfl (by rfl) ?_ ?_; rotate_left; focus (intro w9 hSw; obtain ⟨s1, s2⟩ := hSw; (go_simp <;> with_reducible rfl)); try simp only [Act.put, List.setIfInBounds_toArray, List.set_cons_zero, List.set_cons_succ])
      have cBP := BP.c
      have fBP := BP.f
      have lBP := BP.lt
      refine tree_one rfl (fun K9 hS9 => ?_)
      go_simp
      have hFb := (V3b.setCell (p := ⟨pb, 0, none⟩) hpg (.int .i64 rx)).setCell (p := ⟨pb, 1, none⟩) hpg (.int .i64 ry)
      refine hS9.out _ _ (HSt.out _ hFb) (fun _ => ?_)
      clear hS9 K9 cBP fBP lBP BP
      try simp only [Act.put, List.setIfInBounds_toArray, List.set_cons_zero, List.set_cons_succ]
      iterate 1 (refine tree_take (v := ?_) rfl (by rfl) ?_ ?_; rotate_left; focus (intro w9 hSw; obtain ⟨s1, s2⟩ := hSw; (go_simp <;> with_reducible rfl)); try simp only [Act.put, List.setIfInBounds_toArray, List.set_cons_zero, List.set_cons_succ])
      refine tree_done (fun U => Below w.heap.size w U) (HB.out _ hFb) (fun U hU => ?_)
      clear hFb
      cases rq with
      | false =>
        go_wp2_with fail
        go_ret
        exact ⟨ret_int (by have := Hrv.out; simpa using this), hU⟩
      | true =>
        go_wp2_with fail
        go_ret
        exact ⟨ret_int (by have := Hrv.out; simpa using this), hU⟩
  · refine tree_one rfl (fun K9 hS9 => ?_)
    go_simp
    have BP := Cs.new V0 _ #[.int .i64 0, .int .i64 0] 134 rfl
    have hal : Below V0.heap.size V0 (V0.alloc (.cells #[.int .i64 0, .int .i64 0] 134)) := balloc (Below.refl _ _) _
    have V1b := V0b.trans (hal.mono (hge.out _ V0b))
    have hpg : N0 ≤ V0.heap.size := hge.out _ V0b
    try replace hI := hI.below hal
    refine hS9.out _ _ (HSt.out _ V1b) (fun _ => ?_)
    clear hS9 K9 hal
    try simp only [Act.put, List.setIfInBounds_toArray, List.set_cons_zero, List.set_cons_succ]
    generalize V0.heap.size = pb at *
    generalize V0.alloc (.cells #[.int .i64 0, .int .i64 0] 134) = V1 at *
    refine tree_one rfl (fun K9 hS9 => ?_)
    go_simp
    refine (K2.out V1 (HB.out _ V1b)).mono ?_
    rintro e9 V2 ⟨g, rfl, hI, hy⟩
    have V2b := V1b.trans (hy.mono (hge.out _ V1b))
    replace BP := BP.keep hy
    refine hS9.out _ _ (HSt.out _ V2b) (fun _ => ?_)
    clear hS9 K9 hy
    try simp only [Act.put, List.setIfInBounds_toArray, List.set_cons_zero, List.set_cons_succ]
    refine tree_one rfl (fun K9 hS9 => ?_)
    go_simp
    refine (K3.out g V2 (HB.out _ V2b) hI).mono ?_
    rintro e9 V3 ⟨rfl, hy⟩
    have V3b := V2b.trans (hy.mono (hge.out _ V2b))
    replace BP := BP.keep hy
    refine hS9.out _ _ (HSt.out _ V3b) (fun _ => ?_)
    clear hS9 K9 hy hI
    try simp only [Act.put, List.setIfInBounds_toArray, List.set_cons_zero, List.set_cons_succ]
    iterate 3 (refine tree_take (v := ?_) rfl (by rfl) ?_ ?_; rotate_left; focus (intro w9 hSw; obtain ⟨s1, s2⟩ := hSw; (go_simp <;> with_reducible rfl)); try simp only [Act.put, List.setIfInBounds_toArray, List.set_cons_zero, List.set_cons_succ])
    have cBP := BP.c
    have fBP := BP.f
    have lBP := BP.lt
    refine tree_one rfl (fun K9 hS9 => ?_)
    go_simp
    have hFb := (V3b.setCell (p := ⟨pb, 0, none⟩) hpg (.int .i64 rx)).setCell (p := ⟨pb, 1, none⟩) hpg (.int .i64 ry)
    refine hS9.out _ _ (HSt.out _ hFb) (fun _ => ?_)
    clear hS9 K9 cBP fBP lBP BP
    try simp only [Act.put, List.setIfInBounds_toArray, List.set_cons_zero, List.set_cons_succ]
    iterate 1 (refine tree_take (v := ?_) rfl (by rfl) ?_ ?_; rotate_left; focus (intro w9 hSw; obtain ⟨s1, s2⟩ := hSw; (go_simp <;> with_reducible rfl)); try simp only [Act.put, List.setIfInBounds_toArray, List.set_cons_zero, List.set_cons_succ])
    refine tree_done (fun U => Below w.heap.size w U) (HB.out _ hFb) (fun U hU => ?_)
    clear hFb
    cases rq with
    | false =>
      go_wp2_with fail
      go_ret
      exact ⟨ret_int (by have := Hrv.out; simpa using this), hU⟩
    | true =>
      go_wp2_with fail
      go_ret
      exact ⟨ret_int (by have := Hrv.out; simpa using this), hU⟩
end Go.Proofs.YtlbjnkopbabcnaaGreatDoor
end
