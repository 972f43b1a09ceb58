/- ZA7 -/
import Derived.Test.YtminplfgadhnnaaGreatDoorTZ07
/- Walks of layer 3: Lantern. -/
section
namespace Go.Proofs.YtminplfgadhnnaaGreatDoor
open Go.RowKit Go.Shelf
set_option linter.unusedSimpArgs false
set_option linter.unusedVariables false
open Zm

set_option maxRecDepth 100000 in
set_option maxHeartbeats 16000000 in
theorem zlantern_any (A1 : Option Addr) (n1 c1 : Nat) (A2 : Option Addr) (n2 c2 : Nat) (A3 : Option Addr) (n3 c3 : Nat) (A4 : Option Addr) (n4 c4 : Nat) (an : List Int) (ls : List (Int × Int)) (fs : List Bool) (ws : List Int) (A : Option Addr) (m D : Nat) (us : List Int) (w : World) (h : Lmp w A1 n1 c1 A2 n2 c2 A3 n3 c3 A4 n4 c4 an ls fs ws) (ho : LampOk an ls fs ws) (hd : dbtZ an ls fs n4 = false) (hu : U8s w A m us) (hm : m ≤ 1000) :
    Calls Tryz.prog 10 #[.agg #[.slice A1 n1 c1, .slice A2 n2 c2, .slice A3 n3 c3, .slice A4 n4 c4], .slice A m D] w fun e w' => ∃ g k : Nat, e = .returned (.slice (some ⟨g, 0, none⟩) n4 k) ∧ Ints w' (some ⟨g, 0, none⟩) n4 (rowF n4 (lntZ an ls fs us n4)) ∧ n4 ≤ k ∧ Below w.heap.size w w' := by
  have hws := ho.ws91
  have hl4 := h.h4.1
  have hl3 := h.h3.1
  have hl1 := h.h1.1
  have hul := hu.1
  rw [hl4] at hws
  have kb := fun (W : World) (hb : Below w.heap.size w W) => zbounds_any _ _ _ _ _ _ _ _ _ _ _ _ _ _ _ _ W (h.below hb) ho
  have Hstep := Lib.hid (fun k => lnt_step (an := an) (ls := ls) (fs := fs) (us := us) n4 k)
  have Hab := Lib.hid (fun k (hk : k < ws.length) => lnt_ab (us := us) ho (by rw [hl4]; exact hd) hk)
  have Hxb := Lib.hid (fun k (hk : k < ws.length) => lnt_bd (us := us) ho (by rw [hl4]; exact hd) hk)
  rw [hl4] at Hab Hxb
  have Hlo : Hid (loZ an ls fs n4 = loZ an ls fs n4) := Lib.hid rfl
  have H := Lib.hid h
  have HO := Lib.hid ho
  have HU := Lib.hid hu
  generalize lntZ an ls fs us n4 = x at *
  generalize loZ an ls fs n4 = lo at *
  generalize hiZ an ls fs n4 = hi at *
  clear h ho hd hu Hlo
  go_enter Tryz.func10, Tryz.ntmps10
  go_wp2_with fail
  refine (kb _ blA).mono ?_
  rintro _ w1 ⟨g4, k4, g5, k5, rfl, i4, i5, ⟨m4, m5⟩, hb1⟩
  have l12 : w.heap.size < w1.heap.size := by have := hb1.size; simp at this; omega
  replace B2 : Cs w1 (w.heap.size) #[.slice A1 n1 c1, .slice A2 n2 c2, .slice A3 n3 c3, .slice A4 n4 c4] := Cs.keep csA hb1
  replace hbw : Below w.heap.size w w1 := blA
  replace cB2 := B2.c
  replace fB2 := B2.f
  replace lB2 := B2.lt
  clear hb1
  clear kb
  have H4 := Lib.hid i4
  have H5 := Lib.hid i5
  have HB2 := Lib.hid B2
  have hbw1 := hbw
  clear i4 i5 B2 cB2 fB2 lB2 hbw
  go_wp2_with fail
  go_loopw [7, 8] (fun s7 s8 wx => ∃ (k : Nat) (W : World), k ≤ n4 ∧ s8 = .int .i64 (k : Nat) ∧ Hid (W = wx) ∧ Hid (W.ownsRow w1.heap.size 2 1 s7 k ((rowF k x).map (Value.int .i64))) ∧ Below w1.heap.size w1 W) (fun _ s8 _ => n4 - (intOf s8).toNat)
  case atStart => exact ⟨0, _, Nat.zero_le _, rfl, Lib.hid rfl, Lib.hid (by simp [rowF]; exact World.ownsRow_nil _ _ _ _), blA⟩
  case round =>
    obtain ⟨k, W, hk, rfl, HW, HO7, hbx⟩ := hrel
    obtain rfl := HW.out
    clear HW
    by_cases hkn : k < n4
    · obtain ⟨b, off, e, _, ce4⟩ := H4.out.at0 hbx hkn
      injection e with e
      injection e with e1 e2
      subst e1 e2
      obtain ⟨b, off, e, _, ce5⟩ := H5.out.at0 hbx hkn
      injection e with e
      injection e with e1 e2
      subst e1 e2
      rw [rowF_at hkn, Nat.zero_add] at ce4 ce5
      have hkl : (k : Int) < (n4 : Int) := by omega
      obtain ⟨p1, p2, p3⟩ := Hab.out k hkn
      have hxk := Hstep.out k
      obtain ⟨a, ha⟩ : ∃ a, loA (dF an fs) lo x k = a := ⟨_, rfl⟩
      obtain ⟨b, hb⟩ : ∃ b, hiA (dF an fs) hi x k = b := ⟨_, rfl⟩
      have Ha := Lib.hid ha
      have Hb := Lib.hid hb
      rw [ha] at p1 p2 hxk
      rw [hb] at p2 p3 hxk
      have Hxk := Lib.hid hxk
      clear ha hb hxk
      cases k with
      | zero =>
        have e1 : lo 0 = a := Ha.out
        have e2 : hi 0 = b := Hb.out
        rw [e1] at ce4
        rw [e2] at ce5
        clear e1 e2
        go_wp2_with fail
        go_quiet (fail)
        obtain ⟨V, hV⟩ : ∃ V, W.drewN nq = V := ⟨_, rfl⟩
        have hbV : Below W.heap.size W V := hV ▸ bdrewN (Below.refl _ _) nq
        rw [hV]
        clear hV
        have HO8 := Lib.hid (own_keep HO7.out hbV)
        have hbX := hbx.trans (hbV.mono hbx.size)
        have hbv := hbw1.trans (hbX.mono hbw1.size)
        have hsX := hbX.size
        clear HO7 Ha Hb
        by_cases hm0 : m = 0
        · subst hm0
          have Hx : Hid (x (0) = a) := Lib.hid (by rw [Hxk.out]; unfold pkZ; rw [if_pos hul])
          clear Hxk
          go_wp2_with (at_builtin; refine list_one elI64 rfl _ _ rfl w1.heap.size (0) _ (rowF (0) x) (by rfl) (HO8.out.alloc _) V.heap.size a (by rfl) (by simp) (by omega) (by simp; omega) ?_; intro g6 k6 w6 hO6 hb6)
          go_roundw
          case rel => exact ⟨0 + 1, _, by omega, by go_num, Lib.hid rfl, Lib.hid (by rw [rowF_snoc, Hx.out]; exact hO6), hbX.trans ((balloc' _ _ _ hsX).trans hb6)⟩
          case measure => simp [intOf]; omega
        · have hq : 0 < m := by omega
          obtain ⟨b6, o6, rfl, _, cu, u0, u1⟩ := HU.out.at_ hbv hq
          have Hx : Hid (x (0) = a + us.getD 0 0 % (b - a + 1)) := Lib.hid (by rw [Hxk.out]; unfold pkZ; rw [if_neg (by omega), Nat.zero_mod])
          have hb0 := Int.emod_nonneg (us.getD 0 0) (show b - a + 1 ≠ 0 by omega)
          have hb1 := Int.emod_lt_of_pos (us.getD 0 0) (show 0 < b - a + 1 by omega)
          have hvt : (us.getD 0 0).tmod (b - a + 1) = us.getD 0 0 % (b - a + 1) := Int.tmod_eq_emod_of_nonneg u0
          generalize us.getD 0 0 = v at *
          obtain ⟨t, ht⟩ : ∃ t, v % (b - a + 1) = t := ⟨_, rfl⟩
          rw [ht] at hvt hb0 hb1 Hx
          rw [Nat.add_zero] at cu
          have hm1 : ¬ (m : Int) = 0 := by omega
          have hm2 : (0 : Int) < (m : Int) := by omega
          have hd1 : ¬ b - a + 1 = 0 := by omega
          clear Hxk
          go_wp2_with (at_builtin; refine list_one elI64 rfl _ _ rfl w1.heap.size (0) _ (rowF (0) x) (by rfl) (HO8.out.alloc _) V.heap.size (a + t) (by rfl) (by simp) (by omega) (by simp; omega) ?_; intro g6 k6 w6 hO6 hb6)
          go_roundw
          case rel => exact ⟨0 + 1, _, by omega, by go_num, Lib.hid rfl, Lib.hid (by rw [rowF_snoc, Hx.out]; exact hO6), hbX.trans ((balloc' _ _ _ hsX).trans hb6)⟩
          case measure => simp [intOf]; omega
      | succ j =>
        obtain ⟨g7, k7, rfl⟩ := own_slice HO7.out (by omega)
        have c7 := OwnI.cellw HO7.out (Below.refl _ _) (show j < j + 1 by omega)
        rw [rowF_at (by omega)] at c7
        obtain ⟨xj, hxj⟩ : ∃ y, x j = y := ⟨_, rfl⟩
        rw [hxj] at c7
        have Hxj := Lib.hid hxj
        have kk7 := (OwnI.ints HO7.out).2
        have hbv := hbw1.trans (hbx.mono hbw1.size)
        have B2 := HB2.out.keep hbx
        have cB2 := B2.c
        have fB2 := B2.f
        have lB2 := B2.lt
        obtain ⟨b1, o1, rfl, _, c0⟩ := H.out.h1.at0 hbv (show 0 < n1 by have := HO.out.n2; omega)
        obtain ⟨q1, q2, q3⟩ := gapF_bd HO.out (k := j + 1) (by omega) (by omega)
        have kg := fun (W : World) (v : Int) (hv : v = an.getD 0 0 + ((j + 1 : Nat) : Int)) (hb : Below w.heap.size w W) => hv ▸ zgap_any _ _ _ _ _ _ _ _ _ _ _ _ _ _ _ _ (j + 1) W (H.out.below hb) HO.out (by omega) hkn
        have hg3 : gapN an (j + 1) < n3 := by have := HO.out.fsl; omega
        obtain ⟨b3, o3, rfl, _, _⟩ := H.out.h3.at0 hbv hg3
        have hba := HO.out.bd 0 (by have := HO.out.n2; omega)
        have hm0 : 0 < n1 := by have := HO.out.n2; omega
        obtain ⟨a0, ha0⟩ : ∃ a, an.getD 0 0 = a := ⟨_, rfl⟩
        rw [ha0] at kg hba
        obtain ⟨g, hgg⟩ : ∃ g, gapN an (j + 1) = g := ⟨_, rfl⟩
        rw [hgg] at kg hg3
        have hjl : (j : Int) < (k7 : Int) := by omega
        have hjl2 : (j : Int) < (j : Int) + 1 := by omega
        have hgl : (g : Int) < (n3 : Int) := by omega
        have Hww : Hid (∀ V, Below w1.heap.size w1 V → Below w.heap.size w V) := Lib.hid (fun V hV => hbw1.trans (hV.mono (Nat.le_of_lt l12)))
        clear q1 q2 q3 c0 hxj
        obtain ⟨la, hla⟩ : ∃ y, lo (j + 1) = y := ⟨_, rfl⟩
        obtain ⟨ha, hha⟩ : ∃ y, hi (j + 1) = y := ⟨_, rfl⟩
        rw [hla] at ce4
        rw [hha] at ce5
        cases hd : dF an fs (j + 1) with
        | true =>
          have ea : a = la := by rw [← Ha.out, ← hla]; simp only [loA, hd, if_true]
          have eb : b = if xj < ha then xj else ha := by rw [← Hb.out, ← hha]; simp only [hiA, hd, Hxj.out, if_true]
          subst ea
          clear hla hha
          go_wp2_with fail
          go_quiet (fail)
          have hdv : fs.getD g false = true := by rw [← hgg]; exact hd
          have HSS : Hid (∀ U, Below w1.heap.size w1 U → (U.cell? ⟨w.heap.size, 0, none⟩ = some (.slice (some ⟨b1, o1, none⟩) n1 c1)) ∧ (U.cell? ⟨w.heap.size, 1, none⟩ = some (.slice A2 n2 c2)) ∧ (U.cell? ⟨w.heap.size, 2, none⟩ = some (.slice (some ⟨b3, o3, none⟩) n3 c3)) ∧ (U.cell? ⟨w.heap.size, 3, none⟩ = some (.slice A4 n4 c4)) ∧ U.cell? ⟨b1, o1, none⟩ = some (.int .i64 a0) ∧ U.cell? ⟨b3, o3 + g, none⟩ = some (.bool true)) := Lib.hid (fun U hU => by
            have C := HB2.out.keep hU
            obtain ⟨b9, o9, e9, _, d9⟩ := H.out.h1.at0 (Hww.out U hU) (show 0 < n1 by omega)
            injection e9 with e9
            injection e9 with e1 e2
            subst e1 e2
            obtain ⟨b9, o9, e9, _, d8⟩ := H.out.h3.at0 (Hww.out U hU) hg3
            injection e9 with e9
            injection e9 with e1 e2
            subst e1 e2
            rw [Nat.add_zero, ha0] at d9
            rw [hdv] at d8
            exact ⟨C.c 0, C.c 1, C.c 2, C.c 3, d9, d8⟩)
          clear ha0 hdv hgg
          have hbq : Below w1.heap.size w1 (W.drewN nq).drew := (bdrewN hbx nq).drew
          have hS0 := HSS.out _ hbq
          go_wp2_with fail
          refine wp_region_seq (S := fun U => (U.cell? ⟨w.heap.size, 0, none⟩ = some (.slice (some ⟨b1, o1, none⟩) n1 c1)) ∧ (U.cell? ⟨w.heap.size, 1, none⟩ = some (.slice A2 n2 c2)) ∧ (U.cell? ⟨w.heap.size, 2, none⟩ = some (.slice (some ⟨b3, o3, none⟩) n3 c3)) ∧ (U.cell? ⟨w.heap.size, 3, none⟩ = some (.slice A4 n4 c4)) ∧ U.cell? ⟨b1, o1, none⟩ = some (.int .i64 a0) ∧ U.cell? ⟨b3, o3 + g, none⟩ = some (.bool true)) [.t 0 1, .t 1 3, .t 2 7, .t 3 15, .t 4 31, .t 5 63, .t 6 127, .t 7 255, .t 8 511, .o 9 1023, .t 10 2047, .t 11 4095] (by kernel_rfl) (by kernel_rfl) (by as_aux_lemma => kernel_rfl) (by kernel_rfl) (fun c a d v w h => by cases d <;> exact h) hS0 (fun _ => ?_)
          clear hS0
          iterate 9 (refine seq_take (v := ?_) rfl (by rfl) ?_ ?_; rotate_left; focus (intro w9 hSw; obtain ⟨s1, s2, s3, s4, s5, s6⟩ := hSw; (go_simp; (try simp only [hm0, hg3, and_self, if_true, if_false]) <;> with_reducible rfl)); try simp only [Act.put, List.setIfInBounds_toArray, List.set_cons_zero, List.set_cons_succ])
          refine seq_one rfl (fun K9 hS9 => ?_)
          go_simp
          refine (kg _ _ (by rw [IntWalk.i64_in _ (by omega)]; omega) (Hww.out _ hbq)).mono ?_
          rintro e wG ⟨rfl, hbG⟩
          have hbG' : Below w1.heap.size w1 wG := hbq.trans (hbG.mono hbx.size)
          refine hS9.out _ _ (HSS.out _ hbG') (fun _ => ?_)
          clear hS9 K9
          try simp only [Act.put, List.setIfInBounds_toArray, List.set_cons_zero, List.set_cons_succ]
          iterate 2 (refine seq_take (v := ?_) rfl (by rfl) ?_ ?_; rotate_left; focus (intro w9 hSw; obtain ⟨s1, s2, s3, s4, s5, s6⟩ := hSw; (go_simp; (try simp only [hm0, hg3, and_self, if_true, if_false]) <;> with_reducible rfl)); try simp only [Act.put, List.setIfInBounds_toArray, List.set_cons_zero, List.set_cons_succ])
          refine seq_done ?_
          have hbWG : Below W.heap.size W wG := ((bdrewN (Below.refl W.heap.size W) nq).drew).trans hbG
          have c7G : wG.cell? ⟨g7, j, none⟩ = some (.int .i64 xj) := Below.cell' hbWG (OwnI.lt HO7.out).2 c7
          have hj0 : (0 : Int) ≤ (j : Int) := by omega
          have hj4 : j < j + 1 := by omega
          clear HSS kg hbq hbG cB2 fB2 lB2 B2 c7 ce4 ce5
          by_cases hmx : xj < ha
          · rw [if_pos hmx] at eb
            subst eb
            have hbV := hbWG
            have HO8 := Lib.hid (own_keep HO7.out hbV)
            have hbX := hbx.trans (hbV.mono hbx.size)
            have hbv := hbw1.trans (hbX.mono hbw1.size)
            have hsX := hbX.size
            clear HO7 Ha Hb
            by_cases hm0 : m = 0
            · subst hm0
              have Hx : Hid (x (j + 1) = a) := Lib.hid (by rw [Hxk.out]; unfold pkZ; rw [if_pos hul])
              clear Hxk
              go_wp2_with (at_builtin; refine list_one elI64 rfl _ _ rfl w1.heap.size (j + 1) _ (rowF (j + 1) x) (by rfl) (HO8.out.alloc _) wG.heap.size a (by rfl) (by simp) (by omega) (by simp; omega) ?_; intro g6 k6 w6 hO6 hb6)
              go_roundw
              case rel => exact ⟨j + 1 + 1, _, by omega, by go_num, Lib.hid rfl, Lib.hid (by rw [rowF_snoc, Hx.out]; exact hO6), hbX.trans ((balloc' _ _ _ hsX).trans hb6)⟩
              case measure => simp [intOf]; omega
            · have hq : (j + 1) % m < m := Nat.mod_lt _ (by omega)
              obtain ⟨b6, o6, rfl, _, cu, u0, u1⟩ := HU.out.at_ hbv hq
              have hkm : ((j : Int) + 1).tmod (m : Int) = (((j + 1) % m : Nat) : Int) := by rw [show ((j : Int) + 1) = ((j + 1 : Nat) : Int) from rfl, Int.tmod_eq_emod_of_nonneg (by omega)]; rfl
              have hkm' : ((j : Int) + 1) % (m : Int) = (((j + 1) % m : Nat) : Int) := rfl
              have Hx : Hid (x (j + 1) = a + us.getD ((j + 1) % m) 0 % (b - a + 1)) := Lib.hid (by rw [Hxk.out]; unfold pkZ; rw [if_neg (by omega), hul])
              have hb0 := Int.emod_nonneg (us.getD ((j + 1) % m) 0) (show b - a + 1 ≠ 0 by omega)
              have hb1 := Int.emod_lt_of_pos (us.getD ((j + 1) % m) 0) (show 0 < b - a + 1 by omega)
              have hvt : (us.getD ((j + 1) % m) 0).tmod (b - a + 1) = us.getD ((j + 1) % m) 0 % (b - a + 1) := Int.tmod_eq_emod_of_nonneg u0
              generalize us.getD ((j + 1) % m) 0 = v at *
              obtain ⟨t, ht⟩ : ∃ t, v % (b - a + 1) = t := ⟨_, rfl⟩
              rw [ht] at hvt hb0 hb1 Hx
              generalize (j + 1) % m = q at *
              have hm1 : ¬ (m : Int) = 0 := by omega
              have hm2 : (0 : Int) < (m : Int) := by omega
              have hd1 : ¬ b - a + 1 = 0 := by omega
              clear Hxk
              go_wp2_with (at_builtin; refine list_one elI64 rfl _ _ rfl w1.heap.size (j + 1) _ (rowF (j + 1) x) (by rfl) (HO8.out.alloc _) wG.heap.size (a + t) (by rfl) (by simp) (by omega) (by simp; omega) ?_; intro g6 k6 w6 hO6 hb6)
              go_roundw
              case rel => exact ⟨j + 1 + 1, _, by omega, by go_num, Lib.hid rfl, Lib.hid (by rw [rowF_snoc, Hx.out]; exact hO6), hbX.trans ((balloc' _ _ _ hsX).trans hb6)⟩
              case measure => simp [intOf]; omega
          · rw [if_neg hmx] at eb
            subst eb
            have hbV := hbWG
            have HO8 := Lib.hid (own_keep HO7.out hbV)
            have hbX := hbx.trans (hbV.mono hbx.size)
            have hbv := hbw1.trans (hbX.mono hbw1.size)
            have hsX := hbX.size
            clear HO7 Ha Hb
            by_cases hm0 : m = 0
            · subst hm0
              have Hx : Hid (x (j + 1) = a) := Lib.hid (by rw [Hxk.out]; unfold pkZ; rw [if_pos hul])
              clear Hxk
              go_wp2_with (at_builtin; refine list_one elI64 rfl _ _ rfl w1.heap.size (j + 1) _ (rowF (j + 1) x) (by rfl) (HO8.out.alloc _) wG.heap.size a (by rfl) (by simp) (by omega) (by simp; omega) ?_; intro g6 k6 w6 hO6 hb6)
              go_roundw
              case rel => exact ⟨j + 1 + 1, _, by omega, by go_num, Lib.hid rfl, Lib.hid (by rw [rowF_snoc, Hx.out]; exact hO6), hbX.trans ((balloc' _ _ _ hsX).trans hb6)⟩
              case measure => simp [intOf]; omega
            · have hq : (j + 1) % m < m := Nat.mod_lt _ (by omega)
              obtain ⟨b6, o6, rfl, _, cu, u0, u1⟩ := HU.out.at_ hbv hq
              have hkm : ((j : Int) + 1).tmod (m : Int) = (((j + 1) % m : Nat) : Int) := by rw [show ((j : Int) + 1) = ((j + 1 : Nat) : Int) from rfl, Int.tmod_eq_emod_of_nonneg (by omega)]; rfl
              have hkm' : ((j : Int) + 1) % (m : Int) = (((j + 1) % m : Nat) : Int) := rfl
              have Hx : Hid (x (j + 1) = a + us.getD ((j + 1) % m) 0 % (b - a + 1)) := Lib.hid (by rw [Hxk.out]; unfold pkZ; rw [if_neg (by omega), hul])
              have hb0 := Int.emod_nonneg (us.getD ((j + 1) % m) 0) (show b - a + 1 ≠ 0 by omega)
              have hb1 := Int.emod_lt_of_pos (us.getD ((j + 1) % m) 0) (show 0 < b - a + 1 by omega)
              have hvt : (us.getD ((j + 1) % m) 0).tmod (b - a + 1) = us.getD ((j + 1) % m) 0 % (b - a + 1) := Int.tmod_eq_emod_of_nonneg u0
              generalize us.getD ((j + 1) % m) 0 = v at *
              obtain ⟨t, ht⟩ : ∃ t, v % (b - a + 1) = t := ⟨_, rfl⟩
              rw [ht] at hvt hb0 hb1 Hx
              generalize (j + 1) % m = q at *
              have hm1 : ¬ (m : Int) = 0 := by omega
              have hm2 : (0 : Int) < (m : Int) := by omega
              have hd1 : ¬ b - a + 1 = 0 := by omega
              clear Hxk
              go_wp2_with (at_builtin; refine list_one elI64 rfl _ _ rfl w1.heap.size (j + 1) _ (rowF (j + 1) x) (by rfl) (HO8.out.alloc _) wG.heap.size (a + t) (by rfl) (by simp) (by omega) (by simp; omega) ?_; intro g6 k6 w6 hO6 hb6)
              go_roundw
              case rel => exact ⟨j + 1 + 1, _, by omega, by go_num, Lib.hid rfl, Lib.hid (by rw [rowF_snoc, Hx.out]; exact hO6), hbX.trans ((balloc' _ _ _ hsX).trans hb6)⟩
              case measure => simp [intOf]; omega
        | false =>
          have ea : a = if la < xj then xj else la := by rw [← Ha.out, ← hla]; simp only [loA, hd, Hxj.out, Bool.false_eq_true, if_false]
          have eb : b = ha := by rw [← Hb.out, ← hha]; simp only [hiA, hd, Bool.false_eq_true, if_false]
          subst eb
          clear hla hha
          go_wp2_with fail
          go_quiet (fail)
          have hdv : fs.getD g false = false := by rw [← hgg]; exact hd
          have HSS : Hid (∀ U, Below w1.heap.size w1 U → (U.cell? ⟨w.heap.size, 0, none⟩ = some (.slice (some ⟨b1, o1, none⟩) n1 c1)) ∧ (U.cell? ⟨w.heap.size, 1, none⟩ = some (.slice A2 n2 c2)) ∧ (U.cell? ⟨w.heap.size, 2, none⟩ = some (.slice (some ⟨b3, o3, none⟩) n3 c3)) ∧ (U.cell? ⟨w.heap.size, 3, none⟩ = some (.slice A4 n4 c4)) ∧ U.cell? ⟨b1, o1, none⟩ = some (.int .i64 a0) ∧ U.cell? ⟨b3, o3 + g, none⟩ = some (.bool false)) := Lib.hid (fun U hU => by
            have C := HB2.out.keep hU
            obtain ⟨b9, o9, e9, _, d9⟩ := H.out.h1.at0 (Hww.out U hU) (show 0 < n1 by omega)
            injection e9 with e9
            injection e9 with e1 e2
            subst e1 e2
            obtain ⟨b9, o9, e9, _, d8⟩ := H.out.h3.at0 (Hww.out U hU) hg3
            injection e9 with e9
            injection e9 with e1 e2
            subst e1 e2
            rw [Nat.add_zero, ha0] at d9
            rw [hdv] at d8
            exact ⟨C.c 0, C.c 1, C.c 2, C.c 3, d9, d8⟩)
          clear ha0 hdv hgg
          have hbq : Below w1.heap.size w1 (W.drewN nq).drew := (bdrewN hbx nq).drew
          have hS0 := HSS.out _ hbq
          go_wp2_with fail
          refine wp_region_seq (S := fun U => (U.cell? ⟨w.heap.size, 0, none⟩ = some (.slice (some ⟨b1, o1, none⟩) n1 c1)) ∧ (U.cell? ⟨w.heap.size, 1, none⟩ = some (.slice A2 n2 c2)) ∧ (U.cell? ⟨w.heap.size, 2, none⟩ = some (.slice (some ⟨b3, o3, none⟩) n3 c3)) ∧ (U.cell? ⟨w.heap.size, 3, none⟩ = some (.slice A4 n4 c4)) ∧ U.cell? ⟨b1, o1, none⟩ = some (.int .i64 a0) ∧ U.cell? ⟨b3, o3 + g, none⟩ = some (.bool false)) [.t 0 1, .t 1 3, .t 2 7, .t 3 15, .t 4 31, .t 5 63, .t 6 127, .t 7 255, .t 8 511, .o 9 1023, .t 10 2047, .t 11 4095] (by kernel_rfl) (by kernel_rfl) (by as_aux_lemma => kernel_rfl) (by kernel_rfl) (fun c a d v w h => by cases d <;> exact h) hS0 (fun _ => ?_)
          clear hS0
          iterate 9 (refine seq_take (v := ?_) rfl (by rfl) ?_ ?_; rotate_left; focus (intro w9 hSw; obtain ⟨s1, s2, s3, s4, s5, s6⟩ := hSw; (go_simp; (try simp only [hm0, hg3, and_self, if_true, if_false]) <;> with_reducible rfl)); try simp only [Act.put, List.setIfInBounds_toArray, List.set_cons_zero, List.set_cons_succ])
          refine seq_one rfl (fun K9 hS9 => ?_)
          go_simp
          refine (kg _ _ (by rw [IntWalk.i64_in _ (by omega)]; omega) (Hww.out _ hbq)).mono ?_
          rintro e wG ⟨rfl, hbG⟩
          have hbG' : Below w1.heap.size w1 wG := hbq.trans (hbG.mono hbx.size)
          refine hS9.out _ _ (HSS.out _ hbG') (fun _ => ?_)
          clear hS9 K9
          try simp only [Act.put, List.setIfInBounds_toArray, List.set_cons_zero, List.set_cons_succ]
          iterate 2 (refine seq_take (v := ?_) rfl (by rfl) ?_ ?_; rotate_left; focus (intro w9 hSw; obtain ⟨s1, s2, s3, s4, s5, s6⟩ := hSw; (go_simp; (try simp only [hm0, hg3, and_self, if_true, if_false]) <;> with_reducible rfl)); try simp only [Act.put, List.setIfInBounds_toArray, List.set_cons_zero, List.set_cons_succ])
          refine seq_done ?_
          have hbWG : Below W.heap.size W wG := ((bdrewN (Below.refl W.heap.size W) nq).drew).trans hbG
          have c7G : wG.cell? ⟨g7, j, none⟩ = some (.int .i64 xj) := Below.cell' hbWG (OwnI.lt HO7.out).2 c7
          have hj0 : (0 : Int) ≤ (j : Int) := by omega
          have hj4 : j < j + 1 := by omega
          clear HSS kg hbq hbG cB2 fB2 lB2 B2 c7 ce4 ce5
          by_cases hmx : la < xj
          · rw [if_pos hmx] at ea
            subst ea
            have hbV := hbWG
            have HO8 := Lib.hid (own_keep HO7.out hbV)
            have hbX := hbx.trans (hbV.mono hbx.size)
            have hbv := hbw1.trans (hbX.mono hbw1.size)
            have hsX := hbX.size
            clear HO7 Ha Hb
            by_cases hm0 : m = 0
            · subst hm0
              have Hx : Hid (x (j + 1) = a) := Lib.hid (by rw [Hxk.out]; unfold pkZ; rw [if_pos hul])
              clear Hxk
              go_wp2_with (at_builtin; refine list_one elI64 rfl _ _ rfl w1.heap.size (j + 1) _ (rowF (j + 1) x) (by rfl) (HO8.out.alloc _) wG.heap.size a (by rfl) (by simp) (by omega) (by simp; omega) ?_; intro g6 k6 w6 hO6 hb6)
              go_roundw
              case rel => exact ⟨j + 1 + 1, _, by omega, by go_num, Lib.hid rfl, Lib.hid (by rw [rowF_snoc, Hx.out]; exact hO6), hbX.trans ((balloc' _ _ _ hsX).trans hb6)⟩
              case measure => simp [intOf]; omega
            · have hq : (j + 1) % m < m := Nat.mod_lt _ (by omega)
              obtain ⟨b6, o6, rfl, _, cu, u0, u1⟩ := HU.out.at_ hbv hq
              have hkm : ((j : Int) + 1).tmod (m : Int) = (((j + 1) % m : Nat) : Int) := by rw [show ((j : Int) + 1) = ((j + 1 : Nat) : Int) from rfl, Int.tmod_eq_emod_of_nonneg (by omega)]; rfl
              have hkm' : ((j : Int) + 1) % (m : Int) = (((j + 1) % m : Nat) : Int) := rfl
              have Hx : Hid (x (j + 1) = a + us.getD ((j + 1) % m) 0 % (b - a + 1)) := Lib.hid (by rw [Hxk.out]; unfold pkZ; rw [if_neg (by omega), hul])
              have hb0 := Int.emod_nonneg (us.getD ((j + 1) % m) 0) (show b - a + 1 ≠ 0 by omega)
              have hb1 := Int.emod_lt_of_pos (us.getD ((j + 1) % m) 0) (show 0 < b - a + 1 by omega)
              have hvt : (us.getD ((j + 1) % m) 0).tmod (b - a + 1) = us.getD ((j + 1) % m) 0 % (b - a + 1) := Int.tmod_eq_emod_of_nonneg u0
              generalize us.getD ((j + 1) % m) 0 = v at *
              obtain ⟨t, ht⟩ : ∃ t, v % (b - a + 1) = t := ⟨_, rfl⟩
              rw [ht] at hvt hb0 hb1 Hx
              generalize (j + 1) % m = q at *
              have hm1 : ¬ (m : Int) = 0 := by omega
              have hm2 : (0 : Int) < (m : Int) := by omega
              have hd1 : ¬ b - a + 1 = 0 := by omega
              clear Hxk
              go_wp2_with (at_builtin; refine list_one elI64 rfl _ _ rfl w1.heap.size (j + 1) _ (rowF (j + 1) x) (by rfl) (HO8.out.alloc _) wG.heap.size (a + t) (by rfl) (by simp) (by omega) (by simp; omega) ?_; intro g6 k6 w6 hO6 hb6)
              go_roundw
              case rel => exact ⟨j + 1 + 1, _, by omega, by go_num, Lib.hid rfl, Lib.hid (by rw [rowF_snoc, Hx.out]; exact hO6), hbX.trans ((balloc' _ _ _ hsX).trans hb6)⟩
              case measure => simp [intOf]; omega
          · rw [if_neg hmx] at ea
            subst ea
            have hbV := hbWG
            have HO8 := Lib.hid (own_keep HO7.out hbV)
            have hbX := hbx.trans (hbV.mono hbx.size)
            have hbv := hbw1.trans (hbX.mono hbw1.size)
            have hsX := hbX.size
            clear HO7 Ha Hb
            by_cases hm0 : m = 0
            · subst hm0
              have Hx : Hid (x (j + 1) = a) := Lib.hid (by rw [Hxk.out]; unfold pkZ; rw [if_pos hul])
              clear Hxk
              go_wp2_with (at_builtin; refine list_one elI64 rfl _ _ rfl w1.heap.size (j + 1) _ (rowF (j + 1) x) (by rfl) (HO8.out.alloc _) wG.heap.size a (by rfl) (by simp) (by omega) (by simp; omega) ?_; intro g6 k6 w6 hO6 hb6)
              go_roundw
              case rel => exact ⟨j + 1 + 1, _, by omega, by go_num, Lib.hid rfl, Lib.hid (by rw [rowF_snoc, Hx.out]; exact hO6), hbX.trans ((balloc' _ _ _ hsX).trans hb6)⟩
              case measure => simp [intOf]; omega
            · have hq : (j + 1) % m < m := Nat.mod_lt _ (by omega)
              obtain ⟨b6, o6, rfl, _, cu, u0, u1⟩ := HU.out.at_ hbv hq
              have hkm : ((j : Int) + 1).tmod (m : Int) = (((j + 1) % m : Nat) : Int) := by rw [show ((j : Int) + 1) = ((j + 1 : Nat) : Int) from rfl, Int.tmod_eq_emod_of_nonneg (by omega)]; rfl
              have hkm' : ((j : Int) + 1) % (m : Int) = (((j + 1) % m : Nat) : Int) := rfl
              have Hx : Hid (x (j + 1) = a + us.getD ((j + 1) % m) 0 % (b - a + 1)) := Lib.hid (by rw [Hxk.out]; unfold pkZ; rw [if_neg (by omega), hul])
              have hb0 := Int.emod_nonneg (us.getD ((j + 1) % m) 0) (show b - a + 1 ≠ 0 by omega)
              have hb1 := Int.emod_lt_of_pos (us.getD ((j + 1) % m) 0) (show 0 < b - a + 1 by omega)
              have hvt : (us.getD ((j + 1) % m) 0).tmod (b - a + 1) = us.getD ((j + 1) % m) 0 % (b - a + 1) := Int.tmod_eq_emod_of_nonneg u0
              generalize us.getD ((j + 1) % m) 0 = v at *
              obtain ⟨t, ht⟩ : ∃ t, v % (b - a + 1) = t := ⟨_, rfl⟩
              rw [ht] at hvt hb0 hb1 Hx
              generalize (j + 1) % m = q at *
              have hm1 : ¬ (m : Int) = 0 := by omega
              have hm2 : (0 : Int) < (m : Int) := by omega
              have hd1 : ¬ b - a + 1 = 0 := by omega
              clear Hxk
              go_wp2_with (at_builtin; refine list_one elI64 rfl _ _ rfl w1.heap.size (j + 1) _ (rowF (j + 1) x) (by rfl) (HO8.out.alloc _) wG.heap.size (a + t) (by rfl) (by simp) (by omega) (by simp; omega) ?_; intro g6 k6 w6 hO6 hb6)
              go_roundw
              case rel => exact ⟨j + 1 + 1, _, by omega, by go_num, Lib.hid rfl, Lib.hid (by rw [rowF_snoc, Hx.out]; exact hO6), hbX.trans ((balloc' _ _ _ hsX).trans hb6)⟩
              case measure => simp [intOf]; omega
    · obtain rfl : n4 = k := by omega
      obtain ⟨g7, k7, rfl⟩ := own_slice HO7.out (by omega)
      have R7 := (OwnI.ints HO7.out).1
      have m7 := (OwnI.ints HO7.out).2
      go_wp2_with fail
      go_ret
      exact ⟨g7, k7, rfl, R7, m7, bstep hbw1 hbx⟩

end Go.Proofs.YtminplfgadhnnaaGreatDoor
end
