/- ZA6 ZA7 ZA8 ZA9 -/
import Derived.Test.YtminplfgadhnnaaGreatDoorSC10
import Derived.Test.YtminplfgadhnnaaGreatDoorSC08
/- Walks of layer 3: the reference's Doubted; Lantern. -/
section
namespace Go.Proofs.YtminplfgadhnnaaGreatDoor
open Go.RowKit Go.Shelf
set_option linter.unusedSimpArgs false
set_option linter.unusedVariables false
open Zm

theorem rowF_at {n k : Nat} {f : Nat → Int} (hk : k < n) : (rowF n f).getD k 0 = f k := rowF_get f hk

set_option maxRecDepth 100000 in
set_option maxHeartbeats 4000000 in
theorem zdoubted_any (A1 : Option Addr) (n1 c1 : Nat) (A2 : Option Addr) (n2 c2 : Nat) (A3 : Option Addr) (n3 c3 : Nat) (A4 : Option Addr) (n4 c4 : Nat) (an : List Int) (ls : List (Int × Int)) (fs : List Bool) (ws : List Int) (w : World) (h : Lmp w A1 n1 c1 A2 n2 c2 A3 n3 c3 A4 n4 c4 an ls fs ws) (ho : LampOk an ls fs ws) :
    Calls Tryz.prog 30 #[.agg #[.slice A1 n1 c1, .slice A2 n2 c2, .slice A3 n3 c3, .slice A4 n4 c4]] w fun e w' => e = .returned (.bool (dbtZ an ls fs n4)) ∧ Below w.heap.size w w' := by
  have hws := ho.ws91
  rw [h.h4.1] at hws
  have kb := fun (W : World) (hb : Below w.heap.size w W) => zbounds_any _ _ _ _ _ _ _ _ _ _ _ _ _ _ _ _ W (h.below hb) ho
  have Hyes : Hid (∀ k, k < n4 → hiZ an ls fs n4 k < loZ an ls fs n4 k → dbtZ an ls fs n4 = true) := Lib.hid (fun k hk hlt => by
    unfold dbtZ; exact List.any_eq_true.2 ⟨k, List.mem_range.2 hk, by simpa using hlt⟩)
  have Hno : Hid ((∀ k, k < n4 → loZ an ls fs n4 k ≤ hiZ an ls fs n4 k) → dbtZ an ls fs n4 = false) := Lib.hid (fun hh => by
    unfold dbtZ; rw [List.any_eq_false]; intro k hk; simpa using hh k (List.mem_range.1 hk))
  generalize dbtZ an ls fs n4 = r at *
  generalize loZ an ls fs n4 = lo at *
  generalize hiZ an ls fs n4 = hi at *
  clear h ho
  go_enter Tryz.func30, Tryz.ntmps30
  go_wp2_with fail
  refine (kb _ blA).mono ?_
  rintro _ w1 ⟨g4, k4, g5, k5, rfl, i4, i5, ⟨m4, m5⟩, hb1⟩
  try clear cB1 fB1 lB1
  try clear B1
  replace hbw : Below w.heap.size w w1 := blA
  clear hb1
  clear kb
  have H4 := Lib.hid i4
  have H5 := Lib.hid i5
  clear i4 i5
  go_wp2_with fail
  go_loopw [5] (fun s5 wx => ∃ (k : Nat) (W : World), k ≤ n4 ∧ s5 = .int .i64 (k : Nat) ∧ Hid (W = wx) ∧ Hid (∀ j, j < k → lo j ≤ hi j) ∧ Below w1.heap.size w1 W) (fun s5 _ => n4 - (intOf s5).toNat)
  case atStart => exact ⟨0, _, Nat.zero_le _, rfl, Lib.hid rfl, Lib.hid (fun j hj => absurd hj (by omega)), blA⟩
  case round =>
    obtain ⟨k, W, hk, rfl, HW, HK, hbx⟩ := hrel
    obtain rfl := HW.out
    clear HW
    by_cases hkn : k < n4
    · obtain ⟨b, off, e, _, c4⟩ := H4.out.at0 hbx hkn
      injection e with e
      injection e with e1 e2
      subst e1 e2
      obtain ⟨b, off, e, _, c5⟩ := H5.out.at0 hbx hkn
      injection e with e
      injection e with e1 e2
      subst e1 e2
      rw [rowF_at hkn, Nat.zero_add] at c4 c5
      have hkl : (k : Int) < (n4 : Int) := by omega
      cases d1 : decide (hi k < lo k) with
      | true =>
        obtain rfl : r = true := Hyes.out k hkn (by simpa using d1)
        clear Hyes Hno HK
        generalize lo k = a at *
        generalize hi k = b at *
        go_wp2_with fail
        go_quiet (fail)
        go_wp2_with fail
        go_ret
        exact ⟨rfl, blA⟩
      | false =>
        have Hd : Hid (lo k ≤ hi k) := Lib.hid (by simpa using d1)
        obtain ⟨a, ha⟩ : ∃ a, lo k = a := ⟨_, rfl⟩
        obtain ⟨b, hb⟩ : ∃ a, hi k = a := ⟨_, rfl⟩
        rw [ha] at c4 d1
        rw [hb] at c5 d1
        clear ha hb
        go_wp2_with fail
        go_quiet (fail)
        go_wp2_with fail
        go_roundw
        case rel =>
          refine ⟨k + 1, _, by omega, by go_num, Lib.hid rfl, Lib.hid (fun j hj => ?_), blA⟩
          by_cases e : j = k
          · subst e; exact Hd.out
          · exact HK.out j (by omega)
        case measure => simp [intOf]; omega
    · obtain rfl : n4 = k := by omega
      obtain rfl : r = false := Hno.out HK.out
      clear Hyes Hno HK
      go_wp2_with fail
      go_ret
      exact ⟨rfl, blA⟩

/-- a list of small numbers -/
def U8s (w : World) (A : Option Addr) (n : Nat) (zs : List Int) : Prop :=
  zs.length = n ∧ (0 < n → ∃ b off, A = some ⟨b, off, none⟩ ∧ b < w.heap.size ∧ ∀ i, i < n → w.cell? ⟨b, off + i, none⟩ = some (.int .u8 (zs.getD i 0)) ∧ 0 ≤ zs.getD i 0 ∧ zs.getD i 0 ≤ 255)
theorem U8s.below {w w' : World} {A : Option Addr} {n : Nat} {zs : List Int} (h : U8s w A n zs) (hb : Below w.heap.size w w') : U8s w' A n zs := by
  refine ⟨h.1, fun hn => ?_⟩
  obtain ⟨b, off, rfl, hlt, hc⟩ := h.2 hn
  exact ⟨b, off, rfl, Nat.lt_of_lt_of_le hlt hb.size, fun i hi => ⟨(hb.cell (p := ⟨b, off + i, none⟩) hlt).trans (hc i hi).1, (hc i hi).2⟩⟩
theorem U8s.at_ {w wr : World} {A : Option Addr} {n k : Nat} {zs : List Int} (h : U8s w A n zs) (hb : Below w.heap.size w wr) (hk : k < n) :
    ∃ b off, A = some ⟨b, off, none⟩ ∧ b < w.heap.size ∧ wr.cell? ⟨b, off + k, none⟩ = some (.int .u8 (zs.getD k 0)) ∧ 0 ≤ zs.getD k 0 ∧ zs.getD k 0 ≤ 255 := by
  obtain ⟨b, off, rfl, hlt, hc⟩ := h.2 (by omega)
  exact ⟨b, off, rfl, hlt, (hb.cell (p := ⟨b, off + k, none⟩) hlt).trans (hc k hk).1, (hc k hk).2⟩

end Go.Proofs.YtminplfgadhnnaaGreatDoor
end

/- Walks of layer 3: Lantern. -/
section
namespace Go.Proofs.YtminplfgadhnnaaGreatDoor
open Go.RowKit Go.Shelf
set_option linter.unusedSimpArgs false
set_option linter.unusedVariables false
open Zm

set_option maxRecDepth 100000 in
set_option maxHeartbeats 16000000 in
theorem zlantern_any (A1 : Option Addr) (n1 c1 : Nat) (A2 : Option Addr) (n2 c2 : Nat) (A3 : Option Addr) (n3 c3 : Nat) (A4 : Option Addr) (n4 c4 : Nat) (an : List Int) (ls : List (Int × Int)) (fs : List Bool) (ws : List Int) (A : Option Addr) (m D : Nat) (us : List Int) (w : World) (h : Lmp w A1 n1 c1 A2 n2 c2 A3 n3 c3 A4 n4 c4 an ls fs ws) (ho : LampOk an ls fs ws) (hd : dbtZ an ls fs n4 = false) (hu : U8s w A m us) (hm : m ≤ 1000) :
    Calls Tryz.prog 10 #[.agg #[.slice A1 n1 c1, .slice A2 n2 c2, .slice A3 n3 c3, .slice A4 n4 c4], .slice A m D] w fun e w' => ∃ g k : Nat, e = .returned (.slice (some ⟨g, 0, none⟩) n4 k) ∧ Ints w' (some ⟨g, 0, none⟩) n4 (rowF n4 (lntZ an ls fs us n4)) ∧ n4 ≤ k ∧ Below w.heap.size w w' := by
  have hws := ho.ws91
  have hl4 := h.h4.1
  have hl3 := h.h3.1
  have hl1 := h.h1.1
  have hul := hu.1
  rw [hl4] at hws
  have kb := fun (W : World) (hb : Below w.heap.size w W) => zbounds_any _ _ _ _ _ _ _ _ _ _ _ _ _ _ _ _ W (h.below hb) ho
  have Hstep := Lib.hid (fun k => lnt_step (an := an) (ls := ls) (fs := fs) (us := us) n4 k)
  have Hab := Lib.hid (fun k (hk : k < ws.length) => lnt_ab (us := us) ho (by rw [hl4]; exact hd) hk)
  have Hxb := Lib.hid (fun k (hk : k < ws.length) => lnt_bd (us := us) ho (by rw [hl4]; exact hd) hk)
  rw [hl4] at Hab Hxb
  have Hlo : Hid (loZ an ls fs n4 = loZ an ls fs n4) := Lib.hid rfl
  have H := Lib.hid h
  have HO := Lib.hid ho
  have HU := Lib.hid hu
  generalize lntZ an ls fs us n4 = x at *
  generalize loZ an ls fs n4 = lo at *
  generalize hiZ an ls fs n4 = hi at *
  clear h ho hd hu Hlo
  go_enter Tryz.func10, Tryz.ntmps10
  go_wp2_with fail
  refine (kb _ blA).mono ?_
  rintro _ w1 ⟨g4, k4, g5, k5, rfl, i4, i5, ⟨m4, m5⟩, hb1⟩
  have l12 : w.heap.size < w1.heap.size := by have := hb1.size; simp at this; omega
  replace B2 : Cs w1 (w.heap.size) #[.slice A1 n1 c1, .slice A2 n2 c2, .slice A3 n3 c3, .slice A4 n4 c4] := Cs.keep csA hb1
  replace hbw : Below w.heap.size w w1 := blA
  replace cB2 := B2.c
  replace fB2 := B2.f
  replace lB2 := B2.lt
  clear hb1
  clear kb
  have H4 := Lib.hid i4
  have H5 := Lib.hid i5
  have HB2 := Lib.hid B2
  have hbw1 := hbw
  clear i4 i5 B2 cB2 fB2 lB2 hbw
  go_wp2_with fail
  go_loopw [7, 8] (fun s7 s8 wx => ∃ (k : Nat) (W : World), k ≤ n4 ∧ s8 = .int .i64 (k : Nat) ∧ Hid (W = wx) ∧ Hid (W.ownsRow w1.heap.size 2 1 s7 k ((rowF k x).map (Value.int .i64))) ∧ Below w1.heap.size w1 W) (fun _ s8 _ => n4 - (intOf s8).toNat)
  case atStart => exact ⟨0, _, Nat.zero_le _, rfl, Lib.hid rfl, Lib.hid (by simp [rowF]; exact World.ownsRow_nil _ _ _ _), blA⟩
  case round =>
    obtain ⟨k, W, hk, rfl, HW, HO7, hbx⟩ := hrel
    obtain rfl := HW.out
    clear HW
    by_cases hkn : k < n4
    · obtain ⟨b, off, e, _, ce4⟩ := H4.out.at0 hbx hkn
      injection e with e
      injection e with e1 e2
      subst e1 e2
      obtain ⟨b, off, e, _, ce5⟩ := H5.out.at0 hbx hkn
      injection e with e
      injection e with e1 e2
      subst e1 e2
      rw [rowF_at hkn, Nat.zero_add] at ce4 ce5
      have hkl : (k : Int) < (n4 : Int) := by omega
      obtain ⟨p1, p2, p3⟩ := Hab.out k hkn
      have hxk := Hstep.out k
      obtain ⟨a, ha⟩ : ∃ a, loA (dF an fs) lo x k = a := ⟨_, rfl⟩
      obtain ⟨b, hb⟩ : ∃ b, hiA (dF an fs) hi x k = b := ⟨_, rfl⟩
      have Ha := Lib.hid ha
      have Hb := Lib.hid hb
      rw [ha] at p1 p2 hxk
      rw [hb] at p2 p3 hxk
      have Hxk := Lib.hid hxk
      clear ha hb hxk
      cases k with
      | zero =>
        have e1 : lo 0 = a := Ha.out
        have e2 : hi 0 = b := Hb.out
        rw [e1] at ce4
        rw [e2] at ce5
        clear e1 e2
        go_wp2_with fail
        go_quiet (fail)
        obtain ⟨V, hV⟩ : ∃ V, W.drewN nq = V := ⟨_, rfl⟩
        have hbV : Below W.heap.size W V := hV ▸ bdrewN (Below.refl _ _) nq
        rw [hV]
        clear hV
        have HO8 := Lib.hid (own_keep HO7.out hbV)
        have hbX := hbx.trans (hbV.mono hbx.size)
        have hbv := hbw1.trans (hbX.mono hbw1.size)
        have hsX := hbX.size
        clear HO7 Ha Hb
        by_cases hm0 : m = 0
        · subst hm0
          have Hx : Hid (x (0) = a) := Lib.hid (by rw [Hxk.out]; unfold pkZ; rw [if_pos hul])
          clear Hxk
          go_wp2_with (at_builtin; refine list_one elI64 rfl _ _ rfl w1.heap.size (0) _ (rowF (0) x) (by rfl) (HO8.out.alloc _) V.heap.size a (by rfl) (by simp) (by omega) (by simp; omega) ?_; intro g6 k6 w6 hO6 hb6)
          go_roundw
          case rel => exact ⟨0 + 1, _, by omega, by go_num, Lib.hid rfl, Lib.hid (by rw [rowF_snoc, Hx.out]; exact hO6), hbX.trans ((balloc' _ _ _ hsX).trans hb6)⟩
          case measure => simp [intOf]; omega
        · have hq : 0 < m := by omega
          obtain ⟨b6, o6, rfl, _, cu, u0, u1⟩ := HU.out.at_ hbv hq
          have Hx : Hid (x (0) = a + us.getD 0 0 % (b - a + 1)) := Lib.hid (by rw [Hxk.out]; unfold pkZ; rw [if_neg (by omega), Nat.zero_mod])
          have hb0 := Int.emod_nonneg (us.getD 0 0) (show b - a + 1 ≠ 0 by omega)
          have hb1 := Int.emod_lt_of_pos (us.getD 0 0) (show 0 < b - a + 1 by omega)
          have hvt : (us.getD 0 0).tmod (b - a + 1) = us.getD 0 0 % (b - a + 1) := Int.tmod_eq_emod_of_nonneg u0
          generalize us.getD 0 0 = v at *
          obtain ⟨t, ht⟩ : ∃ t, v % (b - a + 1) = t := ⟨_, rfl⟩
          rw [ht] at hvt hb0 hb1 Hx
          rw [Nat.add_zero] at cu
          have hm1 : ¬ (m : Int) = 0 := by omega
          have hm2 : (0 : Int) < (m : Int) := by omega
          have hd1 : ¬ b - a + 1 = 0 := by omega
          clear Hxk
          go_wp2_with (at_builtin; refine list_one elI64 rfl _ _ rfl w1.heap.size (0) _ (rowF (0) x) (by rfl) (HO8.out.alloc _) V.heap.size (a + t) (by rfl) (by simp) (by omega) (by simp; omega) ?_; intro g6 k6 w6 hO6 hb6)
          go_roundw
          case rel => exact ⟨0 + 1, _, by omega, by go_num, Lib.hid rfl, Lib.hid (by rw [rowF_snoc, Hx.out]; exact hO6), hbX.trans ((balloc' _ _ _ hsX).trans hb6)⟩
          case measure => simp [intOf]; omega
      | succ j =>
        obtain ⟨g7, k7, rfl⟩ := own_slice HO7.out (by omega)
        have c7 := OwnI.cellw HO7.out (Below.refl _ _) (show j < j + 1 by omega)
        rw [rowF_at (by omega)] at c7
        obtain ⟨xj, hxj⟩ : ∃ y, x j = y := ⟨_, rfl⟩
        rw [hxj] at c7
        have Hxj := Lib.hid hxj
        have kk7 := (OwnI.ints HO7.out).2
        have hbv := hbw1.trans (hbx.mono hbw1.size)
        have B2 := HB2.out.keep hbx
        have cB2 := B2.c
        have fB2 := B2.f
        have lB2 := B2.lt
        obtain ⟨b1, o1, rfl, _, c0⟩ := H.out.h1.at0 hbv (show 0 < n1 by have := HO.out.n2; omega)
        obtain ⟨q1, q2, q3⟩ := gapF_bd HO.out (k := j + 1) (by omega) (by omega)
        have kg := fun (W : World) (v : Int) (hv : v = an.getD 0 0 + ((j + 1 : Nat) : Int)) (hb : Below w.heap.size w W) => hv ▸ zgap_any _ _ _ _ _ _ _ _ _ _ _ _ _ _ _ _ (j + 1) W (H.out.below hb) HO.out (by omega) hkn
        have hg3 : gapN an (j + 1) < n3 := by have := HO.out.fsl; omega
        obtain ⟨b3, o3, rfl, _, _⟩ := H.out.h3.at0 hbv hg3
        have hba := HO.out.bd 0 (by have := HO.out.n2; omega)
        have hm0 : 0 < n1 := by have := HO.out.n2; omega
        obtain ⟨a0, ha0⟩ : ∃ a, an.getD 0 0 = a := ⟨_, rfl⟩
        rw [ha0] at kg hba
        obtain ⟨g, hgg⟩ : ∃ g, gapN an (j + 1) = g := ⟨_, rfl⟩
        rw [hgg] at kg hg3
        have hjl : (j : Int) < (k7 : Int) := by omega
        have hjl2 : (j : Int) < (j : Int) + 1 := by omega
        have hgl : (g : Int) < (n3 : Int) := by omega
        have Hww : Hid (∀ V, Below w1.heap.size w1 V → Below w.heap.size w V) := Lib.hid (fun V hV => hbw1.trans (hV.mono (Nat.le_of_lt l12)))
        clear q1 q2 q3 c0 hxj
        obtain ⟨la, hla⟩ : ∃ y, lo (j + 1) = y := ⟨_, rfl⟩
        obtain ⟨ha, hha⟩ : ∃ y, hi (j + 1) = y := ⟨_, rfl⟩
        rw [hla] at ce4
        rw [hha] at ce5
        cases hd : dF an fs (j + 1) with
        | true =>
          have ea : a = la := by rw [← Ha.out, ← hla]; simp only [loA, hd, if_true]
          have eb : b = if xj < ha then xj else ha := by rw [← Hb.out, ← hha]; simp only [hiA, hd, Hxj.out, if_true]
          subst ea
          clear hla hha
          go_wp2_with fail
          go_quiet (fail)
          have hdv : fs.getD g false = true := by rw [← hgg]; exact hd
          have HSS : Hid (∀ U, Below w1.heap.size w1 U → (U.cell? ⟨w.heap.size, 0, none⟩ = some (.slice (some ⟨b1, o1, none⟩) n1 c1)) ∧ (U.cell? ⟨w.heap.size, 1, none⟩ = some (.slice A2 n2 c2)) ∧ (U.cell? ⟨w.heap.size, 2, none⟩ = some (.slice (some ⟨b3, o3, none⟩) n3 c3)) ∧ (U.cell? ⟨w.heap.size, 3, none⟩ = some (.slice A4 n4 c4)) ∧ U.cell? ⟨b1, o1, none⟩ = some (.int .i64 a0) ∧ U.cell? ⟨b3, o3 + g, none⟩ = some (.bool true)) := Lib.hid (fun U hU => by
            have C := HB2.out.keep hU
            obtain ⟨b9, o9, e9, _, d9⟩ := H.out.h1.at0 (Hww.out U hU) (show 0 < n1 by omega)
            injection e9 with e9
            injection e9 with e1 e2
            subst e1 e2
            obtain ⟨b9, o9, e9, _, d8⟩ := H.out.h3.at0 (Hww.out U hU) hg3
            injection e9 with e9
            injection e9 with e1 e2
            subst e1 e2
            rw [Nat.add_zero, ha0] at d9
            rw [hdv] at d8
            exact ⟨C.c 0, C.c 1, C.c 2, C.c 3, d9, d8⟩)
          clear ha0 hdv hgg
          have hbq : Below w1.heap.size w1 (W.drewN nq).drew := (bdrewN hbx nq).drew
          have hS0 := HSS.out _ hbq
          go_wp2_with fail
          refine wp_region_seq (S := fun U => (U.cell? ⟨w.heap.size, 0, none⟩ = some (.slice (some ⟨b1, o1, none⟩) n1 c1)) ∧ (U.cell? ⟨w.heap.size, 1, none⟩ = some (.slice A2 n2 c2)) ∧ (U.cell? ⟨w.heap.size, 2, none⟩ = some (.slice (some ⟨b3, o3, none⟩) n3 c3)) ∧ (U.cell? ⟨w.heap.size, 3, none⟩ = some (.slice A4 n4 c4)) ∧ U.cell? ⟨b1, o1, none⟩ = some (.int .i64 a0) ∧ U.cell? ⟨b3, o3 + g, none⟩ = some (.bool true)) [.t 0 1, .t 1 3, .t 2 7, .t 3 15, .t 4 31, .t 5 63, .t 6 127, .t 7 255, .t 8 511, .o 9 1023, .t 10 2047, .t 11 4095] (by kernel_rfl) (by kernel_rfl) (by as_aux_lemma => kernel_rfl) (by kernel_rfl) (fun c a d v w h => by cases d <;> exact h) hS0 (fun _ => ?_)
          clear hS0
          iterate 9 (refine seq_take (v := ?_) rfl (by rfl) ?_ ?_; rotate_left; focus (intro w9 hSw; obtain ⟨s1, s2, s3, s4, s5, s6⟩ := hSw; (go_simp; (try simp only [hm0, hg3, and_self, if_true, if_false]) <;> with_reducible rfl)); try simp only [Act.put, List.setIfInBounds_toArray, List.set_cons_zero, List.set_cons_succ])
          refine seq_one rfl (fun K9 hS9 => ?_)
          go_simp
          refine (kg _ _ (by rw [IntWalk.i64_in _ (by omega)]; omega) (Hww.out _ hbq)).mono ?_
          rintro e wG ⟨rfl, hbG⟩
          have hbG' : Below w1.heap.size w1 wG := hbq.trans (hbG.mono hbx.size)
          refine hS9.out _ _ (HSS.out _ hbG') (fun _ => ?_)
          clear hS9 K9
          try simp only [Act.put, List.setIfInBounds_toArray, List.set_cons_zero, List.set_cons_succ]
          iterate 2 (refine seq_take (v := ?_) rfl (by rfl) ?_ ?_; rotate_left; focus (intro w9 hSw; obtain ⟨s1, s2, s3, s4, s5, s6⟩ := hSw; (go_simp; (try simp only [hm0, hg3, and_self, if_true, if_false]) <;> with_reducible rfl)); try simp only [Act.put, List.setIfInBounds_toArray, List.set_cons_zero, List.set_cons_succ])
          refine seq_done ?_
          have hbWG : Below W.heap.size W wG := ((bdrewN (Below.refl W.heap.size W) nq).drew).trans hbG
          have c7G : wG.cell? ⟨g7, j, none⟩ = some (.int .i64 xj) := Below.cell' hbWG (OwnI.lt HO7.out).2 c7
          have hj0 : (0 : Int) ≤ (j : Int) := by omega
          have hj4 : j < j + 1 := by omega
          clear HSS kg hbq hbG cB2 fB2 lB2 B2 c7 ce4 ce5
          by_cases hmx : xj < ha
          · rw [if_pos hmx] at eb
            subst eb
            have hbV := hbWG
            have HO8 := Lib.hid (own_keep HO7.out hbV)
            have hbX := hbx.trans (hbV.mono hbx.size)
            have hbv := hbw1.trans (hbX.mono hbw1.size)
            have hsX := hbX.size
            clear HO7 Ha Hb
            by_cases hm0 : m = 0
            · subst hm0
              have Hx : Hid (x (j + 1) = a) := Lib.hid (by rw [Hxk.out]; unfold pkZ; rw [if_pos hul])
              clear Hxk
              go_wp2_with (at_builtin; refine list_one elI64 rfl _ _ rfl w1.heap.size (j + 1) _ (rowF (j + 1) x) (by rfl) (HO8.out.alloc _) wG.heap.size a (by rfl) (by simp) (by omega) (by simp; omega) ?_; intro g6 k6 w6 hO6 hb6)
              go_roundw
              case rel => exact ⟨j + 1 + 1, _, by omega, by go_num, Lib.hid rfl, Lib.hid (by rw [rowF_snoc, Hx.out]; exact hO6), hbX.trans ((balloc' _ _ _ hsX).trans hb6)⟩
              case measure => simp [intOf]; omega
            · have hq : (j + 1) % m < m := Nat.mod_lt _ (by omega)
              obtain ⟨b6, o6, rfl, _, cu, u0, u1⟩ := HU.out.at_ hbv hq
              have hkm : ((j : Int) + 1).tmod (m : Int) = (((j + 1) % m : Nat) : Int) := by rw [show ((j : Int) + 1) = ((j + 1 : Nat) : Int) from rfl, Int.tmod_eq_emod_of_nonneg (by omega)]; rfl
              have hkm' : ((j : Int) + 1) % (m : Int) = (((j + 1) % m : Nat) : Int) := rfl
              have Hx : Hid (x (j + 1) = a + us.getD ((j + 1) % m) 0 % (b - a + 1)) := Lib.hid (by rw [Hxk.out]; unfold pkZ; rw [if_neg (by omega), hul])
              have hb0 := Int.emod_nonneg (us.getD ((j + 1) % m) 0) (show b - a + 1 ≠ 0 by omega)
              have hb1 := Int.emod_lt_of_pos (us.getD ((j + 1) % m) 0) (show 0 < b - a + 1 by omega)
              have hvt : (us.getD ((j + 1) % m) 0).tmod (b - a + 1) = us.getD ((j + 1) % m) 0 % (b - a + 1) := Int.tmod_eq_emod_of_nonneg u0
              generalize us.getD ((j + 1) % m) 0 = v at *
              obtain ⟨t, ht⟩ : ∃ t, v % (b - a + 1) = t := ⟨_, rfl⟩
              rw [ht] at hvt hb0 hb1 Hx
              generalize (j + 1) % m = q at *
              have hm1 : ¬ (m : Int) = 0 := by omega
              have hm2 : (0 : Int) < (m : Int) := by omega
              have hd1 : ¬ b - a + 1 = 0 := by omega
              clear Hxk
              go_wp2_with (at_builtin; refine list_one elI64 rfl _ _ rfl w1.heap.size (j + 1) _ (rowF (j + 1) x) (by rfl) (HO8.out.alloc _) wG.heap.size (a + t) (by rfl) (by simp) (by omega) (by simp; omega) ?_; intro g6 k6 w6 hO6 hb6)
              go_roundw
              case rel => exact ⟨j + 1 + 1, _, by omega, by go_num, Lib.hid rfl, Lib.hid (by rw [rowF_snoc, Hx.out]; exact hO6), hbX.trans ((balloc' _ _ _ hsX).trans hb6)⟩
              case measure => simp [intOf]; omega
          · rw [if_neg hmx] at eb
            subst eb
            have hbV := hbWG
            have HO8 := Lib.hid (own_keep HO7.out hbV)
            have hbX := hbx.trans (hbV.mono hbx.size)
            have hbv := hbw1.trans (hbX.mono hbw1.size)
            have hsX := hbX.size
            clear HO7 Ha Hb
            by_cases hm0 : m = 0
            · subst hm0
              have Hx : Hid (x (j + 1) = a) := Lib.hid (by rw [Hxk.out]; unfold pkZ; rw [if_pos hul])
              clear Hxk
              go_wp2_with (at_builtin; refine list_one elI64 rfl _ _ rfl w1.heap.size (j + 1) _ (rowF (j + 1) x) (by rfl) (HO8.out.alloc _) wG.heap.size a (by rfl) (by simp) (by omega) (by simp; omega) ?_; intro g6 k6 w6 hO6 hb6)
              go_roundw
              case rel => exact ⟨j + 1 + 1, _, by omega, by go_num, Lib.hid rfl, Lib.hid (by rw [rowF_snoc, Hx.out]; exact hO6), hbX.trans ((balloc' _ _ _ hsX).trans hb6)⟩
              case measure => simp [intOf]; omega
            · have hq : (j + 1) % m < m := Nat.mod_lt _ (by omega)
              obtain ⟨b6, o6, rfl, _, cu, u0, u1⟩ := HU.out.at_ hbv hq
              have hkm : ((j : Int) + 1).tmod (m : Int) = (((j + 1) % m : Nat) : Int) := by rw [show ((j : Int) + 1) = ((j + 1 : Nat) : Int) from rfl, Int.tmod_eq_emod_of_nonneg (by omega)]; rfl
              have hkm' : ((j : Int) + 1) % (m : Int) = (((j + 1) % m : Nat) : Int) := rfl
              have Hx : Hid (x (j + 1) = a + us.getD ((j + 1) % m) 0 % (b - a + 1)) := Lib.hid (by rw [Hxk.out]; unfold pkZ; rw [if_neg (by omega), hul])
              have hb0 := Int.emod_nonneg (us.getD ((j + 1) % m) 0) (show b - a + 1 ≠ 0 by omega)
              have hb1 := Int.emod_lt_of_pos (us.getD ((j + 1) % m) 0) (show 0 < b - a + 1 by omega)
              have hvt : (us.getD ((j + 1) % m) 0).tmod (b - a + 1) = us.getD ((j + 1) % m) 0 % (b - a + 1) := Int.tmod_eq_emod_of_nonneg u0
              generalize us.getD ((j + 1) % m) 0 = v at *
              obtain ⟨t, ht⟩ : ∃ t, v % (b - a + 1) = t := ⟨_, rfl⟩
              rw [ht] at hvt hb0 hb1 Hx
              generalize (j + 1) % m = q at *
              have hm1 : ¬ (m : Int) = 0 := by omega
              have hm2 : (0 : Int) < (m : Int) := by omega
              have hd1 : ¬ b - a + 1 = 0 := by omega
              clear Hxk
              go_wp2_with (at_builtin; refine list_one elI64 rfl _ _ rfl w1.heap.size (j + 1) _ (rowF (j + 1) x) (by rfl) (HO8.out.alloc _) wG.heap.size (a + t) (by rfl) (by simp) (by omega) (by simp; omega) ?_; intro g6 k6 w6 hO6 hb6)
              go_roundw
              case rel => exact ⟨j + 1 + 1, _, by omega, by go_num, Lib.hid rfl, Lib.hid (by rw [rowF_snoc, Hx.out]; exact hO6), hbX.trans ((balloc' _ _ _ hsX).trans hb6)⟩
              case measure => simp [intOf]; omega
        | false =>
          have ea : a = if la < xj then xj else la := by rw [← Ha.out, ← hla]; simp only [loA, hd, Hxj.out, Bool.false_eq_true, if_false]
          have eb : b = ha := by rw [← Hb.out, ← hha]; simp only [hiA, hd, Bool.false_eq_true, if_false]
          subst eb
          clear hla hha
          go_wp2_with fail
          go_quiet (fail)
          have hdv : fs.getD g false = false := by rw [← hgg]; exact hd
          have HSS : Hid (∀ U, Below w1.heap.size w1 U → (U.cell? ⟨w.heap.size, 0, none⟩ = some (.slice (some ⟨b1, o1, none⟩) n1 c1)) ∧ (U.cell? ⟨w.heap.size, 1, none⟩ = some (.slice A2 n2 c2)) ∧ (U.cell? ⟨w.heap.size, 2, none⟩ = some (.slice (some ⟨b3, o3, none⟩) n3 c3)) ∧ (U.cell? ⟨w.heap.size, 3, none⟩ = some (.slice A4 n4 c4)) ∧ U.cell? ⟨b1, o1, none⟩ = some (.int .i64 a0) ∧ U.cell? ⟨b3, o3 + g, none⟩ = some (.bool false)) := Lib.hid (fun U hU => by
            have C := HB2.out.keep hU
            obtain ⟨b9, o9, e9, _, d9⟩ := H.out.h1.at0 (Hww.out U hU) (show 0 < n1 by omega)
            injection e9 with e9
            injection e9 with e1 e2
            subst e1 e2
            obtain ⟨b9, o9, e9, _, d8⟩ := H.out.h3.at0 (Hww.out U hU) hg3
            injection e9 with e9
            injection e9 with e1 e2
            subst e1 e2
            rw [Nat.add_zero, ha0] at d9
            rw [hdv] at d8
            exact ⟨C.c 0, C.c 1, C.c 2, C.c 3, d9, d8⟩)
          clear ha0 hdv hgg
          have hbq : Below w1.heap.size w1 (W.drewN nq).drew := (bdrewN hbx nq).drew
          have hS0 := HSS.out _ hbq
          go_wp2_with fail
          refine wp_region_seq (S := fun U => (U.cell? ⟨w.heap.size, 0, none⟩ = some (.slice (some ⟨b1, o1, none⟩) n1 c1)) ∧ (U.cell? ⟨w.heap.size, 1, none⟩ = some (.slice A2 n2 c2)) ∧ (U.cell? ⟨w.heap.size, 2, none⟩ = some (.slice (some ⟨b3, o3, none⟩) n3 c3)) ∧ (U.cell? ⟨w.heap.size, 3, none⟩ = some (.slice A4 n4 c4)) ∧ U.cell? ⟨b1, o1, none⟩ = some (.int .i64 a0) ∧ U.cell? ⟨b3, o3 + g, none⟩ = some (.bool false)) [.t 0 1, .t 1 3, .t 2 7, .t 3 15, .t 4 31, .t 5 63, .t 6 127, .t 7 255, .t 8 511, .o 9 1023, .t 10 2047, .t 11 4095] (by kernel_rfl) (by kernel_rfl) (by as_aux_lemma => kernel_rfl) (by kernel_rfl) (fun c a d v w h => by cases d <;> exact h) hS0 (fun _ => ?_)
          clear hS0
          iterate 9 (refine seq_take (v := ?_) rfl (by rfl) ?_ ?_; rotate_left; focus (intro w9 hSw; obtain ⟨s1, s2, s3, s4, s5, s6⟩ := hSw; (go_simp; (try simp only [hm0, hg3, and_self, if_true, if_false]) <;> with_reducible rfl)); try simp only [Act.put, List.setIfInBounds_toArray, List.set_cons_zero, List.set_cons_succ])
          refine seq_one rfl (fun K9 hS9 => ?_)
          go_simp
          refine (kg _ _ (by rw [IntWalk.i64_in _ (by omega)]; omega) (Hww.out _ hbq)).mono ?_
          rintro e wG ⟨rfl, hbG⟩
          have hbG' : Below w1.heap.size w1 wG := hbq.trans (hbG.mono hbx.size)
          refine hS9.out _ _ (HSS.out _ hbG') (fun _ => ?_)
          clear hS9 K9
          try simp only [Act.put, List.setIfInBounds_toArray, List.set_cons_zero, List.set_cons_succ]
          iterate 2 (refine seq_take (v := ?_) rfl (by rfl) ?_ ?_; rotate_left; focus (intro w9 hSw; obtain ⟨s1, s2, s3, s4, s5, s6⟩ := hSw; (go_simp; (try simp only [hm0, hg3, and_self, if_true, if_false]) <;> with_reducible rfl)); try simp only [Act.put, List.setIfInBounds_toArray, List.set_cons_zero, List.set_cons_succ])
          refine seq_done ?_
          have hbWG : Below W.heap.size W wG := ((bdrewN (Below.refl W.heap.size W) nq).drew).trans hbG
          have c7G : wG.cell? ⟨g7, j, none⟩ = some (.int .i64 xj) := Below.cell' hbWG (OwnI.lt HO7.out).2 c7
          have hj0 : (0 : Int) ≤ (j : Int) := by omega
          have hj4 : j < j + 1 := by omega
          clear HSS kg hbq hbG cB2 fB2 lB2 B2 c7 ce4 ce5
          by_cases hmx : la < xj
          · rw [if_pos hmx] at ea
            subst ea
            have hbV := hbWG
            have HO8 := Lib.hid (own_keep HO7.out hbV)
            have hbX := hbx.trans (hbV.mono hbx.size)
            have hbv := hbw1.trans (hbX.mono hbw1.size)
            have hsX := hbX.size
            clear HO7 Ha Hb
            by_cases hm0 : m = 0
            · subst hm0
              have Hx : Hid (x (j + 1) = a) := Lib.hid (by rw [Hxk.out]; unfold pkZ; rw [if_pos hul])
              clear Hxk
              go_wp2_with (at_builtin; refine list_one elI64 rfl _ _ rfl w1.heap.size (j + 1) _ (rowF (j + 1) x) (by rfl) (HO8.out.alloc _) wG.heap.size a (by rfl) (by simp) (by omega) (by simp; omega) ?_; intro g6 k6 w6 hO6 hb6)
              go_roundw
              case rel => exact ⟨j + 1 + 1, _, by omega, by go_num, Lib.hid rfl, Lib.hid (by rw [rowF_snoc, Hx.out]; exact hO6), hbX.trans ((balloc' _ _ _ hsX).trans hb6)⟩
              case measure => simp [intOf]; omega
            · have hq : (j + 1) % m < m := Nat.mod_lt _ (by omega)
              obtain ⟨b6, o6, rfl, _, cu, u0, u1⟩ := HU.out.at_ hbv hq
              have hkm : ((j : Int) + 1).tmod (m : Int) = (((j + 1) % m : Nat) : Int) := by rw [show ((j : Int) + 1) = ((j + 1 : Nat) : Int) from rfl, Int.tmod_eq_emod_of_nonneg (by omega)]; rfl
              have hkm' : ((j : Int) + 1) % (m : Int) = (((j + 1) % m : Nat) : Int) := rfl
              have Hx : Hid (x (j + 1) = a + us.getD ((j + 1) % m) 0 % (b - a + 1)) := Lib.hid (by rw [Hxk.out]; unfold pkZ; rw [if_neg (by omega), hul])
              have hb0 := Int.emod_nonneg (us.getD ((j + 1) % m) 0) (show b - a + 1 ≠ 0 by omega)
              have hb1 := Int.emod_lt_of_pos (us.getD ((j + 1) % m) 0) (show 0 < b - a + 1 by omega)
              have hvt : (us.getD ((j + 1) % m) 0).tmod (b - a + 1) = us.getD ((j + 1) % m) 0 % (b - a + 1) := Int.tmod_eq_emod_of_nonneg u0
              generalize us.getD ((j + 1) % m) 0 = v at *
              obtain ⟨t, ht⟩ : ∃ t, v % (b - a + 1) = t := ⟨_, rfl⟩
              rw [ht] at hvt hb0 hb1 Hx
              generalize (j + 1) % m = q at *
              have hm1 : ¬ (m : Int) = 0 := by omega
              have hm2 : (0 : Int) < (m : Int) := by omega
              have hd1 : ¬ b - a + 1 = 0 := by omega
              clear Hxk
              go_wp2_with (at_builtin; refine list_one elI64 rfl _ _ rfl w1.heap.size (j + 1) _ (rowF (j + 1) x) (by rfl) (HO8.out.alloc _) wG.heap.size (a + t) (by rfl) (by simp) (by omega) (by simp; omega) ?_; intro g6 k6 w6 hO6 hb6)
              go_roundw
              case rel => exact ⟨j + 1 + 1, _, by omega, by go_num, Lib.hid rfl, Lib.hid (by rw [rowF_snoc, Hx.out]; exact hO6), hbX.trans ((balloc' _ _ _ hsX).trans hb6)⟩
              case measure => simp [intOf]; omega
          · rw [if_neg hmx] at ea
            subst ea
            have hbV := hbWG
            have HO8 := Lib.hid (own_keep HO7.out hbV)
            have hbX := hbx.trans (hbV.mono hbx.size)
            have hbv := hbw1.trans (hbX.mono hbw1.size)
            have hsX := hbX.size
            clear HO7 Ha Hb
            by_cases hm0 : m = 0
            · subst hm0
              have Hx : Hid (x (j + 1) = a) := Lib.hid (by rw [Hxk.out]; unfold pkZ; rw [if_pos hul])
              clear Hxk
              go_wp2_with (at_builtin; refine list_one elI64 rfl _ _ rfl w1.heap.size (j + 1) _ (rowF (j + 1) x) (by rfl) (HO8.out.alloc _) wG.heap.size a (by rfl) (by simp) (by omega) (by simp; omega) ?_; intro g6 k6 w6 hO6 hb6)
              go_roundw
              case rel => exact ⟨j + 1 + 1, _, by omega, by go_num, Lib.hid rfl, Lib.hid (by rw [rowF_snoc, Hx.out]; exact hO6), hbX.trans ((balloc' _ _ _ hsX).trans hb6)⟩
              case measure => simp [intOf]; omega
            · have hq : (j + 1) % m < m := Nat.mod_lt _ (by omega)
              obtain ⟨b6, o6, rfl, _, cu, u0, u1⟩ := HU.out.at_ hbv hq
              have hkm : ((j : Int) + 1).tmod (m : Int) = (((j + 1) % m : Nat) : Int) := by rw [show ((j : Int) + 1) = ((j + 1 : Nat) : Int) from rfl, Int.tmod_eq_emod_of_nonneg (by omega)]; rfl
              have hkm' : ((j : Int) + 1) % (m : Int) = (((j + 1) % m : Nat) : Int) := rfl
              have Hx : Hid (x (j + 1) = a + us.getD ((j + 1) % m) 0 % (b - a + 1)) := Lib.hid (by rw [Hxk.out]; unfold pkZ; rw [if_neg (by omega), hul])
              have hb0 := Int.emod_nonneg (us.getD ((j + 1) % m) 0) (show b - a + 1 ≠ 0 by omega)
              have hb1 := Int.emod_lt_of_pos (us.getD ((j + 1) % m) 0) (show 0 < b - a + 1 by omega)
              have hvt : (us.getD ((j + 1) % m) 0).tmod (b - a + 1) = us.getD ((j + 1) % m) 0 % (b - a + 1) := Int.tmod_eq_emod_of_nonneg u0
              generalize us.getD ((j + 1) % m) 0 = v at *
              obtain ⟨t, ht⟩ : ∃ t, v % (b - a + 1) = t := ⟨_, rfl⟩
              rw [ht] at hvt hb0 hb1 Hx
              generalize (j + 1) % m = q at *
              have hm1 : ¬ (m : Int) = 0 := by omega
              have hm2 : (0 : Int) < (m : Int) := by omega
              have hd1 : ¬ b - a + 1 = 0 := by omega
              clear Hxk
              go_wp2_with (at_builtin; refine list_one elI64 rfl _ _ rfl w1.heap.size (j + 1) _ (rowF (j + 1) x) (by rfl) (HO8.out.alloc _) wG.heap.size (a + t) (by rfl) (by simp) (by omega) (by simp; omega) ?_; intro g6 k6 w6 hO6 hb6)
              go_roundw
              case rel => exact ⟨j + 1 + 1, _, by omega, by go_num, Lib.hid rfl, Lib.hid (by rw [rowF_snoc, Hx.out]; exact hO6), hbX.trans ((balloc' _ _ _ hsX).trans hb6)⟩
              case measure => simp [intOf]; omega
    · obtain rfl : n4 = k := by omega
      obtain ⟨g7, k7, rfl⟩ := own_slice HO7.out (by omega)
      have R7 := (OwnI.ints HO7.out).1
      have m7 := (OwnI.ints HO7.out).2
      go_wp2_with fail
      go_ret
      exact ⟨g7, k7, rfl, R7, m7, bstep hbw1 hbx⟩

end Go.Proofs.YtminplfgadhnnaaGreatDoor
end

/- Walks of package zone: contradict, clash, Doubt, CheckDoubt. -/
section
namespace Go.Proofs.YtminplfgadhnnaaGreatDoor
open Go.RowKit Go.Shelf
set_option linter.unusedSimpArgs false
set_option linter.unusedVariables false
open Zm

set_option maxHeartbeats 1000000 in
theorem zindexB_any (A : Option Addr) (n c : Nat) (v : Bool) (zs : List Bool) (w : World) (hz : Bls w A n zs) (hn : n ≤ 1000) :
    Calls Tryz.prog 165 #[.slice A n c, .bool v] w fun e w' => (∃ r : Int, e = .returned (.int .i64 r) ∧ decide (0 ≤ r) = zs.any (fun x => x == v)) ∧ Below w.heap.size w w' := by
  have Hz := Lib.hid hz
  have hl := hz.1
  clear hz
  go_enter Tryz.func165, Tryz.ntmps165
  go_wp2_with fail
  go_loopw [5, 8] (fun _ s8 wx => ∃ (k : Nat) (W : World), k ≤ n ∧ s8 = .int .i64 (k : Nat) ∧ Hid (W = wx) ∧ Hid (∀ i, i < k → (zs.getD i false == v) = false) ∧ Below w.heap.size w W) (fun _ s8 _ => n - (intOf s8).toNat)
  case atStart => exact ⟨0, _, Nat.zero_le _, rfl, Lib.hid rfl, Lib.hid (fun i hi => absurd hi (by omega)), blA⟩
  case round =>
    obtain ⟨k, W, hk, rfl, HW, HK, hbw⟩ := hrel
    obtain rfl := HW.out
    clear HW
    by_cases hlt : k < n
    · obtain ⟨b, off, rfl, _, ck⟩ := Hz.out.at0 hbw hlt
      obtain ⟨y, hy⟩ : ∃ y, zs.getD k false = y := ⟨_, rfl⟩
      rw [hy] at ck
      have Hy := Lib.hid hy
      clear hy
      by_cases hyv : v = y
      · have Hany : Hid (zs.any (fun x => x == v) = true) := Lib.hid (List.any_eq_true.2 ⟨zs[k], List.getElem_mem _, by have := Hy.out; rw [List.getD_eq_getElem?_getD, List.getElem?_eq_getElem (by omega)] at this; simp at this; rw [this, hyv]; simp⟩)
        subst hyv
        clear HK Hy
        go_wp2_with fail
        go_ret
        exact ⟨⟨_, rfl, by rw [Hany.out]; simp⟩, blA⟩
      · have Hn : Hid ((y == v) = false) := Lib.hid (by simp; exact fun e => hyv e.symm)
        have hb : (v == y) = false := by simp; exact hyv
        go_wp2_with fail
        go_roundw
        case rel =>
          refine ⟨k + 1, _, by omega, by go_num, Lib.hid rfl, Lib.hid (fun i hi => ?_), blA⟩
          by_cases e : i = k
          · subst e; rw [Hy.out]; exact Hn.out
          · exact HK.out i (by omega)
        case measure => simp [intOf]; omega
    · have Hany : Hid (zs.any (fun x => x == v) = false) := Lib.hid (by
        rw [List.any_eq_false]
        intro x hx
        obtain ⟨i, hi, rfl⟩ := List.mem_iff_getElem.1 hx
        have := HK.out i (by omega)
        rw [List.getD_eq_getElem?_getD, List.getElem?_eq_getElem hi] at this
        simpa using this)
      clear HK
      go_wp2_with fail
      go_ret
      exact ⟨⟨_, rfl, by rw [Hany.out]; rfl⟩, blA⟩

set_option maxHeartbeats 1000000 in
theorem zcontainsB_any (A : Option Addr) (n c : Nat) (v : Bool) (zs : List Bool) (w : World) (hz : Bls w A n zs) (hn : n ≤ 1000) :
    Calls Tryz.prog 160 #[.slice A n c, .bool v] w fun e w' => e = .returned (.bool (zs.any (fun x => x == v))) ∧ Below w.heap.size w w' := by
  have k1 := zindexB_any A n c v zs w hz hn
  generalize zs.any (fun x => x == v) = q at *
  clear hz
  go_enter Tryz.func160, Tryz.ntmps160
  go_wp2_with fail
  refine k1.mono ?_
  rintro _ w1 ⟨⟨r, rfl, hr⟩, hb1⟩
  have Hr := Lib.hid hr
  clear hr
  go_wp2_with fail
  go_ret
  exact ⟨ret_bool (by rw [← Hr.out]), blA⟩

theorem Bls.sub {w : World} {b o n i k : Nat} {zs : List Bool} (h : Bls w (some ⟨b, o, none⟩) n zs) (hi : i ≤ k) (hk : k ≤ n) : Bls w (some ⟨b, o + i, none⟩) (k - i) ((zs.drop i).take (k - i)) := by
  refine ⟨by rw [List.length_take, List.length_drop, h.1]; omega, fun hn => ?_⟩
  obtain ⟨b', o', e, hlt, hc⟩ := h.2 (by omega)
  injection e with e
  injection e with e1 e2
  subst e1 e2
  refine ⟨b, o + i, rfl, hlt, fun j hj => ?_⟩
  have := hc (i + j) (by omega)
  rw [← Nat.add_assoc] at this
  rw [this, List.getD_eq_getElem?_getD, List.getD_eq_getElem?_getD, List.getElem?_take_of_lt hj, List.getElem?_drop]
theorem ctr_eq {ls : List (Int × Int)} {fs : List Bool} {i k : Nat} (hi : i < k) (hk : k ≤ fs.length) : ctrB ls fs i k = (!((fs.drop i).take (k - i)).any (fun x => x == !fs.getD i false) && (if fs.getD i false then decide ((ls.getD i (0, 0)).2 < (ls.getD k (0, 0)).1) else decide ((ls.getD k (0, 0)).2 < (ls.getD i (0, 0)).1))) := by
  unfold ctrB
  congr 1
  rw [Bool.eq_iff_iff, List.all_eq_true, Bool.not_eq_true', List.any_eq_false]
  constructor
  · intro h x hx
    obtain ⟨j, hj, rfl⟩ := List.mem_iff_getElem.1 hx
    have hj' : j < k - i := by rw [List.length_take] at hj; omega
    have := h j (List.mem_range.2 hj')
    rw [List.getD_eq_getElem?_getD, List.getElem?_eq_getElem (show i + j < fs.length by omega)] at this
    rw [List.getElem_take, List.getElem_drop]
    revert this
    cases fs[i + j] <;> cases fs.getD i false <;> simp
  · intro h j hj
    have hj' := List.mem_range.1 hj
    have := h fs[i + j] (List.mem_iff_getElem.2 ⟨j, by rw [List.length_take, List.length_drop]; omega, by rw [List.getElem_take, List.getElem_drop]⟩)
    rw [List.getD_eq_getElem?_getD, List.getElem?_eq_getElem (show i + j < fs.length by omega)]
    revert this
    cases fs[i + j] <;> cases fs.getD i false <;> simp

set_option maxRecDepth 100000 in
set_option maxHeartbeats 4000000 in
theorem zcontradict_any (A1 : Option Addr) (n1 c1 : Nat) (A2 : Option Addr) (n2 c2 : Nat) (A3 : Option Addr) (n3 c3 : Nat) (A4 : Option Addr) (n4 c4 : Nat) (an : List Int) (ls : List (Int × Int)) (fs : List Bool) (ws : List Int) (i k : Nat) (w : World) (h : Lmp w A1 n1 c1 A2 n2 c2 A3 n3 c3 A4 n4 c4 an ls fs ws) (ho : LampOk an ls fs ws) (hi : i < k) (hk : k < n1) :
    Calls Tryz.prog 139 #[.agg #[.slice A1 n1 c1, .slice A2 n2 c2, .slice A3 n3 c3, .slice A4 n4 c4], .int .i64 (i : Nat), .int .i64 (k : Nat)] w fun e w' => e = .returned (.bool (ctrB ls fs i k)) ∧ Below w.heap.size w w' := by
  have hl1 := h.h1.1
  have hl2 := h.h2.1
  have hl3 := h.h3.1
  have hk3 : k ≤ n3 := by have := ho.fsl; omega
  have hk2 : k < n2 := by have := ho.lsl; omega
  have hn10 : n1 ≤ 10 := by have := ho.n10; omega
  have hm3 : n3 ≤ c3 := h.m3.2
  have hctr := ctr_eq (ls := ls) (fs := fs) hi (by omega)
  obtain ⟨b3, o3, rfl, hlt3, ci⟩ := h.h3.at0 (Below.refl _ _) (show i < n3 by omega)
  obtain ⟨b2, o2, x, y, rfl, hget, d0, d1⟩ := h.h2.at_ (Below.refl _ _) (show i < n2 by omega)
  obtain ⟨b2', o2', x2, y2, e, hget2, d2, d3⟩ := h.h2.at_ (Below.refl _ _) hk2
  injection e with e
  injection e with e1 e2
  subst e1 e2
  rw [show ls.getD i (0, 0) = (x, y) by rw [List.getD_eq_getElem?_getD, hget]; rfl, show ls.getD k (0, 0) = (x2, y2) by rw [List.getD_eq_getElem?_getD, hget2]; rfl] at hctr
  have hsub := h.h3.sub (i := i) (k := k) (by omega) hk3
  have kc := fun (W : World) (c : Nat) (v : Bool) (hb : Below w.heap.size w W) => zcontainsB_any (some ⟨b3, o3 + i, none⟩) (k - i) c v _ W (hsub.below hb) (by omega)
  have Hlt2 : Hid (b2 < w.heap.size) := Lib.hid (World.block_lt_of_cell? w _ d0)
  obtain ⟨f, hf⟩ : ∃ f, fs.getD i false = f := ⟨_, rfl⟩
  rw [hf] at ci hctr
  have kc2 := fun (W : World) (c : Nat) hb => kc W c (!f) hb
  generalize ((fs.drop i).take (k - i)).any (fun x => x == !f) = u at *
  generalize ctrB ls fs i k = q at *
  have hq := Lib.hid hctr
  have g1 : (0 : Int) ≤ (i : Int) := by omega
  have g2 : (i : Int) ≤ (k : Int) := by omega
  have g3 : (k : Int) ≤ (c3 : Int) := by omega
  have g4 : (i : Int) < (n3 : Int) := by omega
  have g5 : (i : Int) < (n2 : Int) := by omega
  have g6 : (k : Int) < (n2 : Int) := by omega
  clear kc hctr hsub h ho hget hget2 hf
  go_enter Tryz.func139, Tryz.ntmps139
  have g7 : ¬ c3 = i := by omega
  have g8 : i < c3 := by omega
  have g9 : ¬ c3 - i = 0 := by omega
  go_wp2_with fail
  refine (kc2 _ _ blA).mono ?_
  rintro _ w1 ⟨rfl, hb1⟩
  replace B3 : Cs w1 (w.heap.size) #[.slice A1 n1 c1, .slice (some ⟨b2, o2, none⟩) n2 c2, .slice (some ⟨b3, o3, none⟩) n3 c3, .slice A4 n4 c4] := Cs.keep csA hb1
  replace hbw : Below w.heap.size w w1 := blA
  replace cB3 := B3.c
  replace fB3 := B3.f
  replace lB3 := B3.lt
  clear hb1
  clear kc2
  have e0 := Below.cell' hbw Hlt2.out d0
  have e1 := Below.cell' hbw Hlt2.out d1
  have e2 := Below.cell' hbw Hlt2.out d2
  have e3 := Below.cell' hbw Hlt2.out d3
  clear d0 d1 d2 d3 ci
  cases u with
  | true =>
    obtain rfl : q = false := by rw [hq.out]; rfl
    clear hq
    go_wp2_with fail
    go_ret
    exact ⟨rfl, blA⟩
  | false =>
    cases f with
    | true =>
      have hq2 : Hid (q = decide (y < x2)) := Lib.hid (by rw [hq.out]; rfl)
      clear hq
      go_wp2_with fail
      go_quiet (fail)
      go_wp2_with fail
      go_ret
      exact ⟨ret_bool hq2.out.symm, blA⟩
    | false =>
      have hq2 : Hid (q = decide (y2 < x)) := Lib.hid (by rw [hq.out]; rfl)
      clear hq
      go_wp2_with fail
      go_quiet (fail)
      go_wp2_with fail
      go_ret
      exact ⟨ret_bool hq2.out.symm, blA⟩

end Go.Proofs.YtminplfgadhnnaaGreatDoor
end

/- Walks of package zone: clash. -/
section
namespace Go.Proofs.YtminplfgadhnnaaGreatDoor
open Go.RowKit Go.Shelf
set_option linter.unusedSimpArgs false
set_option linter.unusedVariables false
open Zm

/-- two angles that contradict each other, or none -/
def ClsP (ls : List (Int × Int)) (fs : List Bool) (n a b : Nat) : Prop :=
  (a = 0 ∧ b = 0 ∧ ∀ i k, i < k → k < n → ctrB ls fs i k = false) ∨ (a < b ∧ b < n ∧ ctrB ls fs a b = true)

set_option maxRecDepth 100000 in
set_option maxHeartbeats 8000000 in
theorem zclash_any (A1 : Option Addr) (n1 c1 : Nat) (A2 : Option Addr) (n2 c2 : Nat) (A3 : Option Addr) (n3 c3 : Nat) (A4 : Option Addr) (n4 c4 : Nat) (an : List Int) (ls : List (Int × Int)) (fs : List Bool) (ws : List Int) (w : World) (h : Lmp w A1 n1 c1 A2 n2 c2 A3 n3 c3 A4 n4 c4 an ls fs ws) (ho : LampOk an ls fs ws) :
    Calls Tryz.prog 94 #[.agg #[.slice A1 n1 c1, .slice A2 n2 c2, .slice A3 n3 c3, .slice A4 n4 c4]] w fun e w' => ∃ a b : Nat, e = .returned (.agg #[.int .i64 (a : Nat), .int .i64 (b : Nat)]) ∧ ClsP ls fs n1 a b ∧ Below w.heap.size w w' := by
  have hl1 := h.h1.1
  have hl2 := h.h2.1
  have hn : n2 = n1 := by have := ho.lsl; omega
  subst hn
  have hn10 : n2 ≤ 10 ∧ 2 ≤ n2 := by have := ho.n10; have := ho.n2; omega
  have kc := fun (W : World) (i k : Nat) (hb : Below w.heap.size w W) (hi : i < k) (hk : k < n2) => zcontradict_any _ _ _ _ _ _ _ _ _ _ _ _ _ _ _ _ i k W (h.below hb) ho hi hk
  clear h ho
  go_enter Tryz.func94, Tryz.ntmps94
  go_wp2_with fail
  go_step3
  go_wp2_with fail
  go_step3
  go_wp2_with fail
  go_loopw [12] (fun s12 wx => ∃ (i : Nat) (W : World), i ≤ n2 ∧ s12 = .int .i64 (i : Nat) ∧ Hid (W = wx) ∧ Hid (∀ i' k, i' < i → i' < k → k < n2 → ctrB ls fs i' k = false) ∧ Cs W w.heap.size #[.slice A1 n2 c1, .slice A2 n2 c2, .slice A3 n3 c3, .slice A4 n4 c4] ∧ Cs W (w.heap.size + 1) #[.int .i64 0, .int .i64 0] ∧ Cs W (w.heap.size + 1 + 1 + 1) #[.int .i64 0, .int .i64 0] ∧ Below w.heap.size w W) (fun s12 _ => n2 - (intOf s12).toNat)
  case atStart => exact ⟨0, _, Nat.zero_le _, rfl, Lib.hid rfl, Lib.hid (fun i k hi => absurd hi (by omega)), csA, csA, csA, blA⟩
  case round =>
    obtain ⟨i, W, hi, rfl, HW, HI, B1, B2, B4, hbw⟩ := hrel
    obtain rfl := HW.out
    clear HW
    have cB1 := B1.c
    have fB1 := B1.f
    have lB1 := B1.lt
    have cB2 := B2.c
    have fB2 := B2.f
    have lB2 := B2.lt
    have cB4 := B4.c
    have fB4 := B4.f
    have lB4 := B4.lt
    by_cases hin : i < n2
    · go_wp2_with fail
      go_loopw [6] (fun s6 wx => ∃ (k : Nat) (V : World), i + 1 ≤ k ∧ k ≤ n2 ∧ s6 = .int .i64 (k : Nat) ∧ Hid (V = wx) ∧ Hid (∀ k', i < k' → k' < k → ctrB ls fs i k' = false) ∧ Cs V w.heap.size #[.slice A1 n2 c1, .slice A2 n2 c2, .slice A3 n3 c3, .slice A4 n4 c4] ∧ Cs V (w.heap.size + 1) #[.int .i64 0, .int .i64 0] ∧ Cs V (w.heap.size + 1 + 1 + 1) #[.int .i64 0, .int .i64 0] ∧ Below w.heap.size w V) (fun s6 _ => n2 - (intOf s6).toNat)
      case atStart => exact ⟨i + 1, _, by omega, by omega, by go_num, Lib.hid rfl, Lib.hid (fun k h1 h2 => absurd h2 (by omega)), B1, B2, B4, hbw⟩
      case round =>
        clear B1 B2 B4 cB1 fB1 lB1 cB2 fB2 lB2 cB4 fB4 lB4 hbw
        obtain ⟨k, V, hik, hk, rfl, HV, HK, B1, B2, B4, hbw⟩ := hrel
        obtain rfl := HV.out
        clear HV
        have cB1 := B1.c
        have fB1 := B1.f
        have lB1 := B1.lt
        have cB2 := B2.c
        have fB2 := B2.f
        have lB2 := B2.lt
        have cB4 := B4.c
        have fB4 := B4.f
        have lB4 := B4.lt
        by_cases hkn : k < n2
        · cases hc : ctrB ls fs i k with
          | true =>
            have k1 := fun W hb => kc W i k hb (by omega) hkn
            rw [hc] at k1
            have Hc := Lib.hid hc
            clear HK HI kc hc
            go_wp2_with fail
            refine (k1 _ blA).mono ?_
            rintro _ w1 ⟨rfl, hb1⟩
            replace B2 := B2.keep hb1
            replace B4 := B4.keep hb1
            replace hbw : Below w.heap.size w w1 := blA
            clear B1 cB1 fB1 lB1 cB2 fB2 lB2 cB4 fB4 lB4 hb1 k1
            have cB2 := B2.c
            have fB2 := B2.f
            have lB2 := B2.lt
            have cB4 := B4.c
            have fB4 := B4.f
            have lB4 := B4.lt
            have hne : w.heap.size + 1 ≠ w.heap.size + 1 + 1 + 1 := by omega
            have C2 := (B2.other2 hne (.int .i64 (i : Nat)) (.int .i64 (k : Nat))).set2 (.int .i64 (i : Nat)) (.int .i64 (k : Nat))
            have hb3 := bset2 (bset2 hbw (show w.heap.size ≤ w.heap.size + 1 + 1 + 1 by omega) (.int .i64 (i : Nat)) (.int .i64 (k : Nat))) (show w.heap.size ≤ w.heap.size + 1 by omega) (.int .i64 (i : Nat)) (.int .i64 (k : Nat))
            have cC2 := C2.c
            have fC2 := C2.f
            have lC2 := C2.lt
            go_wp2_with fail
            rw [Exit.noGoto_ret]
            exact bodyPost_ret (v := .agg #[.int .i64 (i : Nat), .int .i64 (k : Nat)]) (by simp [results, Tryz.results94, go_sem, cC2, fC2, lC2]) rfl ⟨i, k, rfl, .inr ⟨by omega, hkn, Hc.out⟩, hb3⟩
          | false =>
            have k1 := fun W hb => kc W i k hb (by omega) hkn
            rw [hc] at k1
            have Hc := Lib.hid hc
            clear hc
            go_wp2_with fail
            refine (k1 _ blA).mono ?_
            rintro _ w1 ⟨rfl, hb1⟩
            replace B1 := B1.keep hb1
            replace B2 := B2.keep hb1
            replace B4 := B4.keep hb1
            replace hbw : Below w.heap.size w w1 := blA
            clear cB1 fB1 lB1 cB2 fB2 lB2 cB4 fB4 lB4 hb1 k1
            go_wp2_with fail
            go_roundw
            case rel =>
              refine ⟨k + 1, _, by omega, by omega, by go_num, Lib.hid rfl, Lib.hid (fun k' h1 h2 => ?_), B1, B2, B4, hbw⟩
              by_cases e : k' = k
              · subst e; exact Hc.out
              · exact HK.out k' h1 (by omega)
            case measure => simp [intOf]; omega
        · obtain rfl : n2 = k := by omega
          go_wp2_with fail
          go_roundw
          case rel =>
            refine ⟨i + 1, _, by omega, by go_num, Lib.hid rfl, Lib.hid (fun i' k' h1 h2 h3 => ?_), B1, B2, B4, hbw⟩
            by_cases e : i' = i
            · subst e; exact HK.out k' h2 h3
            · exact HI.out i' k' (by omega) h2 h3
          case measure => simp [intOf]; omega
    · obtain rfl : n2 = i := by omega
      have hall : ClsP ls fs n2 0 0 := .inl ⟨rfl, rfl, fun i' k h1 h2 => HI.out i' k (by omega) h1 h2⟩
      have Hall := Lib.hid hall
      clear HI hall
      have C2 := B2.set2 (.int .i64 0) (.int .i64 0)
      have hb3 := bset2 hbw (show w.heap.size ≤ w.heap.size + 1 by omega) (.int .i64 0) (.int .i64 0)
      have cC2 := C2.c
      have fC2 := C2.f
      have lC2 := C2.lt
      go_wp2_with fail
      rw [Exit.noGoto_ret]
      exact bodyPost_ret (v := .agg #[.int .i64 0, .int .i64 0]) (by simp [results, Tryz.results94, go_sem, cC2, fC2, lC2]) rfl ⟨0, 0, rfl, Hall.out, hb3⟩

end Go.Proofs.YtminplfgadhnnaaGreatDoor
end
