/- ZS3 -/
import Derived.Test.YtminplfgadhnnaaGreatDoorTZ17
import Derived.Test.YtminplfgadhnnaaGreatDoorTZ18
import Derived.Test.YtminplfgadhnnaaGreatDoorTZ11
import Derived.Test.YtminplfgadhnnaaGreatDoorTB15
import Derived.Test.YtminplfgadhnnaaGreatDoorTB04
import Derived.Test.YtminplfgadhnnaaGreatDoorTB17
import Derived.Test.YtminplfgadhnnaaGreatDoorTV09
/- The walk of TopSortedLamp: it answers true. -/
section
namespace Go.Proofs.YtminplfgadhnnaaGreatDoor
open Go.RowKit Go.Shelf
set_option linter.unusedSimpArgs false
set_option linter.unusedVariables false
open Zm
open Bm (ordB ordB_iff ordB_dec runL buildL)

theorem trueL_row {an : List Int} {ls : List (Int × Int)} {fs : List Bool} {ws : List Int} (h : LampOk an ls fs ws) (hd : dbtZ an ls fs ws.length = false) (us : List Int) : TrueL an ls fs ws.length (fun k => (rowF ws.length (lntZ an ls fs us ws.length)).getD k 0) := by
  have t := lnt_true (us := us) h hd
  refine ⟨fun i hi => ?_, fun k h1 hk => ?_⟩
  · have := t.1 i hi
    simp only [rowF_get _ (h.aN_ws hi)]
    exact this
  · have := t.2 k h1 hk
    simp only [rowF_get _ hk, rowF_get _ (show k - 1 < ws.length by omega)]
    exact this

set_option maxRecDepth 100000 in
set_option maxHeartbeats 16000000 in
theorem sortedLamp_main (A1 : Option Addr) (n1 c1 : Nat) (A2 : Option Addr) (n2 c2 : Nat) (A3 : Option Addr) (n3 c3 : Nat) (A4 : Option Addr) (n4 c4 : Nat) (an : List Int) (ls : List (Int × Int)) (fs : List Bool) (ws : List Int) (A B : Option Addr) (m D q C : Nat) (us : List Int) (zs : List (Int × Int)) (w : World) (h : Lmp w A1 n1 c1 A2 n2 c2 A3 n3 c3 A4 n4 c4 an ls fs ws) (hu : U8s w A m us) (hz : Prs w B q zs) (hc : chkZ an ls fs ws = 0) (hd : dbtZ an ls fs n4 = false) (e4 : n4 ≤ 12) (e5 : m ≤ 100) (e6 : q ≤ 90) (hW : GlobW w) :
    Calls Tryz.prog 4 #[.agg #[.slice A1 n1 c1, .slice A2 n2 c2, .slice A3 n3 c3, .slice A4 n4 c4], .slice A m D, .slice B q C] w fun e w' => e = .returned (.bool true) ∧ Below w.heap.size w w' := by
  have kw := fun W h => top_works03_any W h
  have HW := Lib.hid hW
  have hl3 := h.h3.1
  have hl4 := h.h4.1
  have k1 := fun (W : World) (hb : Below w.heap.size w W) => lamp03_any _ _ _ _ _ _ _ _ _ _ _ _ _ _ _ _ W (h.below hb)
  rw [show (decide (chkZ an ls fs ws = 0) && !dbtZ an ls fs n4) = true by rw [hc, hd]; rfl] at k1
  have ho := chk_lamp hc
  have hws := ho.ws91
  have d4 : ¬ (12 : Int) < (n4 : Int) := by omega
  have d5 : ¬ (100 : Int) < (m : Int) := by omega
  have d6 : ¬ (90 : Int) < (q : Int) := by omega
  have hn3 : n3 ≤ 10 := by have := ho.fsl; have := ho.n10; omega
  have hn4 : 2 ≤ n4 := by omega
  have H := Lib.hid h
  have HU := Lib.hid hu
  have HZ := Lib.hid hz
  have HO := Lib.hid ho
  have HC := Lib.hid hc
  have HD := Lib.hid hd
  have Hl3 := Lib.hid hl3
  have Hl4 := Lib.hid hl4
  clear h hu hz hW hl3 hl4 hc hd ho hws
  go_enter Tryz.func4, Tryz.ntmps4
  go_wp2_with fail
  refine (k1 _ blA).mono ?_
  rintro e w1 ⟨rfl, hb1⟩
  replace B3 : Cs w1 (w.heap.size) #[.slice A1 n1 c1, .slice A2 n2 c2, .slice A3 n3 c3, .slice A4 n4 c4] := Cs.keep csA hb1
  replace hbw : Below w.heap.size w w1 := blA
  replace cB3 := B3.c
  replace fB3 := B3.f
  replace lB3 := B3.lt
  clear hb1
  clear k1 d4 d5 d6
  go_wp2_with fail
  have HB3 := Lib.hid B3
  have hbw1 := hbw
  clear B3 cB3 fB3 lB3 hbw
  go_loopw [7] (fun s7 wx => ∃ (k : Nat) (W : World), k ≤ n3 ∧ s7 = .int .i64 (k : Nat) ∧ Hid (W = wx) ∧ Hid (∀ j, j < k → fs.getD j false = true) ∧ Below w1.heap.size w1 W) (fun s7 _ => n3 - (intOf s7).toNat)
  case atStart => exact ⟨0, _, Nat.zero_le _, rfl, Lib.hid rfl, Lib.hid (fun j hj => absurd hj (by omega)), blA⟩
  case round =>
    obtain ⟨k, W, hk, rfl, HWx, Hf, hbx⟩ := hrel
    obtain rfl := HWx.out
    clear HWx
    have B3 := HB3.out.keep hbx
    have hbw := hbw1.trans (hbx.mono hbw1.size)
    have hsx := hbx.size
    have cB3 := B3.c
    have fB3 := B3.f
    have lB3 := B3.lt
    by_cases hkn : k < n3
    · have hkI : (k : Int) < (n3 : Int) := by omega
      obtain ⟨b3, o3, rfl, hl3b, ci⟩ := H.out.h3.at0 hbw hkn
      cases hfk : fs.getD k false with
      | false =>
        rw [hfk] at ci
        clear hfk Hf
        go_wp2_with fail
        refine (kw _ (HW.out.below blA)).mono ?_
        rintro _ w2 ⟨rfl, hb2⟩
        go_wp2_with fail
        go_ret
        exact ⟨rfl, blA⟩
      | true =>
        rw [hfk] at ci
        have Hf2 : Hid (∀ j, j < k + 1 → fs.getD j false = true) := Lib.hid (fun j hj => by
          by_cases e : j = k
          · rw [e, hfk]
          · exact Hf.out j (by omega))
        clear hfk Hf
        go_wp2_with fail
        go_roundw
        case rel => exact ⟨k + 1, _, by omega, by go_num, Lib.hid rfl, Hf2, blA⟩
        case measure => simp [intOf]; omega
    · obtain rfl : n3 = k := by omega
      have hkI : ¬ (n3 : Int) < (n3 : Int) := by omega
      have hD4 : dbtZ an ls fs ws.length = false := by rw [Hl4.out]; exact HD.out
      have hfall : ∀ i, i < fs.length → fs.getD i false = true := fun i hi => Hf.out i (by rw [← Hl3.out]; exact hi)
      have hox := lamp_ord HO.out hD4 hfall us
      have hout := lamp_out HO.out hD4 us
      have htr := trueL_row HO.out hD4 us
      have kl := fun (W : World) (hb : Below w.heap.size w W) => zlantern_any _ _ _ _ _ _ _ _ _ _ _ _ _ _ _ _ A m D us W (H.out.below hb) HO.out HD.out (HU.out.below hb) (by omega)
      rw [Hl4.out] at hox hout htr
      have hxl : (rowF n4 (lntZ an ls fs us n4)).length = n4 := rowF_len _ _
      generalize rowF n4 (lntZ an ls fs us n4) = x at *
      have kt := fun (W : World) (hb : Below w.heap.size w W) (X : Option Addr) (K : Nat) (hI : Ints W X n4 x) (hK : n4 ≤ K) => zchecktrue_ok0 _ _ _ _ _ _ _ _ _ _ _ _ _ _ _ _ X n4 K x W (H.out.below hb) HC.out hI rfl hK htr
      have kp := fun (W : World) (hb : Below w.heap.size w W) => rcheckP_any (n4 : Int) B q C zs W (HZ.out.below hb) (by omega)
      have kb := fun (W : World) => build_ok n4 W hn4 e4
      have krun := fun (W : World) (hb : Below w.heap.size w W) (X : Option Addr) (K : Nat) (hI : Ints W X n4 x) (hz : chkP (n4 : Int) zs = 0) => (show Calls Tryz.prog 19 #[.slice B q C, .slice X n4 K] W (RetLE x 0 W) by
        have := run_any B X n4 K q C zs x W (HZ.out.below hb) (by omega) hI (by omega)
        rw [run_ord (by omega) (by omega) hout hox (by rw [hxl]; exact hz)] at this
        exact this)
      have hcut : runE (cst (buildL n4)) x.reverse = (x, 0) := by
        have := run_turned (by omega) (by omega) hout hox
        rwa [hxl] at this
      have krev := fun (W : World) (X Y : Option Addr) (K N L : Nat) (hI : Ints W X n4 x.reverse) (hP : Prs W Y N (cst (buildL n4))) (hN : N ≤ 1000) => (show Calls Tryz.prog 19 #[.slice Y N L, .slice X n4 K] W (RetLE x 0 W) by
        have := run_any Y X n4 K N L (cst (buildL n4)) x.reverse W hP (by omega) hI (by omega)
        rw [hcut] at this
        exact this)
      have ks := fun (W : World) (X Y : Option Addr) (N K L : Nat) (hX : Ints W X N x) (hY : Ints W Y n4 x) (hN : N ≤ 1000) => (show Calls Tryz.prog 20 #[.slice X N K, .slice Y n4 L] W fun e w' => e = .returned (.bool true) ∧ Below W.heap.size W w' by
        have := same03_any X Y N K n4 L x x W hX hY (by omega)
        rw [decide_eq_true (rfl : x = x)] at this
        exact this)
      have Hxl := Lib.hid hxl
      clear hox hout htr hcut hD4 hfall Hf
      go_wp2_with fail
      refine (kl _ blA).mono ?_
      rintro _ w2 ⟨g, K, rfl, hI2, hK, hb2⟩
      clear kl
      replace B3 : Cs w2 (w.heap.size) #[.slice A1 n1 c1, .slice A2 n2 c2, .slice A3 n3 c3, .slice A4 n4 c4] := Cs.keep csA hb2
      replace hbw : Below w.heap.size w w2 := blA
      replace cB3 := B3.c
      replace fB3 := B3.f
      replace lB3 := B3.lt
      clear hb2
      go_wp2_with fail
      refine (kt _ blA _ _ intsA hK).mono ?_
      rintro _ w3 ⟨rfl, hb3⟩
      have hI3 : Ints w3 (some ⟨g, 0, none⟩) n4 x := hI2.below hb3
      clear hI2
      replace B3 : Cs w3 (w.heap.size) #[.slice A1 n1 c1, .slice A2 n2 c2, .slice A3 n3 c3, .slice A4 n4 c4] := Cs.keep csA hb3
      replace hbw : Below w.heap.size w w3 := blA
      replace cB3 := B3.c
      replace fB3 := B3.f
      replace lB3 := B3.lt
      clear hb3
      go_wp2_with fail
      refine (kp _ blA).mono ?_
      rintro _ w4 ⟨rfl, hb4⟩
      clear kp
      have hI4 : Ints w4 (some ⟨g, 0, none⟩) n4 x := hI3.below hb4
      clear hI3
      replace B3 : Cs w4 (w.heap.size) #[.slice A1 n1 c1, .slice A2 n2 c2, .slice A3 n3 c3, .slice A4 n4 c4] := Cs.keep csA hb4
      replace hbw : Below w.heap.size w w4 := blA
      replace cB3 := B3.c
      replace fB3 := B3.f
      replace lB3 := B3.lt
      clear hb4
      by_cases hz0 : chkP (n4 : Int) zs = 0
      case neg =>
        have g0 : (chkP (n4 : Int) zs == 0) = false := by simpa using hz0
        have g1 : (chkP (n4 : Int) zs != 0) = true := by simpa using hz0
        generalize chkP (n4 : Int) zs = er at *
        clear hz0 krun
        go_wp2_with fail
        have HBs := Lib.hid B3
        have hbws := hbw
        have HIs := Lib.hid hI4
        have hss : w.heap.size ≤ w4.heap.size := hbw.size
        clear B3 cB3 fB3 lB3 hbw hI4
        go_loopw [12, 13] (fun s12 s13 wx => ∃ (p j : Nat) (i : Int) (W : World), p + j = n4 ∧ i = (j : Int) - 1 ∧ s13 = .int .i64 i ∧ Hid (W = wx) ∧ Hid (W.ownsRow w4.heap.size 2 1 s12 p ((x.reverse.take p).map (Value.int .i64))) ∧ Below w4.heap.size w4 W) (fun _ s13 _ => (intOf s13 + 1).toNat)
        case atStart => exact ⟨0, n4, _, _, by omega, rfl, by go_num, Lib.hid rfl, Lib.hid ⟨rfl, Or.inl ⟨rfl, rfl⟩⟩, blA⟩
        case round =>
          obtain ⟨p, j, i, V, hpj, hi, rfl, HVx, Hown, hbx2⟩ := hrel
          obtain rfl := HVx.out
          clear HVx
          have hsv := hbx2.size
          cases j with
          | succ j =>
            obtain rfl : i = (j : Int) := by omega
            clear hi
            have hjI : (0 : Int) ≤ (j : Int) := by omega
            have hjn : (j : Int) < (n4 : Int) := by omega
            obtain ⟨bq, oq, eq, hlq, cj⟩ := HIs.out.at0 hbx2 (show j < n4 by omega)
            injection eq with eq
            injection eq with eq1 eq2
            subst eq1 eq2
            have Htk : Hid (x.reverse.take (p + 1) = x.reverse.take p ++ [x.getD j 0]) := Lib.hid (by
              have hl := Hxl.out
              have e : x[j]? = some (x.getD j 0) := by rw [List.getD_eq_getElem?_getD, List.getElem?_eq_getElem (show j < x.length by omega)]; rfl
              rw [List.take_add_one, List.getElem?_reverse (by omega), show x.length - 1 - p = j by omega, e]
              rfl)
            generalize x.getD j 0 = y at *
            rw [Nat.zero_add] at cj
            go_wp2_with (at_builtin; refine list_one elI64 rfl _ _ rfl w4.heap.size p _ (x.reverse.take p) (by rfl) (Hown.out.alloc _) V.heap.size y (by rfl) (by simp) (by omega) (by simp; omega) ?_; intro g5 c5 w5 hO5 hb5)
            have Hown2 : Hid (w5.ownsRow w4.heap.size 2 1 (.slice (some ⟨g5, 0, none⟩) (p + 1) c5) (p + 1) ((x.reverse.take (p + 1)).map (Value.int .i64))) := Lib.hid (by rw [Htk.out]; exact hO5)
            have hbx5 : Below w4.heap.size w4 w5 := hbx2.trans ((balloc' _ _ _ hbx2.size).trans hb5)
            clear hO5 hb5 Hown Htk hbx2 cj
            go_wp2_with fail
            go_roundw
            case rel => exact ⟨p + 1, j, _, _, by omega, rfl, by go_num, Lib.hid rfl, Hown2, hbx5⟩
            case measure => first | (simp [intOf]; done) | (simp [intOf]; omega)
          | zero =>
            obtain rfl : i = -1 := by omega
            obtain rfl : n4 = p := by omega
            clear hi hpj
            have hjI : ¬ (0 : Int) ≤ -1 := by omega
            obtain ⟨g5, c5, rfl⟩ := own_slice Hown.out (by omega)
            have hI5 : Ints V (some ⟨g5, 0, none⟩) n4 x.reverse := by
              have h0 := Hown.out
              rw [List.take_of_length_le (by rw [List.length_reverse]; exact Nat.le_of_eq Hxl.out)] at h0
              exact (OwnI.ints (B := w4.heap.size) (c := c5) h0).1
            have B3 := HBs.out.keep hbx2
            have hIx : Ints V (some ⟨g, 0, none⟩) n4 x := HIs.out.below hbx2
            have hbw := hbws.trans (hbx2.mono hss)
            clear HBs hbws HIs Hown hbx2
            have cB3 := B3.c
            have fB3 := B3.f
            have lB3 := B3.lt
            go_wp2_with fail
            refine (kb _).mono ?_
            rintro _ w6 ⟨Aq, nq, cq, rfl, hq, hnq, hb6⟩
            have hIx6 : Ints w6 (some ⟨g, 0, none⟩) n4 x := intsA
            have hI56 : Ints w6 (some ⟨g5, 0, none⟩) n4 x.reverse := intsA
            clear hIx hI5 kb
            replace B3 : Cs w6 (w.heap.size) #[.slice A1 n1 c1, .slice A2 n2 c2, .slice A3 n3 c3, .slice A4 n4 c4] := Cs.keep csA hb6
            replace hbw : Below w.heap.size w w6 := blA
            replace cB3 := B3.c
            replace fB3 := B3.f
            replace lB3 := B3.lt
            clear hb6
            go_wp2_with fail
            refine (krev _ _ _ _ _ _ hI56 hq hnq.1).mono ?_
            rintro _ w7 ⟨Az, nz, cz, rfl, hz, hnz, hb7⟩
            have hIx7 : Ints w7 (some ⟨g, 0, none⟩) n4 x := intsA
            clear hIx6 hI56 krev hq
            replace B3 : Cs w7 (w.heap.size) #[.slice A1 n1 c1, .slice A2 n2 c2, .slice A3 n3 c3, .slice A4 n4 c4] := Cs.keep csA hb7
            replace hbw : Below w.heap.size w w7 := blA
            replace cB3 := B3.c
            replace fB3 := B3.f
            replace lB3 := B3.lt
            clear hb7
            obtain rfl : n4 = nz := by rw [← hz.1, Hxl.out]
            go_wp2_with fail
            refine (ks _ _ _ _ _ _ hz hIx7 hnz.1).mono ?_
            rintro _ w8 ⟨rfl, hb8⟩
            have hz8 : Ints w8 Az n4 x := intsA
            clear hz hIx7 ks
            replace B3 : Cs w8 (w.heap.size) #[.slice A1 n1 c1, .slice A2 n2 c2, .slice A3 n3 c3, .slice A4 n4 c4] := Cs.keep csA hb8
            replace hbw : Below w.heap.size w w8 := blA
            replace cB3 := B3.c
            replace fB3 := B3.f
            replace lB3 := B3.lt
            clear hb8
            go_wp2_with fail
            refine (kt _ blA _ _ hz8 hnz.2).mono ?_
            rintro _ w9 ⟨rfl, hb9⟩
            clear hz8 kt B3 cB3 fB3 lB3
            go_wp2_with fail
            refine (kw _ (HW.out.below blA)).mono ?_
            rintro _ w10 ⟨rfl, hb10⟩
            go_wp2_with fail
            go_ret
            exact ⟨rfl, blA⟩
      case pos =>
        have kr := fun (W : World) (hb : Below w.heap.size w W) (X : Option Addr) (K : Nat) (hI : Ints W X n4 x) => krun W hb X K hI hz0
        rw [hz0]
        clear krun hz0
        go_wp2_with fail
        refine (kr _ blA _ _ hI4).mono ?_
        rintro _ w5 ⟨Ar, nr, cr, rfl, hr, hnr, hb5⟩
        have hI5 : Ints w5 (some ⟨g, 0, none⟩) n4 x := intsA
        clear hI4 kr
        replace B3 : Cs w5 (w.heap.size) #[.slice A1 n1 c1, .slice A2 n2 c2, .slice A3 n3 c3, .slice A4 n4 c4] := Cs.keep csA hb5
        replace hbw : Below w.heap.size w w5 := blA
        replace cB3 := B3.c
        replace fB3 := B3.f
        replace lB3 := B3.lt
        clear hb5
        obtain rfl : n4 = nr := by rw [← hr.1, Hxl.out]
        go_wp2_with fail
        refine (ks _ _ _ _ _ _ hr hI5 hnr.1).mono ?_
        rintro _ w6 ⟨rfl, hb6⟩
        have hI6 : Ints w6 (some ⟨g, 0, none⟩) n4 x := intsA
        clear hr hI5
        replace B3 : Cs w6 (w.heap.size) #[.slice A1 n1 c1, .slice A2 n2 c2, .slice A3 n3 c3, .slice A4 n4 c4] := Cs.keep csA hb6
        replace hbw : Below w.heap.size w w6 := blA
        replace cB3 := B3.c
        replace fB3 := B3.f
        replace lB3 := B3.lt
        clear hb6
        go_wp2_with fail
        have HBs := Lib.hid B3
        have hbws := hbw
        have HIs := Lib.hid hI6
        have hss : w.heap.size ≤ w6.heap.size := hbw.size
        clear B3 cB3 fB3 lB3 hbw hI6
        go_loopw [12, 13] (fun s12 s13 wx => ∃ (p j : Nat) (i : Int) (W : World), p + j = n4 ∧ i = (j : Int) - 1 ∧ s13 = .int .i64 i ∧ Hid (W = wx) ∧ Hid (W.ownsRow w6.heap.size 2 1 s12 p ((x.reverse.take p).map (Value.int .i64))) ∧ Below w6.heap.size w6 W) (fun _ s13 _ => (intOf s13 + 1).toNat)
        case atStart => exact ⟨0, n4, _, _, by omega, rfl, by go_num, Lib.hid rfl, Lib.hid ⟨rfl, Or.inl ⟨rfl, rfl⟩⟩, blA⟩
        case round =>
          obtain ⟨p, j, i, V, hpj, hi, rfl, HVx, Hown, hbx2⟩ := hrel
          obtain rfl := HVx.out
          clear HVx
          have hsv := hbx2.size
          cases j with
          | succ j =>
            obtain rfl : i = (j : Int) := by omega
            clear hi
            have hjI : (0 : Int) ≤ (j : Int) := by omega
            have hjn : (j : Int) < (n4 : Int) := by omega
            obtain ⟨bq, oq, eq, hlq, cj⟩ := HIs.out.at0 hbx2 (show j < n4 by omega)
            injection eq with eq
            injection eq with eq1 eq2
            subst eq1 eq2
            have Htk : Hid (x.reverse.take (p + 1) = x.reverse.take p ++ [x.getD j 0]) := Lib.hid (by
              have hl := Hxl.out
              have e : x[j]? = some (x.getD j 0) := by rw [List.getD_eq_getElem?_getD, List.getElem?_eq_getElem (show j < x.length by omega)]; rfl
              rw [List.take_add_one, List.getElem?_reverse (by omega), show x.length - 1 - p = j by omega, e]
              rfl)
            generalize x.getD j 0 = y at *
            rw [Nat.zero_add] at cj
            go_wp2_with (at_builtin; refine list_one elI64 rfl _ _ rfl w6.heap.size p _ (x.reverse.take p) (by rfl) (Hown.out.alloc _) V.heap.size y (by rfl) (by simp) (by omega) (by simp; omega) ?_; intro g5 c5 w5 hO5 hb5)
            have Hown2 : Hid (w5.ownsRow w6.heap.size 2 1 (.slice (some ⟨g5, 0, none⟩) (p + 1) c5) (p + 1) ((x.reverse.take (p + 1)).map (Value.int .i64))) := Lib.hid (by rw [Htk.out]; exact hO5)
            have hbx5 : Below w6.heap.size w6 w5 := hbx2.trans ((balloc' _ _ _ hbx2.size).trans hb5)
            clear hO5 hb5 Hown Htk hbx2 cj
            go_wp2_with fail
            go_roundw
            case rel => exact ⟨p + 1, j, _, _, by omega, rfl, by go_num, Lib.hid rfl, Hown2, hbx5⟩
            case measure => first | (simp [intOf]; done) | (simp [intOf]; omega)
          | zero =>
            obtain rfl : i = -1 := by omega
            obtain rfl : n4 = p := by omega
            clear hi hpj
            have hjI : ¬ (0 : Int) ≤ -1 := by omega
            obtain ⟨g5, c5, rfl⟩ := own_slice Hown.out (by omega)
            have hI5 : Ints V (some ⟨g5, 0, none⟩) n4 x.reverse := by
              have h0 := Hown.out
              rw [List.take_of_length_le (by rw [List.length_reverse]; exact Nat.le_of_eq Hxl.out)] at h0
              exact (OwnI.ints (B := w6.heap.size) (c := c5) h0).1
            have B3 := HBs.out.keep hbx2
            have hIx : Ints V (some ⟨g, 0, none⟩) n4 x := HIs.out.below hbx2
            have hbw := hbws.trans (hbx2.mono hss)
            clear HBs hbws HIs Hown hbx2
            have cB3 := B3.c
            have fB3 := B3.f
            have lB3 := B3.lt
            go_wp2_with fail
            refine (kb _).mono ?_
            rintro _ w8 ⟨Aq, nq, cq, rfl, hq, hnq, hb8⟩
            have hIx8 : Ints w8 (some ⟨g, 0, none⟩) n4 x := intsA
            have hI58 : Ints w8 (some ⟨g5, 0, none⟩) n4 x.reverse := intsA
            clear hIx hI5 kb
            replace B3 : Cs w8 (w.heap.size) #[.slice A1 n1 c1, .slice A2 n2 c2, .slice A3 n3 c3, .slice A4 n4 c4] := Cs.keep csA hb8
            replace hbw : Below w.heap.size w w8 := blA
            replace cB3 := B3.c
            replace fB3 := B3.f
            replace lB3 := B3.lt
            clear hb8
            go_wp2_with fail
            refine (krev _ _ _ _ _ _ hI58 hq hnq.1).mono ?_
            rintro _ w9 ⟨Az, nz, cz, rfl, hz, hnz, hb9⟩
            have hIx9 : Ints w9 (some ⟨g, 0, none⟩) n4 x := intsA
            clear hIx8 hI58 krev hq
            replace B3 : Cs w9 (w.heap.size) #[.slice A1 n1 c1, .slice A2 n2 c2, .slice A3 n3 c3, .slice A4 n4 c4] := Cs.keep csA hb9
            replace hbw : Below w.heap.size w w9 := blA
            replace cB3 := B3.c
            replace fB3 := B3.f
            replace lB3 := B3.lt
            clear hb9
            obtain rfl : n4 = nz := by rw [← hz.1, Hxl.out]
            go_wp2_with fail
            refine (ks _ _ _ _ _ _ hz hIx9 hnz.1).mono ?_
            rintro _ w10 ⟨rfl, hb10⟩
            have hz10 : Ints w10 Az n4 x := intsA
            clear hz hIx9 ks
            replace B3 : Cs w10 (w.heap.size) #[.slice A1 n1 c1, .slice A2 n2 c2, .slice A3 n3 c3, .slice A4 n4 c4] := Cs.keep csA hb10
            replace hbw : Below w.heap.size w w10 := blA
            replace cB3 := B3.c
            replace fB3 := B3.f
            replace lB3 := B3.lt
            clear hb10
            go_wp2_with fail
            refine (kt _ blA _ _ hz10 hnz.2).mono ?_
            rintro _ w11 ⟨rfl, hb11⟩
            clear hz10 kt B3 cB3 fB3 lB3
            go_wp2_with fail
            refine (kw _ (HW.out.below blA)).mono ?_
            rintro _ w12 ⟨rfl, hb12⟩
            go_wp2_with fail
            go_ret
            exact ⟨rfl, blA⟩

set_option maxRecDepth 100000 in
set_option maxHeartbeats 16000000 in
theorem sortedLamp_any (A1 : Option Addr) (n1 c1 : Nat) (A2 : Option Addr) (n2 c2 : Nat) (A3 : Option Addr) (n3 c3 : Nat) (A4 : Option Addr) (n4 c4 : Nat) (an : List Int) (ls : List (Int × Int)) (fs : List Bool) (ws : List Int) (A B : Option Addr) (m D q C : Nat) (us : List Int) (zs : List (Int × Int)) (w : World) (h : Lmp w A1 n1 c1 A2 n2 c2 A3 n3 c3 A4 n4 c4 an ls fs ws) (hu : U8s w A m us) (hz : Prs w B q zs) (hm : m ≤ 9223372036854775807) (hq : q ≤ 9223372036854775807) (hW : GlobW w) :
    Calls Tryz.prog 4 #[.agg #[.slice A1 n1 c1, .slice A2 n2 c2, .slice A3 n3 c3, .slice A4 n4 c4], .slice A m D, .slice B q C] w fun e w' => e = .returned (.bool true) ∧ Below w.heap.size w w' := by
  have kw := fun W h => top_works03_any W h
  have HW := Lib.hid hW
  have hl3 := h.h3.1
  have hl4 := h.h4.1
  have hm4 := h.m4.1
  have k1 := fun (W : World) (hb : Below w.heap.size w W) => lamp03_any _ _ _ _ _ _ _ _ _ _ _ _ _ _ _ _ W (h.below hb)
  cases hL : (decide (chkZ an ls fs ws = 0) && !dbtZ an ls fs n4) with
  | false =>
    rw [hL] at k1
    clear hL h hu hz hW hl3 hl4 hm4 hm hq
    go_enter Tryz.func4, Tryz.ntmps4
    go_wp2_with fail
    refine (k1 _ blA).mono ?_
    rintro e w1 ⟨rfl, hb1⟩
    try clear cB3 fB3 lB3
    try clear B3
    replace hbw : Below w.heap.size w w1 := blA
    clear hb1
    go_wp2_with fail
    refine (kw _ (HW.out.below blA)).mono ?_
    rintro e w2 ⟨rfl, hb2⟩
    try clear cB3 fB3 lB3
    try clear B3
    replace hbw : Below w.heap.size w w2 := blA
    clear hb2
    go_wp2_with fail
    go_ret
    exact ⟨rfl, blA⟩
  | true =>
  rw [hL] at k1
  rw [Bool.and_eq_true, decide_eq_true_eq, Bool.not_eq_true'] at hL
  obtain ⟨hc, hd⟩ := hL
  have ho := chk_lamp hc
  have hws := ho.ws91
  by_cases e4 : n4 ≤ 12
  case neg =>
    have d4 : (12 : Int) < (n4 : Int) := by omega
    clear h hu hz hW hl3 hl4 hm hq hc hd ho hws
    go_enter Tryz.func4, Tryz.ntmps4
    go_wp2_with fail
    refine (k1 _ blA).mono ?_
    rintro e w1 ⟨rfl, hb1⟩
    replace B3 : Cs w1 (w.heap.size) #[.slice A1 n1 c1, .slice A2 n2 c2, .slice A3 n3 c3, .slice A4 n4 c4] := Cs.keep csA hb1
    replace hbw : Below w.heap.size w w1 := blA
    replace cB3 := B3.c
    replace fB3 := B3.f
    replace lB3 := B3.lt
    clear hb1
    go_wp2_with fail
    refine (kw _ (HW.out.below blA)).mono ?_
    rintro e w2 ⟨rfl, hb2⟩
    try clear cB3 fB3 lB3
    try clear B3
    replace hbw : Below w.heap.size w w2 := blA
    clear hb2
    go_wp2_with fail
    go_ret
    exact ⟨rfl, blA⟩
  have d4 : ¬ (12 : Int) < (n4 : Int) := by omega
  by_cases e5 : m ≤ 100
  case neg =>
    have d5 : (100 : Int) < (m : Int) := by omega
    clear h hu hz hW hl3 hl4 hm4 hq hc hd ho hws
    go_enter Tryz.func4, Tryz.ntmps4
    go_wp2_with fail
    refine (k1 _ blA).mono ?_
    rintro e w1 ⟨rfl, hb1⟩
    replace B3 : Cs w1 (w.heap.size) #[.slice A1 n1 c1, .slice A2 n2 c2, .slice A3 n3 c3, .slice A4 n4 c4] := Cs.keep csA hb1
    replace hbw : Below w.heap.size w w1 := blA
    replace cB3 := B3.c
    replace fB3 := B3.f
    replace lB3 := B3.lt
    clear hb1
    go_wp2_with fail
    refine (kw _ (HW.out.below blA)).mono ?_
    rintro e w2 ⟨rfl, hb2⟩
    try clear cB3 fB3 lB3
    try clear B3
    replace hbw : Below w.heap.size w w2 := blA
    clear hb2
    go_wp2_with fail
    go_ret
    exact ⟨rfl, blA⟩
  have d5 : ¬ (100 : Int) < (m : Int) := by omega
  by_cases e6 : q ≤ 90
  case neg =>
    have d6 : (90 : Int) < (q : Int) := by omega
    clear h hu hz hW hl3 hl4 hm4 hm hc hd ho hws
    go_enter Tryz.func4, Tryz.ntmps4
    go_wp2_with fail
    refine (k1 _ blA).mono ?_
    rintro e w1 ⟨rfl, hb1⟩
    replace B3 : Cs w1 (w.heap.size) #[.slice A1 n1 c1, .slice A2 n2 c2, .slice A3 n3 c3, .slice A4 n4 c4] := Cs.keep csA hb1
    replace hbw : Below w.heap.size w w1 := blA
    replace cB3 := B3.c
    replace fB3 := B3.f
    replace lB3 := B3.lt
    clear hb1
    go_wp2_with fail
    refine (kw _ (HW.out.below blA)).mono ?_
    rintro e w2 ⟨rfl, hb2⟩
    try clear cB3 fB3 lB3
    try clear B3
    replace hbw : Below w.heap.size w w2 := blA
    clear hb2
    go_wp2_with fail
    go_ret
    exact ⟨rfl, blA⟩
  exact sortedLamp_main _ _ _ _ _ _ _ _ _ _ _ _ _ _ _ _ A B m D q C us zs w h hu hz hc hd e4 e5 e6 hW
end Go.Proofs.YtminplfgadhnnaaGreatDoor
end
