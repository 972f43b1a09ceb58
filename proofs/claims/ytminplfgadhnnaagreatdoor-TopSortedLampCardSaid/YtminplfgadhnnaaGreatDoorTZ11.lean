/- ZB1 -/
import Derived.Test.YtminplfgadhnnaaGreatDoorTZ10
/- Walks of package zone: CheckTrue for a lantern that is true. -/
section
namespace Go.Proofs.YtminplfgadhnnaaGreatDoor
open Go.RowKit Go.Shelf
set_option linter.unusedSimpArgs false
set_option linter.unusedVariables false
open Zm

set_option maxRecDepth 100000 in
set_option maxHeartbeats 2000000 in
theorem zat_any (A1 : Option Addr) (n1 c1 : Nat) (A2 : Option Addr) (n2 c2 : Nat) (A3 : Option Addr) (n3 c3 : Nat) (A4 : Option Addr) (n4 c4 : Nat) (an : List Int) (ls : List (Int × Int)) (fs : List Bool) (ws : List Int) (b i : Nat) (w : World) (h : Lmp w A1 n1 c1 A2 n2 c2 A3 n3 c3 A4 n4 c4 an ls fs ws) (ho : LampOk an ls fs ws) (B1 : Cs w b #[.slice A1 n1 c1, .slice A2 n2 c2, .slice A3 n3 c3, .slice A4 n4 c4]) (hi : i < n1) :
    Calls Tryz.prog 49 #[.int .i64 (i : Nat), .pointer (some ⟨b, 0, none⟩)] w fun e w' => e = .returned (.int .i64 (aN an i : Nat)) ∧ Below w.heap.size w w' := by
  have hl1 := h.h1.1
  have ha := ho.aN_int (i := i) (by omega)
  have hbd := ho.bd i (by omega)
  have hb0 := ho.bd 0 (by have := ho.n2; omega)
  obtain ⟨b1, o1, rfl, hlt, ci⟩ := h.h1.at0 (Below.refl _ _) hi
  obtain ⟨b1', o1', e, _, c0⟩ := h.h1.at0 (Below.refl _ _) (show 0 < n1 by omega)
  injection e with e
  injection e with e1 e2
  subst e1 e2
  rw [Nat.add_zero] at c0
  have g1 : (i : Int) < (n1 : Int) := by omega
  have g2 : (0 : Int) < (n1 : Int) := by omega
  have hne : b1 < w.heap.size := hlt
  clear h ho
  generalize an.getD i 0 = x at *
  generalize an.getD 0 0 = y at *
  generalize aN an i = r at *
  have Hr : Hid (x - y = (r : Nat)) := Lib.hid (by omega)
  clear ha hl1
  have hb := B1.lt
  have cB1 := B1.c
  have fB1 := B1.f
  have lB1 := B1.lt
  go_enter Tryz.func49, Tryz.ntmps49
  go_wp2_with fail
  go_quiet (fail)
  go_wp2_with fail
  go_ret
  exact ⟨ret_int Hr.out, blA⟩

set_option maxRecDepth 100000 in
set_option maxHeartbeats 16000000 in
theorem zchecktrue_ok0 (A1 : Option Addr) (n1 c1 : Nat) (A2 : Option Addr) (n2 c2 : Nat) (A3 : Option Addr) (n3 c3 : Nat) (A4 : Option Addr) (n4 c4 : Nat) (an : List Int) (ls : List (Int × Int)) (fs : List Bool) (ws : List Int) (A : Option Addr) (m D : Nat) (zs : List Int) (w : World) (h : Lmp w A1 n1 c1 A2 n2 c2 A3 n3 c3 A4 n4 c4 an ls fs ws) (hc : chkZ an ls fs ws = 0) (hz : Ints w A m zs) (hm : m = n4) (hD : m ≤ D) (ht : TrueL an ls fs n4 (fun k => zs.getD k 0)) :
    Calls Tryz.prog 17 #[.agg #[.slice A1 n1 c1, .slice A2 n2 c2, .slice A3 n3 c3, .slice A4 n4 c4], .slice A m D] w fun e w' => e = .returned (.int .i64 0) ∧ Below w.heap.size w w' := by
  have ho := chk_lamp hc
  have hl1 := h.h1.1
  have hl2 := h.h2.1
  have hl3 := h.h3.1
  have hl4 := h.h4.1
  have hws := ho.ws91
  rw [hl4] at hws
  have k0 := fun (W : World) (hb : Below w.heap.size w W) => zcheck_any _ _ _ _ _ _ _ _ _ _ _ _ _ _ _ _ W (h.below hb)
  rw [hc] at k0
  obtain ⟨gb, go, rfl, hgl, _⟩ := hz.at0 (Below.refl _ _) (show 0 < m by omega)
  subst hm
  have kat := fun (W : World) (i b : Nat) (hb : Below w.heap.size w W) (B1 : Cs W b #[.slice A1 n1 c1, .slice A2 n2 c2, .slice A3 n3 c3, .slice A4 m c4]) (hi : i < n1) => zat_any _ _ _ _ _ _ _ _ _ _ _ _ _ _ _ _ b i W (h.below hb) ho B1 hi
  have hn10 : n2 ≤ 10 := by have := ho.n10; have := ho.lsl; omega
  have hn11 : n3 ≤ 10 := by have := ho.n10; have := ho.fsl; omega
  have H := Lib.hid h
  have HO := Lib.hid ho
  have HZ := Lib.hid hz
  have HT := Lib.hid ht
  clear h ho hz ht hc
  go_enter Tryz.func17, Tryz.ntmps17
  go_wp2_with fail
  refine (k0 _ blA).mono ?_
  rintro _ w1 ⟨rfl, hb1⟩
  replace B1 : Cs w1 (w.heap.size) #[.slice A1 n1 c1, .slice A2 n2 c2, .slice A3 n3 c3, .slice A4 m c4] := Cs.keep csA hb1
  replace hbw : Below w.heap.size w w1 := blA
  replace cB1 := B1.c
  replace fB1 := B1.f
  replace lB1 := B1.lt
  clear hb1
  clear k0
  have HB1 := Lib.hid B1
  have hbw1 := hbw
  have l1 : w.heap.size < w1.heap.size := B1.lt
  go_wp2_with fail
  clear B1 cB1 fB1 lB1 hbw
  go_loopw [29] (fun s29 wx => ∃ (i : Nat) (W : World), i ≤ n2 ∧ s29 = .int .i64 (i : Nat) ∧ Hid (W = wx) ∧ Below w1.heap.size w1 W) (fun s29 _ => n2 - (intOf s29).toNat)
  case atStart => exact ⟨0, _, Nat.zero_le _, rfl, Lib.hid rfl, blA⟩
  case round =>
    obtain ⟨i, W, hi, rfl, HW, hbx⟩ := hrel
    obtain rfl := HW.out
    clear HW
    have B1 := HB1.out.keep hbx
    have hbw := hbw1.trans (hbx.mono hbw1.size)
    have hsx := hbx.size
    have cB1 := B1.c
    have fB1 := B1.f
    have lB1 := B1.lt
    by_cases hin : i < n2
    · have hin1 : i < n1 := by have := HO.out.lsl; omega
      obtain ⟨b2, o2, x, y, rfl, hget, d0, d1⟩ := H.out.h2.at_ hbw hin
      have hx2 := HT.out.1 i (by omega)
      rw [show ls.getD i (0, 0) = (x, y) by rw [List.getD_eq_getElem?_getD, hget]; rfl] at hx2
      have hai : aN an i < m := by have := HO.out.aN_ws (i := i) (by omega); omega
      have kt := fun (W : World) (b : Nat) (hb : Below w.heap.size w W) B1 => kat W i b hb B1 hin1
      generalize aN an i = a at *
      have haD : (a : Int) < (m : Int) := by omega
      go_wp2_with fail
      refine (kt _ _ blA csA).mono ?_
      rintro _ w2 ⟨rfl, hb2⟩
      have hbx2 : Below w1.heap.size w1 w2 := blA
      replace B1 : Cs w2 (w.heap.size) #[.slice A1 n1 c1, .slice (some ⟨b2, o2, none⟩) n2 c2, .slice A3 n3 c3, .slice A4 m c4] := Cs.keep csA hb2
      replace B2 : Cs w2 (W.heap.size) #[.int .i64 x, .int .i64 y] := Cs.keep csA hb2
      replace hbw : Below w.heap.size w w2 := blA
      replace cB1 := B1.c
      replace fB1 := B1.f
      replace lB1 := B1.lt
      replace cB2 := B2.c
      replace fB2 := B2.f
      replace lB2 := B2.lt
      clear hb2
      obtain ⟨gb', go', e, _, ca⟩ := HZ.out.at0 hbw hai
      injection e with e
      injection e with e1 e2
      subst e1 e2
      have z1 : decide (zs.getD a 0 < x) = false := by simpa using hx2.1
      have z2 : decide (y < zs.getD a 0) = false := by simpa using hx2.2
      generalize zs.getD a 0 = z at *
      go_wp2_with fail
      go_roundw
      case rel => exact ⟨i + 1, _, by omega, by go_num, Lib.hid rfl, blA⟩
      case measure => simp [intOf]; omega
    · obtain rfl : n2 = i := by omega
      go_wp2_with fail
      clear B1 cB1 fB1 lB1 hbw
      go_loopw [54] (fun s54 wx => ∃ (i : Nat) (V : World), i ≤ n3 ∧ s54 = .int .i64 (i : Nat) ∧ Hid (V = wx) ∧ Below w1.heap.size w1 V) (fun s54 _ => n3 - (intOf s54).toNat)
      case atStart => exact ⟨0, _, Nat.zero_le _, rfl, Lib.hid rfl, blA⟩
      case round =>
        clear hbx hsx
        obtain ⟨i, V, hi, rfl, HV, hbx⟩ := hrel
        obtain rfl := HV.out
        clear HV
        have B1 := HB1.out.keep hbx
        have hbw := hbw1.trans (hbx.mono hbw1.size)
        have hsx := hbx.size
        have cB1 := B1.c
        have fB1 := B1.f
        have lB1 := B1.lt
        by_cases hin : i < n3
        · obtain ⟨b3, o3, rfl, hl3b, ci⟩ := H.out.h3.at0 hbw hin
          have hai : aN an (i + 1) < m := by have := HO.out.aN_ws (i := i + 1) (by have := HO.out.fsl; omega); omega
          have hab : aN an i < aN an (i + 1) := HO.out.aN_lt (by omega) (by have := HO.out.fsl; omega)
          have kt := fun (W : World) (b : Nat) (hb : Below w.heap.size w W) B1 => kat W i b hb B1 (by have := HO.out.fsl; omega)
          have kt2 := fun (W : World) (b : Nat) (hb : Below w.heap.size w W) B1 => kat W (i + 1) b hb B1 (by have := HO.out.fsl; omega)
          have Hgap := Lib.hid (fun k (h1 : aN an i < k) (h2 : k ≤ aN an (i + 1)) => (show (if fs.getD i false = true then zs.getD k 0 ≤ zs.getD (k - 1) 0 else zs.getD (k - 1) 0 ≤ zs.getD k 0) by
            have := HT.out.2 k (by omega) (by omega)
            unfold dF at this
            rw [gapN_eq HO.out (by have := HO.out.fsl; omega) h1 h2] at this
            exact this))
          generalize aN an i = a at *
          generalize aN an (i + 1) = b at *
          generalize fs.getD i false = f at *
          have haD : (a : Int) ≤ (b : Int) + 1 := by omega
          have hbD : (b : Int) + 1 ≤ (D : Int) := by omega
          have habn : a ≤ b + 1 ∧ b + 1 ≤ D ∧ ¬ b + 1 - a = 0 ∧ ¬ b + 1 = a := by omega
          go_wp2_with fail
          refine (kt _ _ blA csA).mono ?_
          rintro _ w2 ⟨rfl, hb2⟩
          have hbx2 : Below w1.heap.size w1 w2 := blA
          replace B1 : Cs w2 (w.heap.size) #[.slice A1 n1 c1, .slice A2 n2 c2, .slice (some ⟨b3, o3, none⟩) n3 c3, .slice A4 m c4] := Cs.keep csA hb2
          replace hbw : Below w.heap.size w w2 := blA
          replace cB1 := B1.c
          replace fB1 := B1.f
          replace lB1 := B1.lt
          clear hb2
          go_wp2_with fail
          refine (kt2 _ _ blA csA).mono ?_
          rintro _ w3 ⟨rfl, hb3⟩
          have hbx3 : Below w1.heap.size w1 w3 := blA
          replace B1 : Cs w3 (w.heap.size) #[.slice A1 n1 c1, .slice A2 n2 c2, .slice (some ⟨b3, o3, none⟩) n3 c3, .slice A4 m c4] := Cs.keep csA hb3
          replace hbw : Below w.heap.size w w3 := blA
          replace cB1 := B1.c
          replace fB1 := B1.f
          replace lB1 := B1.lt
          clear hb3
          go_wp2_with fail
          refine (kt2 _ _ blA csA).mono ?_
          rintro _ w4 ⟨rfl, hb4⟩
          have hbx4 : Below w1.heap.size w1 w4 := blA
          replace B1 : Cs w4 (w.heap.size) #[.slice A1 n1 c1, .slice A2 n2 c2, .slice (some ⟨b3, o3, none⟩) n3 c3, .slice A4 m c4] := Cs.keep csA hb4
          replace hbw : Below w.heap.size w w4 := blA
          replace cB1 := B1.c
          replace fB1 := B1.f
          replace lB1 := B1.lt
          clear hb4
          clear kt kt2
          go_wp2_with fail
          clear B1 cB1 fB1 lB1 hbw
          obtain ⟨L, hL⟩ : ∃ L, b + 1 - a = L := ⟨_, rfl⟩
          rw [hL]
          have hL1 : 1 ≤ L ∧ L ≤ 91 ∧ a + L = b + 1 := by omega
          clear hL habn
          go_loopw [13] (fun s13 wx => ∃ (j : Nat) (U : World), j + 1 ≤ L ∧ s13 = .int .i64 ((j + 1 : Nat) : Int) ∧ Hid (U = wx) ∧ Below w1.heap.size w1 U) (fun s13 _ => L - (intOf s13).toNat)
          case atStart => exact ⟨0, _, by omega, by go_num, Lib.hid rfl, blA⟩
          case round =>
            clear hbx hsx hbx2 hbx3 hbx4
            obtain ⟨j, U, hj, rfl, HU, hbx⟩ := hrel
            obtain rfl := HU.out
            clear HU
            have hbw := hbw1.trans (hbx.mono hbw1.size)
            by_cases hjn : j + 1 < L
            · obtain ⟨gb', go', e, _, ca⟩ := HZ.out.at0 hbw (show a + j < m by omega)
              injection e with e
              injection e with e1 e2
              subst e1 e2
              obtain ⟨gb', go', e, _, cb⟩ := HZ.out.at0 hbw (show a + (j + 1) < m by omega)
              injection e with e
              injection e with e1 e2
              subst e1 e2
              have hg := Hgap.out (a + (j + 1)) (by omega) (by omega)
              rw [show a + (j + 1) - 1 = a + j by omega] at hg
              rw [show go + (a + j) = go + a + j by omega] at ca
              rw [show go + (a + (j + 1)) = go + a + (j + 1) by omega] at cb
              generalize zs.getD (a + (j + 1)) 0 = z at *
              generalize zs.getD (a + j) 0 = y at *
              have hjl : (j : Int) < (L : Int) := by omega
              cases f with
              | true =>
                have hd : decide (y < z) = false := by simp at hg ⊢; omega
                clear hg
                go_wp2_with fail
                go_quiet (fail)
                go_wp2_with fail
                go_roundw
                case rel => exact ⟨j + 1, _, by omega, by go_num, Lib.hid rfl, blA⟩
                case measure => simp [intOf]; omega
              | false =>
                have hd : decide (z < y) = false := by simp at hg ⊢; omega
                clear hg
                go_wp2_with fail
                go_quiet (fail)
                go_wp2_with fail
                go_roundw
                case rel => exact ⟨j + 1, _, by omega, by go_num, Lib.hid rfl, blA⟩
                case measure => simp [intOf]; omega
            · obtain rfl : L = j + 1 := by omega
              go_wp2_with fail
              go_roundw
              case rel => exact ⟨i + 1, _, by omega, by go_num, Lib.hid rfl, blA⟩
              case measure => simp [intOf]; omega
        · obtain rfl : n3 = i := by omega
          go_wp2_with fail
          go_ret
          exact ⟨rfl, blA⟩

theorem zchecktrue_ok (A1 : Option Addr) (n1 c1 : Nat) (A2 : Option Addr) (n2 c2 : Nat) (A3 : Option Addr) (n3 c3 : Nat) (A4 : Option Addr) (n4 c4 : Nat) (an : List Int) (ls : List (Int × Int)) (fs : List Bool) (ws : List Int) (A : Option Addr) (m D : Nat) (zs : List Int) (w : World) (h : Lmp w A1 n1 c1 A2 n2 c2 A3 n3 c3 A4 n4 c4 an ls fs ws) (hc : chkZ an ls fs ws = 0) (hz : Ints w A m zs) (hm : m = n4) (hD : m ≤ D) (hD2 : D ≤ 9223372036854775807) (ht : TrueL an ls fs n4 (fun k => zs.getD k 0)) :
    Calls Tryz.prog 17 #[.agg #[.slice A1 n1 c1, .slice A2 n2 c2, .slice A3 n3 c3, .slice A4 n4 c4], .slice A m D] w fun e w' => e = .returned (.int .i64 0) ∧ Below w.heap.size w w' :=
  zchecktrue_ok0 _ _ _ _ _ _ _ _ _ _ _ _ _ _ _ _ A m D zs w h hc hz hm hD ht
end Go.Proofs.YtminplfgadhnnaaGreatDoor
end
