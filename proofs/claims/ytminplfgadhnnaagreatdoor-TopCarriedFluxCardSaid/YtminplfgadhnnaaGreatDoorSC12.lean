/- ZB1 ZB2 ZC1 ZC2 ZC3 ZC4 -/
import Derived.Test.YtminplfgadhnnaaGreatDoorSC11
import Derived.Test.YtminplfgadhnnaaGreatDoorSC08
import Derived.Test.YtminplfgadhnnaaGreatDoorSC09
import Derived.Deep.WholeRow
/- Walks of package zone: CheckTrue for a lantern that is true. -/
section
namespace Go.Proofs.YtminplfgadhnnaaGreatDoor
open Go.RowKit Go.Shelf
set_option linter.unusedSimpArgs false
set_option linter.unusedVariables false
open Zm

set_option maxRecDepth 100000 in
set_option maxHeartbeats 2000000 in
theorem zat_any (A1 : Option Addr) (n1 c1 : Nat) (A2 : Option Addr) (n2 c2 : Nat) (A3 : Option Addr) (n3 c3 : Nat) (A4 : Option Addr) (n4 c4 : Nat) (an : List Int) (ls : List (Int × Int)) (fs : List Bool) (ws : List Int) (b i : Nat) (w : World) (h : Lmp w A1 n1 c1 A2 n2 c2 A3 n3 c3 A4 n4 c4 an ls fs ws) (ho : LampOk an ls fs ws) (B1 : Cs w b #[.slice A1 n1 c1, .slice A2 n2 c2, .slice A3 n3 c3, .slice A4 n4 c4]) (hi : i < n1) :
    Calls Tryz.prog 49 #[.int .i64 (i : Nat), .pointer (some ⟨b, 0, none⟩)] w fun e w' => e = .returned (.int .i64 (aN an i : Nat)) ∧ Below w.heap.size w w' := by
  have hl1 := h.h1.1
  have ha := ho.aN_int (i := i) (by omega)
  have hbd := ho.bd i (by omega)
  have hb0 := ho.bd 0 (by have := ho.n2; omega)
  obtain ⟨b1, o1, rfl, hlt, ci⟩ := h.h1.at0 (Below.refl _ _) hi
  obtain ⟨b1', o1', e, _, c0⟩ := h.h1.at0 (Below.refl _ _) (show 0 < n1 by omega)
  injection e with e
  injection e with e1 e2
  subst e1 e2
  rw [Nat.add_zero] at c0
  have g1 : (i : Int) < (n1 : Int) := by omega
  have g2 : (0 : Int) < (n1 : Int) := by omega
  have hne : b1 < w.heap.size := hlt
  clear h ho
  generalize an.getD i 0 = x at *
  generalize an.getD 0 0 = y at *
  generalize aN an i = r at *
  have Hr : Hid (x - y = (r : Nat)) := Lib.hid (by omega)
  clear ha hl1
  have hb := B1.lt
  have cB1 := B1.c
  have fB1 := B1.f
  have lB1 := B1.lt
  go_enter Tryz.func49, Tryz.ntmps49
  go_wp2_with fail
  go_quiet (fail)
  go_wp2_with fail
  go_ret
  exact ⟨ret_int Hr.out, blA⟩

set_option maxRecDepth 100000 in
set_option maxHeartbeats 16000000 in
theorem zchecktrue_ok0 (A1 : Option Addr) (n1 c1 : Nat) (A2 : Option Addr) (n2 c2 : Nat) (A3 : Option Addr) (n3 c3 : Nat) (A4 : Option Addr) (n4 c4 : Nat) (an : List Int) (ls : List (Int × Int)) (fs : List Bool) (ws : List Int) (A : Option Addr) (m D : Nat) (zs : List Int) (w : World) (h : Lmp w A1 n1 c1 A2 n2 c2 A3 n3 c3 A4 n4 c4 an ls fs ws) (hc : chkZ an ls fs ws = 0) (hz : Ints w A m zs) (hm : m = n4) (hD : m ≤ D) (ht : TrueL an ls fs n4 (fun k => zs.getD k 0)) :
    Calls Tryz.prog 17 #[.agg #[.slice A1 n1 c1, .slice A2 n2 c2, .slice A3 n3 c3, .slice A4 n4 c4], .slice A m D] w fun e w' => e = .returned (.int .i64 0) ∧ Below w.heap.size w w' := by
  have ho := chk_lamp hc
  have hl1 := h.h1.1
  have hl2 := h.h2.1
  have hl3 := h.h3.1
  have hl4 := h.h4.1
  have hws := ho.ws91
  rw [hl4] at hws
  have k0 := fun (W : World) (hb : Below w.heap.size w W) => zcheck_any _ _ _ _ _ _ _ _ _ _ _ _ _ _ _ _ W (h.below hb)
  rw [hc] at k0
  obtain ⟨gb, go, rfl, hgl, _⟩ := hz.at0 (Below.refl _ _) (show 0 < m by omega)
  subst hm
  have kat := fun (W : World) (i b : Nat) (hb : Below w.heap.size w W) (B1 : Cs W b #[.slice A1 n1 c1, .slice A2 n2 c2, .slice A3 n3 c3, .slice A4 m c4]) (hi : i < n1) => zat_any _ _ _ _ _ _ _ _ _ _ _ _ _ _ _ _ b i W (h.below hb) ho B1 hi
  have hn10 : n2 ≤ 10 := by have := ho.n10; have := ho.lsl; omega
  have hn11 : n3 ≤ 10 := by have := ho.n10; have := ho.fsl; omega
  have H := Lib.hid h
  have HO := Lib.hid ho
  have HZ := Lib.hid hz
  have HT := Lib.hid ht
  clear h ho hz ht hc
  go_enter Tryz.func17, Tryz.ntmps17
  go_wp2_with fail
  refine (k0 _ blA).mono ?_
  rintro _ w1 ⟨rfl, hb1⟩
  replace B1 : Cs w1 (w.heap.size) #[.slice A1 n1 c1, .slice A2 n2 c2, .slice A3 n3 c3, .slice A4 m c4] := Cs.keep csA hb1
  replace hbw : Below w.heap.size w w1 := blA
  replace cB1 := B1.c
  replace fB1 := B1.f
  replace lB1 := B1.lt
  clear hb1
  clear k0
  have HB1 := Lib.hid B1
  have hbw1 := hbw
  have l1 : w.heap.size < w1.heap.size := B1.lt
  go_wp2_with fail
  clear B1 cB1 fB1 lB1 hbw
  go_loopw [29] (fun s29 wx => ∃ (i : Nat) (W : World), i ≤ n2 ∧ s29 = .int .i64 (i : Nat) ∧ Hid (W = wx) ∧ Below w1.heap.size w1 W) (fun s29 _ => n2 - (intOf s29).toNat)
  case atStart => exact ⟨0, _, Nat.zero_le _, rfl, Lib.hid rfl, blA⟩
  case round =>
    obtain ⟨i, W, hi, rfl, HW, hbx⟩ := hrel
    obtain rfl := HW.out
    clear HW
    have B1 := HB1.out.keep hbx
    have hbw := hbw1.trans (hbx.mono hbw1.size)
    have hsx := hbx.size
    have cB1 := B1.c
    have fB1 := B1.f
    have lB1 := B1.lt
    by_cases hin : i < n2
    · have hin1 : i < n1 := by have := HO.out.lsl; omega
      obtain ⟨b2, o2, x, y, rfl, hget, d0, d1⟩ := H.out.h2.at_ hbw hin
      have hx2 := HT.out.1 i (by omega)
      rw [show ls.getD i (0, 0) = (x, y) by rw [List.getD_eq_getElem?_getD, hget]; rfl] at hx2
      have hai : aN an i < m := by have := HO.out.aN_ws (i := i) (by omega); omega
      have kt := fun (W : World) (b : Nat) (hb : Below w.heap.size w W) B1 => kat W i b hb B1 hin1
      generalize aN an i = a at *
      have haD : (a : Int) < (m : Int) := by omega
      go_wp2_with fail
      refine (kt _ _ blA csA).mono ?_
      rintro _ w2 ⟨rfl, hb2⟩
      have hbx2 : Below w1.heap.size w1 w2 := blA
      replace B1 : Cs w2 (w.heap.size) #[.slice A1 n1 c1, .slice (some ⟨b2, o2, none⟩) n2 c2, .slice A3 n3 c3, .slice A4 m c4] := Cs.keep csA hb2
      replace B2 : Cs w2 (W.heap.size) #[.int .i64 x, .int .i64 y] := Cs.keep csA hb2
      replace hbw : Below w.heap.size w w2 := blA
      replace cB1 := B1.c
      replace fB1 := B1.f
      replace lB1 := B1.lt
      replace cB2 := B2.c
      replace fB2 := B2.f
      replace lB2 := B2.lt
      clear hb2
      obtain ⟨gb', go', e, _, ca⟩ := HZ.out.at0 hbw hai
      injection e with e
      injection e with e1 e2
      subst e1 e2
      have z1 : decide (zs.getD a 0 < x) = false := by simpa using hx2.1
      have z2 : decide (y < zs.getD a 0) = false := by simpa using hx2.2
      generalize zs.getD a 0 = z at *
      go_wp2_with fail
      go_roundw
      case rel => exact ⟨i + 1, _, by omega, by go_num, Lib.hid rfl, blA⟩
      case measure => simp [intOf]; omega
    · obtain rfl : n2 = i := by omega
      go_wp2_with fail
      clear B1 cB1 fB1 lB1 hbw
      go_loopw [54] (fun s54 wx => ∃ (i : Nat) (V : World), i ≤ n3 ∧ s54 = .int .i64 (i : Nat) ∧ Hid (V = wx) ∧ Below w1.heap.size w1 V) (fun s54 _ => n3 - (intOf s54).toNat)
      case atStart => exact ⟨0, _, Nat.zero_le _, rfl, Lib.hid rfl, blA⟩
      case round =>
        clear hbx hsx
        obtain ⟨i, V, hi, rfl, HV, hbx⟩ := hrel
        obtain rfl := HV.out
        clear HV
        have B1 := HB1.out.keep hbx
        have hbw := hbw1.trans (hbx.mono hbw1.size)
        have hsx := hbx.size
        have cB1 := B1.c
        have fB1 := B1.f
        have lB1 := B1.lt
        by_cases hin : i < n3
        · obtain ⟨b3, o3, rfl, hl3b, ci⟩ := H.out.h3.at0 hbw hin
          have hai : aN an (i + 1) < m := by have := HO.out.aN_ws (i := i + 1) (by have := HO.out.fsl; omega); omega
          have hab : aN an i < aN an (i + 1) := HO.out.aN_lt (by omega) (by have := HO.out.fsl; omega)
          have kt := fun (W : World) (b : Nat) (hb : Below w.heap.size w W) B1 => kat W i b hb B1 (by have := HO.out.fsl; omega)
          have kt2 := fun (W : World) (b : Nat) (hb : Below w.heap.size w W) B1 => kat W (i + 1) b hb B1 (by have := HO.out.fsl; omega)
          have Hgap := Lib.hid (fun k (h1 : aN an i < k) (h2 : k ≤ aN an (i + 1)) => (show (if fs.getD i false = true then zs.getD k 0 ≤ zs.getD (k - 1) 0 else zs.getD (k - 1) 0 ≤ zs.getD k 0) by
            have := HT.out.2 k (by omega) (by omega)
            unfold dF at this
            rw [gapN_eq HO.out (by have := HO.out.fsl; omega) h1 h2] at this
            exact this))
          generalize aN an i = a at *
          generalize aN an (i + 1) = b at *
          generalize fs.getD i false = f at *
          have haD : (a : Int) ≤ (b : Int) + 1 := by omega
          have hbD : (b : Int) + 1 ≤ (D : Int) := by omega
          have habn : a ≤ b + 1 ∧ b + 1 ≤ D ∧ ¬ b + 1 - a = 0 ∧ ¬ b + 1 = a := by omega
          go_wp2_with fail
          refine (kt _ _ blA csA).mono ?_
          rintro _ w2 ⟨rfl, hb2⟩
          have hbx2 : Below w1.heap.size w1 w2 := blA
          replace B1 : Cs w2 (w.heap.size) #[.slice A1 n1 c1, .slice A2 n2 c2, .slice (some ⟨b3, o3, none⟩) n3 c3, .slice A4 m c4] := Cs.keep csA hb2
          replace hbw : Below w.heap.size w w2 := blA
          replace cB1 := B1.c
          replace fB1 := B1.f
          replace lB1 := B1.lt
          clear hb2
          go_wp2_with fail
          refine (kt2 _ _ blA csA).mono ?_
          rintro _ w3 ⟨rfl, hb3⟩
          have hbx3 : Below w1.heap.size w1 w3 := blA
          replace B1 : Cs w3 (w.heap.size) #[.slice A1 n1 c1, .slice A2 n2 c2, .slice (some ⟨b3, o3, none⟩) n3 c3, .slice A4 m c4] := Cs.keep csA hb3
          replace hbw : Below w.heap.size w w3 := blA
          replace cB1 := B1.c
          replace fB1 := B1.f
          replace lB1 := B1.lt
          clear hb3
          go_wp2_with fail
          refine (kt2 _ _ blA csA).mono ?_
          rintro _ w4 ⟨rfl, hb4⟩
          have hbx4 : Below w1.heap.size w1 w4 := blA
          replace B1 : Cs w4 (w.heap.size) #[.slice A1 n1 c1, .slice A2 n2 c2, .slice (some ⟨b3, o3, none⟩) n3 c3, .slice A4 m c4] := Cs.keep csA hb4
          replace hbw : Below w.heap.size w w4 := blA
          replace cB1 := B1.c
          replace fB1 := B1.f
          replace lB1 := B1.lt
          clear hb4
          clear kt kt2
          go_wp2_with fail
          clear B1 cB1 fB1 lB1 hbw
          obtain ⟨L, hL⟩ : ∃ L, b + 1 - a = L := ⟨_, rfl⟩
          rw [hL]
          have hL1 : 1 ≤ L ∧ L ≤ 91 ∧ a + L = b + 1 := by omega
          clear hL habn
          go_loopw [13] (fun s13 wx => ∃ (j : Nat) (U : World), j + 1 ≤ L ∧ s13 = .int .i64 ((j + 1 : Nat) : Int) ∧ Hid (U = wx) ∧ Below w1.heap.size w1 U) (fun s13 _ => L - (intOf s13).toNat)
          case atStart => exact ⟨0, _, by omega, by go_num, Lib.hid rfl, blA⟩
          case round =>
            clear hbx hsx hbx2 hbx3 hbx4
            obtain ⟨j, U, hj, rfl, HU, hbx⟩ := hrel
            obtain rfl := HU.out
            clear HU
            have hbw := hbw1.trans (hbx.mono hbw1.size)
            by_cases hjn : j + 1 < L
            · obtain ⟨gb', go', e, _, ca⟩ := HZ.out.at0 hbw (show a + j < m by omega)
              injection e with e
              injection e with e1 e2
              subst e1 e2
              obtain ⟨gb', go', e, _, cb⟩ := HZ.out.at0 hbw (show a + (j + 1) < m by omega)
              injection e with e
              injection e with e1 e2
              subst e1 e2
              have hg := Hgap.out (a + (j + 1)) (by omega) (by omega)
              rw [show a + (j + 1) - 1 = a + j by omega] at hg
              rw [show go + (a + j) = go + a + j by omega] at ca
              rw [show go + (a + (j + 1)) = go + a + (j + 1) by omega] at cb
              generalize zs.getD (a + (j + 1)) 0 = z at *
              generalize zs.getD (a + j) 0 = y at *
              have hjl : (j : Int) < (L : Int) := by omega
              cases f with
              | true =>
                have hd : decide (y < z) = false := by simp at hg ⊢; omega
                clear hg
                go_wp2_with fail
                go_quiet (fail)
                go_wp2_with fail
                go_roundw
                case rel => exact ⟨j + 1, _, by omega, by go_num, Lib.hid rfl, blA⟩
                case measure => simp [intOf]; omega
              | false =>
                have hd : decide (z < y) = false := by simp at hg ⊢; omega
                clear hg
                go_wp2_with fail
                go_quiet (fail)
                go_wp2_with fail
                go_roundw
                case rel => exact ⟨j + 1, _, by omega, by go_num, Lib.hid rfl, blA⟩
                case measure => simp [intOf]; omega
            · obtain rfl : L = j + 1 := by omega
              go_wp2_with fail
              go_roundw
              case rel => exact ⟨i + 1, _, by omega, by go_num, Lib.hid rfl, blA⟩
              case measure => simp [intOf]; omega
        · obtain rfl : n3 = i := by omega
          go_wp2_with fail
          go_ret
          exact ⟨rfl, blA⟩

end Go.Proofs.YtminplfgadhnnaaGreatDoor
end

/- Walks of package zone: sum, Flux of a true lantern. -/
section
namespace Go.Proofs.YtminplfgadhnnaaGreatDoor
open Go.RowKit Go.Shelf
set_option linter.unusedSimpArgs false
set_option linter.unusedVariables false
open Zm

/-- lights by weights -/
def sumF (ws : List Int) (x : Nat → Int) : Nat → Int
  | 0 => 0
  | k + 1 => sumF ws x k + ws.getD k 0 * x k
theorem sumF_bd {ws : List Int} {x : Nat → Int} (hw : ∀ k, k < ws.length → 0 ≤ ws.getD k 0 ∧ ws.getD k 0 ≤ 1000) (hx : ∀ k, k < ws.length → -100000 ≤ x k ∧ x k ≤ 100000) : ∀ k, k ≤ ws.length → -100000000 * (k : Int) ≤ sumF ws x k ∧ sumF ws x k ≤ 100000000 * (k : Int)
  | 0, _ => by simp [sumF]
  | k + 1, h => by
    obtain ⟨a, b⟩ := sumF_bd hw hx k (by omega)
    obtain ⟨e1, e2⟩ := hw k (by omega)
    obtain ⟨e3, e4⟩ := hx k (by omega)
    rw [sumF]
    have m1 : ws.getD k 0 * x k ≤ 1000 * 100000 := Int.le_trans (Int.mul_le_mul_of_nonneg_left e4 e1) (Int.mul_le_mul_of_nonneg_right e2 (by omega))
    have m2 : ws.getD k 0 * (-x k) ≤ 1000 * 100000 := Int.le_trans (Int.mul_le_mul_of_nonneg_left (show -x k ≤ 100000 by omega) e1) (Int.mul_le_mul_of_nonneg_right e2 (by omega))
    rw [Int.mul_neg] at m2
    omega
theorem sumF_Z (ws xs : List Int) : ∀ k, sumF ws (fun k => xs.getD k 0) k = sumZ ws xs k
  | 0 => rfl
  | k + 1 => by rw [sumF, sumZ, sumF_Z ws xs k]
/-- more light gives more flux -/
theorem sumF_le {ws : List Int} {x y : Nat → Int} (hw : ∀ k, k < ws.length → 0 ≤ ws.getD k 0) : ∀ n, n ≤ ws.length → (∀ k, k < n → x k ≤ y k) → sumF ws x n ≤ sumF ws y n
  | 0, _, _ => Int.le_refl _
  | n + 1, hn, h => by
    have h1 := sumF_le hw n (by omega) (fun k hk => h k (by omega))
    have h2 := Int.mul_le_mul_of_nonneg_left (h n (by omega)) (hw n (by omega))
    rw [sumF, sumF]
    omega

set_option maxRecDepth 100000 in
set_option maxHeartbeats 4000000 in
theorem zsum_any (A : Option Addr) (n c g : Nat) (ws : List Int) (x : Nat → Int) (lb : Array Value) (w : World) (eg : ∀ args w, (callFunc g args).run Tryz.prog w = .ok (.enter g args) w) (h1 : Ints w A n ws) (hn : n ≤ 1000)
    (hw : ∀ k, k < ws.length → 0 ≤ ws.getD k 0 ∧ ws.getD k 0 ≤ 1000) (hx : ∀ k, k < ws.length → -100000 ≤ x k ∧ x k ≤ 100000)
    (hp : ∀ k, k < n → ∀ W, Below w.heap.size w W → Calls Tryz.prog g (#[.int .i64 (k : Nat)] ++ lb) W fun e W' => e = .returned (.int .i64 (x k)) ∧ Below w.heap.size w W') :
    Calls Tryz.prog 36 #[.slice A n c, .func (.func g) #[] lb] w fun e w' => e = .returned (.int .i64 (sumF ws x n)) ∧ Below w.heap.size w w' := by
  have hl1 := h1.1
  have H1 := Lib.hid h1
  have Hp := Lib.hid hp
  have Hbd := Lib.hid (sumF_bd hw hx)
  have Hw := Lib.hid hw
  have Hx := Lib.hid hx
  clear h1 hw hx hp
  go_enter Tryz.func36, Tryz.ntmps36
  go_wp2_with fail
  go_loopw [5, 10] (fun s5 s6 wx => ∃ (i : Nat), i ≤ n ∧ s6 = .int .i64 (i : Nat) ∧ s5 = .int .i64 (sumF ws x i) ∧ Below w.heap.size w wx) (fun _ s6 _ => n - (intOf s6).toNat)
  case atStart => exact ⟨0, Nat.zero_le _, rfl, rfl, blA⟩
  case round =>
    obtain ⟨i, hi, rfl, rfl, hbw⟩ := hrel
    by_cases hin : i < n
    · obtain ⟨b, off, rfl, _, ca⟩ := H1.out.at0 hbw hin
      have hs : sumF ws x (i + 1) = sumF ws x i + ws.getD i 0 * x i := rfl
      obtain ⟨l1, l2⟩ := Hbd.out i (by omega)
      obtain ⟨l3, l4⟩ := Hbd.out (i + 1) (by omega)
      rw [hs] at l3 l4
      have Hs := Lib.hid hs
      have e1 := Hw.out i (by omega)
      have e2 := Hx.out i (by omega)
      have hcall := Hp.out i hin _ hbw
      generalize sumF ws x i = s at *
      generalize ws.getD i 0 = u at *
      generalize x i = v at *
      have m1 : u * v ≤ 1000 * 100000 := Int.le_trans (Int.mul_le_mul_of_nonneg_left e2.2 e1.1) (Int.mul_le_mul_of_nonneg_right e1.2 (by omega))
      have m2 : u * (-v) ≤ 1000 * 100000 := Int.le_trans (Int.mul_le_mul_of_nonneg_left (show -v ≤ 100000 by omega) e1.1) (Int.mul_le_mul_of_nonneg_right e1.2 (by omega))
      rw [Int.mul_neg] at m2
      have f1 : IntKind.i64.wrap (u * v) = u * v := IntWalk.i64_in _ (by omega)
      have f2 : IntKind.i64.wrap (s + u * v) = s + u * v := IntWalk.i64_in _ (by omega)
      clear l1 l2 l3 l4 hs m1 m2
      go_wp2_with (go_at_fn g; refine hcall.mono ?_; rintro e w' ⟨rfl, hb'⟩)
      go_roundw
      case rel => exact ⟨i + 1, by omega, by go_num, by rw [Hs.out], blA⟩
      case measure => simp [intOf]; omega
    · obtain rfl : i = n := by omega
      go_wp2_with fail
      go_ret
      exact ⟨rfl, blA⟩

set_option maxRecDepth 100000 in
set_option maxHeartbeats 2000000 in
theorem zfluxC_any (b k n : Nat) (A : Option Addr) (D : Nat) (zs : List Int) (w : World) (h : Ints w A n zs) (B1 : w.cell? ⟨b, 0, none⟩ = some (.slice A n D)) (hk : k < n) :
    Calls Tryz.prog 37 #[.int .i64 (k : Nat), .pointer (some ⟨b, 0, none⟩)] w fun e w' => e = .returned (.int .i64 (zs.getD k 0)) ∧ Below w.heap.size w w' := by
  obtain ⟨b1, o1, rfl, hlt, ci⟩ := h.at0 (Below.refl _ _) hk
  have g1 : (k : Int) < (n : Int) := by omega
  have hb : b < w.heap.size := World.block_lt_of_cell? w _ B1
  clear h
  generalize zs.getD k 0 = x at *
  go_enter Tryz.func37, Tryz.ntmps37
  go_wp2_with fail
  go_ret
  exact ⟨rfl, blA⟩

end Go.Proofs.YtminplfgadhnnaaGreatDoor
end

/- Walks of package zone: a table in memory; gaps, a list of (gap, its two places). -/
section
namespace Go.Proofs.YtminplfgadhnnaaGreatDoor
open Go.RowKit Go.Shelf
set_option linter.unusedSimpArgs false
set_option linter.unusedVariables false
open Zm
attribute [local go_sem] Oper.semAt_some

/-- a table in memory: its lamp, the bounds of its angles, those of its degrees -/
structure Tz (W : World) (g : Nat) (L : Array Value) (B D : Nat → Int × Int) : Prop where
  lt : g < W.heap.size
  hd : ∀ i, i < 4 → W.cell? ⟨g, i, none⟩ = L[i]?
  a0 : ∀ i, i < 11 → W.cell? ⟨g, 4 + i * 2, none⟩ = some (.int .i64 (B i).1)
  a1 : ∀ i, i < 11 → W.cell? ⟨g, 4 + i * 2 + 1, none⟩ = some (.int .i64 (B i).2)
  d0 : ∀ k, k < 91 → W.cell? ⟨g, 26 + k * 2, none⟩ = some (.int .i64 (D k).1)
  d1 : ∀ k, k < 91 → W.cell? ⟨g, 26 + k * 2 + 1, none⟩ = some (.int .i64 (D k).2)
  fz : ∀ i, W.frozen? ⟨g, i, none⟩ = false
section
variable {W W' : World} {g : Nat} {L : Array Value} {B D : Nat → Int × Int}
theorem Tz.of_heap (h : Tz W g L B D) (hs : W.heap.size ≤ W'.heap.size) (hb : W'.heap[g]? = W.heap[g]?) : Tz W' g L B D := by
  have hc : ∀ i, W'.cell? ⟨g, i, none⟩ = W.cell? ⟨g, i, none⟩ := fun i => by simp only [World.cell?, hb]
  exact ⟨Nat.lt_of_lt_of_le h.lt hs, fun i hi => (hc _).trans (h.hd i hi), fun i hi => (hc _).trans (h.a0 i hi), fun i hi => (hc _).trans (h.a1 i hi), fun i hi => (hc _).trans (h.d0 i hi), fun i hi => (hc _).trans (h.d1 i hi),
    fun i => by rw [← h.fz i]; simp only [World.frozen?, hb]⟩
theorem Tz.below (h : Tz W g L B D) (hb : Below W.heap.size W W') : Tz W' g L B D := h.of_heap hb.size (hb.block g h.lt)
theorem Tz.turns {O : Nat → Prop} (h : Tz W g L B D) (ht : Turns O W W') (hg : ¬ O g) : Tz W' g L B D := h.of_heap ht.size (ht.block g h.lt hg)
theorem Tz.drew (h : Tz W g L B D) : Tz W.drew g L B D := ⟨h.lt, h.hd, h.a0, h.a1, h.d0, h.d1, h.fz⟩
theorem Tz.other (h : Tz W g L B D) {p : Addr} (hp : g ≠ p.block) (v : Value) : Tz (W.setCell p v) g L B D := by
  have hc : ∀ i, (W.setCell p v).cell? ⟨g, i, none⟩ = W.cell? ⟨g, i, none⟩ := fun i => World.cell?_setCell_other _ _ _ _ (by intro e; apply hp; rw [e])
  exact ⟨by simpa [World.setCell] using h.lt, fun i hi => (hc _).trans (h.hd i hi), fun i hi => (hc _).trans (h.a0 i hi), fun i hi => (hc _).trans (h.a1 i hi), fun i hi => (hc _).trans (h.d0 i hi), fun i hi => (hc _).trans (h.d1 i hi),
    fun i => by rw [World.frozen?_setCell]; exact h.fz i⟩
theorem Tz.congr {B' D' : Nat → Int × Int} (h : Tz W g L B D) (hB : ∀ i, i < 11 → B i = B' i) (hD : ∀ k, k < 91 → D k = D' k) : Tz W g L B' D' :=
  ⟨h.lt, h.hd, fun i hi => by rw [← hB i hi]; exact h.a0 i hi, fun i hi => by rw [← hB i hi]; exact h.a1 i hi, fun i hi => by rw [← hD i hi]; exact h.d0 i hi, fun i hi => by rw [← hD i hi]; exact h.d1 i hi, h.fz⟩
/-- a store of a number -/
theorem Tz.set (h : Tz W g L B D) {q : Nat} {v : Int} {B' D' : Nat → Int × Int} (hq : 4 ≤ q) (hq2 : q < 208)
    (hB : ∀ i, i < 11 → (B' i).1 = (if 4 + i * 2 = q then v else (B i).1) ∧ (B' i).2 = (if 4 + i * 2 + 1 = q then v else (B i).2))
    (hD : ∀ i, i < 91 → (D' i).1 = (if 26 + i * 2 = q then v else (D i).1) ∧ (D' i).2 = (if 26 + i * 2 + 1 = q then v else (D i).2)) : Tz (W.setCell ⟨g, q, none⟩ (.int .i64 v)) g L B' D' := by
  have hs : (W.cell? ⟨g, q, none⟩).isSome = true := by
    rcases Nat.lt_or_ge q 26 with h1 | h1
    · obtain ⟨c, hc | hc⟩ : ∃ c, q = 4 + c * 2 ∨ q = 4 + c * 2 + 1 := ⟨(q - 4) / 2, by omega⟩
      · rw [show q = 4 + c * 2 by omega, h.a0 c (by omega)]; rfl
      · rw [show q = 4 + c * 2 + 1 by omega, h.a1 c (by omega)]; rfl
    · obtain ⟨c, hc | hc⟩ : ∃ c, q = 26 + c * 2 ∨ q = 26 + c * 2 + 1 := ⟨(q - 26) / 2, by omega⟩
      · rw [show q = 26 + c * 2 by omega, h.d0 c (by omega)]; rfl
      · rw [show q = 26 + c * 2 + 1 by omega, h.d1 c (by omega)]; rfl
  have same : (W.setCell ⟨g, q, none⟩ (.int .i64 v)).cell? ⟨g, q, none⟩ = some (.int .i64 v) := by
    obtain ⟨u, hu⟩ := Option.isSome_iff_exists.1 hs
    exact World.cell?_setCell_same' _ _ _ hs
  have other : ∀ i, i ≠ q → (W.setCell ⟨g, q, none⟩ (.int .i64 v)).cell? ⟨g, i, none⟩ = W.cell? ⟨g, i, none⟩ := fun i hi =>
    World.cell?_setCell_other _ _ _ _ (by intro e; injection e with _ e; exact hi e.symm)
  refine ⟨by simpa [World.setCell] using h.lt, fun i hi => by rw [other i (by omega)]; exact h.hd i hi, fun i hi => ?_, fun i hi => ?_, fun i hi => ?_, fun i hi => ?_, fun i => by rw [World.frozen?_setCell]; exact h.fz i⟩
  · rw [(hB i hi).1]
    split
    · rename_i e; rw [e]; exact same
    · rename_i e; rw [other _ e]; exact h.a0 i hi
  · rw [(hB i hi).2]
    split
    · rename_i e; rw [e]; exact same
    · rename_i e; rw [other _ e]; exact h.a1 i hi
  · rw [(hD i hi).1]
    split
    · rename_i e; rw [e]; exact same
    · rename_i e; rw [other _ e]; exact h.d0 i hi
  · rw [(hD i hi).2]
    split
    · rename_i e; rw [e]; exact same
    · rename_i e; rw [other _ e]; exact h.d1 i hi
end

theorem Bls.turns {w w' : World} {O : Nat → Prop} {A : Option Addr} {n : Nat} {zs : List Bool} (h : Bls w A n zs) (ht : Turns O w w') (hO : ∀ b off, 0 < n → A = some ⟨b, off, none⟩ → ¬ O b) : Bls w' A n zs := by
  refine ⟨h.1, fun hn => ?_⟩
  obtain ⟨b, off, rfl, hlt, hc⟩ := h.2 hn
  exact ⟨b, off, rfl, Nat.lt_of_lt_of_le hlt ht.size, fun i hi => (World.cell?_of_block (w := w) (a := ⟨b, off + i, none⟩) (ht.block b hlt (hO b off hn rfl))).trans (hc i hi)⟩

/-- what the iterator over gaps reads -/
structure Sg (W : World) (bx g : Nat) (A1 : Option Addr) (n1 c1 : Nat) (A2 : Option Addr) (n2 c2 : Nat) (A3 : Option Addr) (n3 c3 : Nat) (A4 : Option Addr) (n4 c4 : Nat) (an : List Int) (ls : List (Int × Int)) (fs : List Bool) (ws : List Int) : Prop where
  box : Cs W bx #[.pointer (some ⟨g, 0, none⟩)]
  c0 : W.cell? ⟨g, 0, none⟩ = some (.slice A1 n1 c1)
  c2 : W.cell? ⟨g, 2, none⟩ = some (.slice A3 n3 c3)
  h1 : Ints W A1 n1 an
  h3 : Bls W A3 n3 fs
theorem Sg.below {W W' : World} {bx g : Nat} (A1 : Option Addr) (n1 c1 : Nat) (A2 : Option Addr) (n2 c2 : Nat) (A3 : Option Addr) (n3 c3 : Nat) (A4 : Option Addr) (n4 c4 : Nat) (an : List Int) (ls : List (Int × Int)) (fs : List Bool) (ws : List Int) (h : Sg W bx g A1 n1 c1 A2 n2 c2 A3 n3 c3 A4 n4 c4 an ls fs ws) (hb : Below W.heap.size W W') : Sg W' bx g A1 n1 c1 A2 n2 c2 A3 n3 c3 A4 n4 c4 an ls fs ws :=
  ⟨h.box.keep hb, (hb.cell (p := ⟨g, 0, none⟩) (World.block_lt_of_cell? _ _ h.c0)).trans h.c0, (hb.cell (p := ⟨g, 2, none⟩) (World.block_lt_of_cell? _ _ h.c2)).trans h.c2, h.h1.below hb, h.h3.below hb⟩
/-- what the rounds of a range over gaps keep -/
def KpG (bx g : Nat) (A1 : Option Addr) (n1 c1 : Nat) (A2 : Option Addr) (n2 c2 : Nat) (A3 : Option Addr) (n3 c3 : Nat) (A4 : Option Addr) (n4 c4 : Nat) (an : List Int) (ls : List (Int × Int)) (fs : List Bool) (ws : List Int) (b : Nat) (W W' : World) : Prop := W.heap.size ≤ W'.heap.size ∧ (∀ i, i < W.heap.size → i ≠ g → i + 1 ≠ b → W'.heap[i]? = W.heap[i]?) ∧ (Sg W bx g A1 n1 c1 A2 n2 c2 A3 n3 c3 A4 n4 c4 an ls fs ws → Sg W' bx g A1 n1 c1 A2 n2 c2 A3 n3 c3 A4 n4 c4 an ls fs ws)
theorem KpG.trans {bx g : Nat} (A1 : Option Addr) (n1 c1 : Nat) (A2 : Option Addr) (n2 c2 : Nat) (A3 : Option Addr) (n3 c3 : Nat) (A4 : Option Addr) (n4 c4 : Nat) (an : List Int) (ls : List (Int × Int)) (fs : List Bool) (ws : List Int) {b : Nat} {X Y Z : World} (h : KpG bx g A1 n1 c1 A2 n2 c2 A3 n3 c3 A4 n4 c4 an ls fs ws b X Y) (k : KpG bx g A1 n1 c1 A2 n2 c2 A3 n3 c3 A4 n4 c4 an ls fs ws b Y Z) : KpG bx g A1 n1 c1 A2 n2 c2 A3 n3 c3 A4 n4 c4 an ls fs ws b X Z :=
  ⟨Nat.le_trans h.1 k.1, fun i hi h1 h2 => (k.2.1 i (Nat.lt_of_lt_of_le hi h.1) h1 h2).trans (h.2.1 i hi h1 h2), fun hs => k.2.2 (h.2.2 hs)⟩
/-- what is yielded of the gap i -/
def encG (an : List Int) (fs : List Bool) (i : Nat) : Array Value := #[.agg #[.int .i64 (hiG fs i : Nat), .int .i64 (loG fs i : Nat)], .agg #[.int .i64 (aN an i : Nat), .int .i64 (aN an (i + 1) : Nat)]]

theorem range_pre {k n : Nat} (h : k < n) : (List.range k ++ [k]) <+: List.range n := by
  rw [← List.range_succ]
  refine ⟨(List.range (n - (k + 1))).map (k + 1 + ·), ?_⟩
  rw [← List.range_add, show k + 1 + (n - (k + 1)) = n by omega]
/-- what a round of the iterator reads -/
def SG (bx g gp b1 o1 n1 c1 : Nat) (p r k : Nat) (y0 : Int) (a b : Nat) (U : World) : Prop :=
  U.cell? ⟨bx, 0, none⟩ = some (.pointer (some ⟨g, 0, none⟩)) ∧ U.cell? ⟨g, 0, none⟩ = some (.slice (some ⟨b1, o1, none⟩) n1 c1) ∧ U.cell? ⟨gp, 0, none⟩ = some (.int .i64 (p : Nat)) ∧ U.cell? ⟨gp, 1, none⟩ = some (.int .i64 (r : Nat)) ∧
    U.cell? ⟨b1, o1, none⟩ = some (.int .i64 y0) ∧ U.cell? ⟨b1, o1 + k, none⟩ = some (.int .i64 (y0 + (a : Nat))) ∧ U.cell? ⟨b1, o1 + (k + 1), none⟩ = some (.int .i64 (y0 + (b : Nat)))

set_option maxRecDepth 100000 in
set_option maxHeartbeats 4000000 in
theorem gaps_in (q : Nat) (hq : 1 ≤ q) (bx g : Nat) (A1 : Option Addr) (n1 c1 : Nat) (A2 : Option Addr) (n2 c2 : Nat) (A3 : Option Addr) (n3 c3 : Nat) (A4 : Option Addr) (n4 c4 : Nat) (an : List Int) (ls : List (Int × Int)) (fs : List Bool) (ws : List Int) (w : World) (hS : Sg w bx g A1 n1 c1 A2 n2 c2 A3 n3 c3 A4 n4 c4 an ls fs ws) (ho : LampOk an ls fs ws) (hn1 : n1 ≤ 10) :
    SeqAll Fence.wide q Tryz.prog 168 #[.pointer (some ⟨bx, 0, none⟩)] (encG an fs) (fun _ _ => False) (KpG bx g A1 n1 c1 A2 n2 c2 A3 n3 c3 A4 n4 c4 an ls fs ws) (List.range n3) (fun _ => True) w := by
  intro l J W hWb hJ hY hJ0
  refine callsIn_of_wp Tryz.func168 rfl trivial ?_ rfl
  simp only [Tryz.ntmps168, List.size_toArray, List.length_cons, List.length_nil, Nat.reduceAdd, Nat.reduceSub, Array.replicate_succ, Array.replicate_zero, List.push_toArray, List.append_toArray, List.nil_append, List.cons_append]
  have hS0 := hS.below _ _ _ _ _ _ _ _ _ _ _ _ _ _ _ _ hWb
  have hn3 : n3 + 1 = n1 := by have := ho.fsl; rw [hS.h3.1, hS.h1.1] at this; exact this
  have hgl : g < W.heap.size := World.block_lt_of_cell? _ _ hS0.c0
  have hbl : bx < W.heap.size := hS0.box.lt
  have HY := Lib.hid hY
  have HJ := Lib.hid hJ
  have HS := Lib.hid hS0
  have HO := Lib.hid ho
  have hl1 := hS.h1.1
  obtain ⟨z, hz⟩ : ∃ z, W.heap.size = z := ⟨_, rfl⟩
  have cB := hS0.box.c
  have cG := hS0.c0
  have cF := hS0.c2
  clear hY hJ hS hS0 ho
  gi_wp2_with fail
  clear cB cG cF
  gi_loopw [12] (fun s12 wr => ∃ (k : Nat) (WR : World), k ≤ n3 ∧ s12 = .int .i64 (k : Nat) ∧ Hid (WR = wr) ∧ W.heap.size ≤ WR.heap.size ∧ Hid (Sg WR bx g A1 n1 c1 A2 n2 c2 A3 n3 c3 A4 n4 c4 an ls fs ws) ∧ Hid (J (List.range k) WR)) (fun s12 _ => n3 - (intOf s12).toNat)
  case atStart => exact ⟨0, _, Nat.zero_le _, rfl, Lib.hid rfl, Nat.le_refl _, HS, Lib.hid hJ0⟩
  case round =>
    obtain ⟨k, WR, hk, rfl, HWR, hsz, HSR, HJR⟩ := hrel
    obtain rfl := HWR.out
    clear HWR HS
    by_cases hkm : k < n3
    · obtain ⟨b3, o3, rfl, hl3, cf⟩ := HSR.out.h3.at0 (Below.refl _ _) hkm
      have cB := HSR.out.box.c
      have cG := HSR.out.c0
      have cF := HSR.out.c2
      obtain ⟨b1, o1, rfl, hl1b, _⟩ := HSR.out.h1.at0 (Below.refl _ _) (show 0 < n1 by omega)
      obtain ⟨y0, hy0⟩ : ∃ y, an.getD 0 0 = y := ⟨_, rfl⟩
      have HSS : Hid (∀ (gp : Nat) (U : World), Sg U bx g (some ⟨b1, o1, none⟩) n1 c1 A2 n2 c2 (some ⟨b3, o3, none⟩) n3 c3 A4 n4 c4 an ls fs ws → Cs U gp #[.int .i64 (hiG fs k : Nat), .int .i64 (loG fs k : Nat)] → SG bx g gp b1 o1 n1 c1 (hiG fs k) (loG fs k) k y0 (aN an k) (aN an (k + 1)) U) := Lib.hid (fun gp U hs hc => by
        have e0 := hs.h1.cell0 0 (by omega)
        have e1 := hs.h1.cell0 k (by omega)
        have e2 := hs.h1.cell0 (k + 1) (by omega)
        rw [HO.out.aN_int (i := 0) (by omega), hy0, aN_zero] at e0
        rw [HO.out.aN_int (i := k) (by omega), hy0] at e1
        rw [HO.out.aN_int (i := k + 1) (by omega), hy0] at e2
        exact ⟨hs.box.c 0, hs.c0, hc.c 0, hc.c 1, by simpa using e0, e1, e2⟩)
      have hbd1 := HO.out.bd k (by omega)
      have hbd2 := HO.out.bd (k + 1) (by omega)
      rw [HO.out.aN_int (i := k) (by omega), hy0] at hbd1
      rw [HO.out.aN_int (i := k + 1) (by omega), hy0] at hbd2
      have hbd0 := HO.out.bd 0 (by omega)
      rw [hy0] at hbd0
      have HE : Hid (encG an fs k = #[.agg #[.int .i64 (hiG fs k : Nat), .int .i64 (loG fs k : Nat)], .agg #[.int .i64 (aN an k : Nat), .int .i64 (aN an (k + 1) : Nat)]]) := Lib.hid rfl
      generalize aN an k = pa at *
      generalize aN an (k + 1) = pb at *
      have hw1 : IntKind.i64.wrap (y0 + ((pa : Nat) : Int) - y0) = (pa : Nat) := by rw [IntWalk.i64_in _ (by omega)]; omega
      have hw2 : IntKind.i64.wrap (y0 + ((pb : Nat) : Int) - y0) = (pb : Nat) := by rw [IntWalk.i64_in _ (by omega)]; omega
      have hk1 : (k : Int) < (n1 : Int) := by omega
      have hk2 : (k : Int) + 1 < (n1 : Int) := by omega
      have hk3 : (0 : Int) < (n1 : Int) := by omega
      have hk3n : 0 < n1 := by omega
      have hw3 : IntKind.i64.wrap ((k : Int) + 1) = ((k + 1 : Nat) : Int) := by rw [IntWalk.i64_in _ (by omega)]; omega
      have hk4 : (0 : Int) ≤ ((k + 1 : Nat) : Int) := by omega
      have hk7 : (0 : Int) ≤ (k : Int) + 1 := by omega
      have hk5 : ((k + 1 : Nat) : Int) < (n1 : Int) := by omega
      have hk6 : ((k + 1 : Nat) : Int).toNat = k + 1 := Int.toNat_natCast _
      cases hf : fs.getD k false with
      | true =>
        rw [hf] at cf
        gi_wp2_with fail
        obtain ⟨W0, hW0⟩ : ∃ V, WR.alloc (.cells #[.int .i64 (k : Nat), .int .i64 (((k : Nat) : Int) + 1)] 219) = V := ⟨_, rfl⟩
        have hb0 : Below WR.heap.size WR W0 := by rw [← hW0]; exact blA
        have HX : Cs W0 WR.heap.size #[.int .i64 (hiG fs k : Nat), .int .i64 (loG fs k : Nat)] := by
          rw [← hW0, show hiG fs k = k by (unfold hiG; rw [hf]; rfl), show loG fs k = k + 1 by (unfold loG; rw [hf]; rfl)]
          exact Cs.new _ _ _ _ rfl
        rw [hW0]
        clear hW0 cB cG cF cf hf
        refine wpIn_region_seq (S := SG bx g WR.heap.size b1 o1 n1 c1 (hiG fs k) (loG fs k) k y0 pa pb) [.t 0 1, .t 1 3, .t 2 7, .t 3 15, .t 4 31, .t 5 63, .t 6 127, .t 7 255, .t 8 511, .t 9 1023, .t 10 2047, .t 11 4095, .t 12 8191, .t 13 16383, .t 14 32767, .t 15 65535, .t 16 131071, .t 17 262143, .t 18 524287, .t 19 1048575, .t 20 2097151, .t 21 4194303, .t 22 8388607, .t 23 16777215, .t 24 33554431, .t 25 67108863, .t 26 134217727, .t 27 268435455, .t 28 536870911, .t 29 1073741823, .t 30 2147483647, .t 31 4294967295, .t 32 8589934591, .t 33 17179869183, .t 34 34359738367, .t 35 68719476735, .o 36 137438953471, .o 37 274877906943] (by kernel_rfl) (by kernel_rfl) (by kernel_rfl) (by as_aux_lemma => kernel_rfl) (by kernel_rfl) (fun c a d v w h => by cases d <;> exact h) (HSS.out _ _ (HSR.out.below _ _ _ _ _ _ _ _ _ _ _ _ _ _ _ _ hb0.drew) HX) (fun _ => ?_)
        iterate 36 (refine seqIn_take (v := ?_) rfl (by rfl) (fun _ => rfl) ?_ ?_; rotate_left; focus (intro w9 hSw; obtain ⟨s1, s2, s3, s4, s5, s6, s7⟩ := hSw; (go_simp; (try simp only [hw1, hw2, hw3, hk1, hk3, hk3n, hk4, hk5, hk6, hk7, and_self, if_true, if_false]) <;> with_reducible rfl)); try simp only [Act.put, List.setIfInBounds_toArray, List.set_cons_zero, List.set_cons_succ])
        obtain ⟨fn, tmps, assign, body, hy, hR⟩ := HY.out (List.range k) k W0.drew (range_pre hkm) (HJ.out _ _ _ HJR.out (Turns.of_below hb0.drew))
        refine seqIn_one rfl (by rfl) ?_
        rw [HE.out] at hy
        go_simp
        refine hR.mono ?_
        rintro e W4 ⟨rfl, hJ4, hk4⟩
        have hS4 := hk4.2.2 (HSR.out.below _ _ _ _ _ _ _ _ _ _ _ _ _ _ _ _ hb0.drew)
        have hX4 : Cs W4 WR.heap.size #[.int .i64 (hiG fs k : Nat), .int .i64 (loG fs k : Nat)] := HX.drew.of_heap hk4.1 (hk4.2.1 _ HX.drew.lt (by omega) (by omega))
        refine ⟨HSS.out _ _ hS4 hX4, ?_⟩
        try simp only [Act.put, List.setIfInBounds_toArray, List.set_cons_zero, List.set_cons_succ]
        refine seqIn_one rfl (by rfl) ?_
        go_simp
        refine ⟨HSS.out _ _ hS4 hX4, ?_⟩
        try simp only [Act.put, List.setIfInBounds_toArray, List.set_cons_zero, List.set_cons_succ]
        refine seqIn_done ?_
        have hsz4 := hk4.1
        have hsz0 := hb0.size
        have hJ4' : J (List.range (k + 1)) W4 := by rw [List.range_succ]; exact hJ4
        clear HSS hX4 hk4 hJ4 hR hy HX hb0
        gi_wp2_with fail
        go_roundw
        case rel => exact ⟨k + 1, _, by omega, by go_num, Lib.hid rfl, by simp at hsz4; omega, Lib.hid hS4, Lib.hid hJ4'⟩
        case measure => simp [intOf]; omega
      | false =>
        rw [hf] at cf
        gi_wp2_with fail
        obtain ⟨W0, hW0⟩ : ∃ V, WR.alloc (.cells #[.int .i64 (((k : Nat) : Int) + 1), .int .i64 (k : Nat)] 219) = V := ⟨_, rfl⟩
        have hb0 : Below WR.heap.size WR W0 := by rw [← hW0]; exact blA
        have HX : Cs W0 WR.heap.size #[.int .i64 (hiG fs k : Nat), .int .i64 (loG fs k : Nat)] := by
          rw [← hW0, show hiG fs k = k + 1 by (unfold hiG; rw [hf]; rfl), show loG fs k = k by (unfold loG; rw [hf]; rfl)]
          exact Cs.new _ _ _ _ rfl
        rw [hW0]
        clear hW0 cB cG cF cf hf
        refine wpIn_region_seq (S := SG bx g WR.heap.size b1 o1 n1 c1 (hiG fs k) (loG fs k) k y0 pa pb) [.t 0 1, .t 1 3, .t 2 7, .t 3 15, .t 4 31, .t 5 63, .t 6 127, .t 7 255, .t 8 511, .t 9 1023, .t 10 2047, .t 11 4095, .t 12 8191, .t 13 16383, .t 14 32767, .t 15 65535, .t 16 131071, .t 17 262143, .t 18 524287, .t 19 1048575, .t 20 2097151, .t 21 4194303, .t 22 8388607, .t 23 16777215, .t 24 33554431, .t 25 67108863, .t 26 134217727, .t 27 268435455, .t 28 536870911, .t 29 1073741823, .t 30 2147483647, .t 31 4294967295, .t 32 8589934591, .t 33 17179869183, .t 34 34359738367, .t 35 68719476735, .o 36 137438953471, .o 37 274877906943] (by kernel_rfl) (by kernel_rfl) (by kernel_rfl) (by as_aux_lemma => kernel_rfl) (by kernel_rfl) (fun c a d v w h => by cases d <;> exact h) (HSS.out _ _ (HSR.out.below _ _ _ _ _ _ _ _ _ _ _ _ _ _ _ _ hb0.drew) HX) (fun _ => ?_)
        iterate 36 (refine seqIn_take (v := ?_) rfl (by rfl) (fun _ => rfl) ?_ ?_; rotate_left; focus (intro w9 hSw; obtain ⟨s1, s2, s3, s4, s5, s6, s7⟩ := hSw; (go_simp; (try simp only [hw1, hw2, hw3, hk1, hk3, hk3n, hk4, hk5, hk6, hk7, and_self, if_true, if_false]) <;> with_reducible rfl)); try simp only [Act.put, List.setIfInBounds_toArray, List.set_cons_zero, List.set_cons_succ])
        obtain ⟨fn, tmps, assign, body, hy, hR⟩ := HY.out (List.range k) k W0.drew (range_pre hkm) (HJ.out _ _ _ HJR.out (Turns.of_below hb0.drew))
        refine seqIn_one rfl (by rfl) ?_
        rw [HE.out] at hy
        go_simp
        refine hR.mono ?_
        rintro e W4 ⟨rfl, hJ4, hk4⟩
        have hS4 := hk4.2.2 (HSR.out.below _ _ _ _ _ _ _ _ _ _ _ _ _ _ _ _ hb0.drew)
        have hX4 : Cs W4 WR.heap.size #[.int .i64 (hiG fs k : Nat), .int .i64 (loG fs k : Nat)] := HX.drew.of_heap hk4.1 (hk4.2.1 _ HX.drew.lt (by omega) (by omega))
        refine ⟨HSS.out _ _ hS4 hX4, ?_⟩
        try simp only [Act.put, List.setIfInBounds_toArray, List.set_cons_zero, List.set_cons_succ]
        refine seqIn_one rfl (by rfl) ?_
        go_simp
        refine ⟨HSS.out _ _ hS4 hX4, ?_⟩
        try simp only [Act.put, List.setIfInBounds_toArray, List.set_cons_zero, List.set_cons_succ]
        refine seqIn_done ?_
        have hsz4 := hk4.1
        have hsz0 := hb0.size
        have hJ4' : J (List.range (k + 1)) W4 := by rw [List.range_succ]; exact hJ4
        clear HSS hX4 hk4 hJ4 hR hy HX hb0
        gi_wp2_with fail
        go_roundw
        case rel => exact ⟨k + 1, _, by omega, by go_num, Lib.hid rfl, by simp at hsz4; omega, Lib.hid hS4, Lib.hid hJ4'⟩
        case measure => simp [intOf]; omega
    · obtain rfl : n3 = k := by omega
      gi_wp2_with fail
      go_end0
      exact ⟨⟨_, rfl⟩, trivial, HJR.out⟩
end Go.Proofs.YtminplfgadhnnaaGreatDoor
end

/- A range over a table's gaps: the caller's law. -/
section
namespace Go.Proofs.YtminplfgadhnnaaGreatDoor
open Go.RowKit Go.Shelf
set_option linter.unusedSimpArgs false
set_option linter.unusedVariables false
open Zm

theorem pre_range {pre : List Nat} {x n : Nat} (h : (pre ++ [x]) <+: List.range n) : pre = List.range pre.length ∧ x = pre.length ∧ pre.length < n := by
  obtain ⟨t, ht⟩ := h
  have hl : pre.length < n := by
    have := congrArg List.length ht
    simp at this
    omega
  have hget : ∀ i, i < pre.length + 1 → (pre ++ [x])[i]? = some i := fun i hi => by
    have h1 : ((pre ++ [x]) ++ t)[i]? = (List.range n)[i]? := by rw [ht]
    rw [List.getElem?_append_left (by simpa using hi)] at h1
    rw [h1, List.getElem?_range (by omega)]
  refine ⟨List.ext_getElem? fun i => ?_, ?_, hl⟩
  · by_cases hi : i < pre.length
    · have := hget i (by omega)
      rw [List.getElem?_append_left hi] at this
      rw [this, List.getElem?_range hi]
    · rw [List.getElem?_eq_none (by omega), List.getElem?_eq_none (by simp; omega)]
  · have := hget pre.length (by omega)
    simpa using this

/-- how the body of a round over the gaps is left: it turns the table alone, and not its lamp -/
def postG (g : Nat) (I : Nat → World → Prop) (k : Nat) (W : World) : Exit → Act → World → Prop
  | .normal, _, W' => Turns (fun i => i = g) W W' ∧ (∀ i, i < 4 → W'.cell? ⟨g, i, none⟩ = W.cell? ⟨g, i, none⟩) ∧ I (k + 1) W'
  | _, _, _ => False

theorem Sg.keep {W W' : World} {bx g : Nat} (A1 : Option Addr) (n1 c1 : Nat) (A2 : Option Addr) (n2 c2 : Nat) (A3 : Option Addr) (n3 c3 : Nat) (A4 : Option Addr) (n4 c4 : Nat) (an : List Int) (ls : List (Int × Int)) (fs : List Bool) (ws : List Int) (h : Sg W bx g A1 n1 c1 A2 n2 c2 A3 n3 c3 A4 n4 c4 an ls fs ws) (ht : Turns (fun i => i = g) W W') (hc : ∀ i, i < 4 → W'.cell? ⟨g, i, none⟩ = W.cell? ⟨g, i, none⟩) (hbx : bx ≠ g) (h1 : ∀ b off, 0 < n1 → A1 = some ⟨b, off, none⟩ → b ≠ g) (h3 : ∀ b off, 0 < n3 → A3 = some ⟨b, off, none⟩ → b ≠ g) : Sg W' bx g A1 n1 c1 A2 n2 c2 A3 n3 c3 A4 n4 c4 an ls fs ws :=
  ⟨h.box.turns ht hbx, (hc 0 (by omega)).trans h.c0, (hc 2 (by omega)).trans h.c2, h.h1.turns ht h1, h.h3.turns ht h3⟩
theorem Sg.put {W : World} {bx g : Nat} (A1 : Option Addr) (n1 c1 : Nat) (A2 : Option Addr) (n2 c2 : Nat) (A3 : Option Addr) (n3 c3 : Nat) (A4 : Option Addr) (n4 c4 : Nat) (an : List Int) (ls : List (Int × Int)) (fs : List Bool) (ws : List Int) (h : Sg W bx g A1 n1 c1 A2 n2 c2 A3 n3 c3 A4 n4 c4 an ls fs ws) (l : Nat) (o : Obj) (hbx : bx ≠ l) (hg : g ≠ l) (h1 : ∀ b off, 0 < n1 → A1 = some ⟨b, off, none⟩ → b ≠ l) (h3 : ∀ b off, 0 < n3 → A3 = some ⟨b, off, none⟩ → b ≠ l) : Sg (W.putObj l o) bx g A1 n1 c1 A2 n2 c2 A3 n3 c3 A4 n4 c4 an ls fs ws := by
  have ht : Turns (fun i => i = l) W (W.putObj l o) := Turns.putObj o rfl
  have hc : ∀ i, (W.putObj l o).cell? ⟨g, i, none⟩ = W.cell? ⟨g, i, none⟩ := fun i => by
    have : (W.putObj l o).heap[g]? = W.heap[g]? := World.putObj_heap_other hg
    simp only [World.cell?, this]
  exact ⟨h.box.turns ht hbx, (hc 0).trans h.c0, (hc 2).trans h.c2, h.h1.turns ht h1, h.h3.turns ht h3⟩

theorem range_gaps {q : Nat} (hq : 6 ≤ q) {gop : Operand} {ps : Array Tmp} {assign body : Code} {Q : Exit → Act → World → Prop} {a : Act} {w : World}
    (bx g : Nat) (A1 : Option Addr) (n1 c1 : Nat) (A2 : Option Addr) (n2 c2 : Nat) (A3 : Option Addr) (n3 c3 : Nat) (A4 : Option Addr) (n4 c4 : Nat) (an : List Int) (ls : List (Int × Int)) (fs : List Bool) (ws : List Int) (hS : Sg w bx g A1 n1 c1 A2 n2 c2 A3 n3 c3 A4 n4 c4 an ls fs ws) (ho : LampOk an ls fs ws) (hn1 : n1 ≤ 10) (hbx : bx ≠ g) (h1 : ∀ b off, 0 < n1 → A1 = some ⟨b, off, none⟩ → b ≠ g) (h3 : ∀ b off, 0 < n3 → A3 = some ⟨b, off, none⟩ → b ≠ g)
    (hgo : a.eval gop = .func (.func 168) #[] #[.pointer (some ⟨bx, 0, none⟩)]) (hps : ps.size = 2)
    (I : Nat → World → Prop) (hI : ∀ k W W', I k W → Turns (fun i => i = w.heap.size + 1) W W' → I k W') (h0 : I 0 w)
    (Ax : Nat → Act → World → Prop) (hAx : ∀ k a' W W', Ax k a' W → Turns (fun i => i = w.heap.size + 1) W W' → Ax k a' W')
    (hassign : ∀ (l k : Nat) (W : World) (K : Act → World → Prop), k < n3 → I k W → w.heap.size + 2 ≤ W.heap.size →
      (∀ a' W1, Turns (fun _ => False) W W1 → Ax k a' W1 → K a' W1) →
      assign.wpIn (Fence.wide.inRound l) (q - 1 - 1) Tryz.prog (Exit.then K (fun _ _ _ => False)) { tmps := (ps.zip (encG an fs k)).foldl (fun t (p, v) => t.setIfInBounds p v) a.tmps, defers := [] } W)
    (hbody : ∀ (l k : Nat) (a' : Act) (W : World), k < n3 → Ax k a' W → w.heap.size + 2 ≤ W.heap.size → body.wpIn (Fence.wide.inRound l) (q - 1 - 1) Tryz.prog (postG g I k W) a' W)
    (hdone : ∀ (W : World), I n3 W → W.heap[w.heap.size]? = some (.deferred (some [])) → Q .normal { a with defers := { target := .collected w.heap.size, args := #[] } :: a.defers } W) :
    (Code.rangeFunc gop ps assign body).wpIn Fence.wide q Tryz.prog Q a w := by
  have lg : g < w.heap.size := World.block_lt_of_cell? _ _ hS.c0
  have lbx := hS.box.lt
  have l1 : ∀ b off, 0 < n1 → A1 = some ⟨b, off, none⟩ → b < w.heap.size := fun b off hn e => by
    obtain ⟨b', off', e', hl, _⟩ := hS.h1.2 hn
    rw [e] at e'; injection e' with e'; injection e' with e'; omega
  have l3 : ∀ b off, 0 < n3 → A3 = some ⟨b, off, none⟩ → b < w.heap.size := fun b off hn e => by
    obtain ⟨b', off', e', hl, _⟩ := hS.h3.2 hn
    rw [e] at e'; injection e' with e'; injection e' with e'; omega
  refine wpIn_rangeAll rfl (by omega) (gf := 168) (lb := #[.pointer (some ⟨bx, 0, none⟩)]) hgo trivial (enters_of Tryz.func168 (by kernel_rfl) rfl)
    (gaps_in (q - 1) (by omega) bx g _ _ _ _ _ _ _ _ _ _ _ _ _ _ _ _ w hS ho hn1)
    (fun i hi => hi.elim) (fun h1 h2 => h1.trans _ _ _ _ _ _ _ _ _ _ _ _ _ _ _ _ h2)
    (fun W o' => ⟨by simp, fun i _ _ hi => World.putObj_heap_other (by omega), fun hs => hs.put _ _ _ _ _ _ _ _ _ _ _ _ _ _ _ _ _ o' (by omega) (by omega) (fun b off hn e => by have := l1 b off hn e; omega) (fun b off hn e => by have := l3 b off hn e; omega)⟩)
    (fun W o' h => trivial) (Below.refl _ _) (fun x => hps.symm ▸ rfl)
    (fun pre W => I pre.length W) (fun pre W W' h ht => hI _ W W' h (ht.mono fun i hi => hi.elim (fun h => h.elim) id)) h0
    (fun pre x a' W => x < n3 ∧ x = pre.length ∧ Ax x a' W) (fun pre x a' W o' h => ⟨h.1, h.2.1, hAx _ _ _ _ h.2.2 (Turns.putObj o' rfl)⟩)
    ?assign ?body ?done
  case assign =>
    intro l pre x W K hpx hi hW hK
    obtain ⟨p1, p2, p3⟩ := pre_range hpx
    subst p2
    exact hassign l pre.length W K p3 hi hW fun a' W1 ht ha => hK a' W1 (Keeps2.of_turns ht id id (by omega)) ⟨ht.size, fun i hi _ _ => ht.block i hi id, fun hs => hs.below _ _ _ _ _ _ _ _ _ _ _ _ _ _ _ _ ⟨ht.os, ht.tape, ht.output, ht.size, fun i hi => ht.block i hi id⟩⟩ ⟨p3, rfl, ha⟩
  case body =>
    rintro l pre x a' W hpx ⟨hx, rfl, ha⟩ hW
    refine wpIn_mono (hbody l pre.length a' W hx ha hW) ?_
    intro e a3 W3 hp
    cases e with
    | normal =>
      obtain ⟨ht, hc, hi⟩ := hp
      exact ⟨Keeps2.of_turns ht (by omega) (by omega) (by omega), ⟨ht.size, fun i hi h1 _ => ht.block i hi h1, fun hs => hs.keep _ _ _ _ _ _ _ _ _ _ _ _ _ _ _ _ ht hc hbx h1 h3⟩, by show I (pre ++ [pre.length]).length W3; rw [List.length_append]; exact hi⟩
    | ret => exact hp.elim
    | exit id => exact hp.elim
    | goto t => exact hp.elim
    | panic ch => exact hp.elim
    | outgrown => exact hp.elim
  case done =>
    intro W _ hi hD
    have hi' : I (List.range n3).length W := hi
    rw [List.length_range] at hi'
    exact hdone W hi' hD
end Go.Proofs.YtminplfgadhnnaaGreatDoor
end

/- Walks of package zone: gaps, low, high; marks of loops over functions. -/
section
namespace Go.Proofs.YtminplfgadhnnaaGreatDoor
open Go.RowKit Go.Shelf
set_option linter.unusedSimpArgs false
set_option linter.unusedVariables false
open Zm

set_option maxRecDepth 100000 in
theorem gapsF_any (g : Nat) (w : World) : Calls Tryz.prog 163 #[.pointer (some ⟨g, 0, none⟩)] w fun e w' => e = .returned (.func (.func 168) #[] #[.pointer (some ⟨w.heap.size, 0, none⟩)]) ∧ Cs w' w.heap.size #[.pointer (some ⟨g, 0, none⟩)] ∧ Below w.heap.size w w' := by
  go_enter Tryz.func163, Tryz.ntmps163
  go_wp2_with fail
  go_ret
  exact ⟨rfl, csA, blA⟩

set_option maxRecDepth 100000 in
set_option maxHeartbeats 1000000 in
theorem low_any (g k : Nat) (L : Array Value) (B D : Nat → Int × Int) (w : World) (h : Tz w g L B D) (hk : k < 91) :
    Calls Tryz.prog 96 #[.pointer (some ⟨g, 0, none⟩), .int .i64 (k : Nat)] w fun e w' => e = .returned (.int .i64 (D k).1) ∧ Below w.heap.size w w' := by
  have c0 := h.d0 k hk
  have g1 : (k : Int) < 91 := by omega
  generalize (D k).1 = y at *
  clear h
  go_enter Tryz.func96, Tryz.ntmps96
  go_wp2_with fail
  go_ret
  exact ⟨rfl, blA⟩
set_option maxRecDepth 100000 in
set_option maxHeartbeats 1000000 in
theorem high_any (g k : Nat) (L : Array Value) (B D : Nat → Int × Int) (w : World) (h : Tz w g L B D) (hk : k < 91) :
    Calls Tryz.prog 97 #[.pointer (some ⟨g, 0, none⟩), .int .i64 (k : Nat)] w fun e w' => e = .returned (.int .i64 (D k).2) ∧ Below w.heap.size w w' := by
  have c0 := h.d1 k hk
  have g1 : (k : Int) < 91 := by omega
  generalize (D k).2 = y at *
  clear h
  go_enter Tryz.func97, Tryz.ntmps97
  go_wp2_with fail
  go_ret
  exact ⟨rfl, blA⟩

/-- marks of loops over functions that are over: blocks from B on, each its own, with no deferred calls -/
structure Marks (B : Nat) (ds : List Deferred) (W : World) : Prop where
  at_ : ∀ d ∈ ds, ∃ r, d.target = .collected r ∧ B ≤ r ∧ W.heap[r]? = some (.deferred (some []))
  nd : (ds.map (·.target)).Nodup
theorem Marks.nil (B : Nat) (W : World) : Marks B [] W := ⟨fun _ h => (by cases h), List.nodup_nil⟩
theorem Marks.turns {O : Nat → Prop} {B : Nat} {ds : List Deferred} {W W' : World} (h : Marks B ds W) (ht : Turns O W W') (hO : ∀ r, O r → ∀ d ∈ ds, d.target ≠ .collected r) : Marks B ds W' :=
  ⟨fun d hd => by
    obtain ⟨r, e, hr, hh⟩ := h.at_ d hd
    exact ⟨r, e, hr, (ht.block r (Array.getElem?_eq_some_iff.1 hh).1 (fun ho => hO r ho d hd e)).trans hh⟩, h.nd⟩
theorem Marks.lt {B : Nat} {ds : List Deferred} {W : World} (h : Marks B ds W) : ∀ d ∈ ds, ∀ r, d.target = .collected r → B ≤ r ∧ r < W.heap.size := fun d hd r e => by
  obtain ⟨r', e', hr, hh⟩ := h.at_ d hd
  rw [e] at e'
  injection e' with e'
  subst e'
  exact ⟨hr, (Array.getElem?_eq_some_iff.1 hh).1⟩
theorem Marks.cons {B r : Nat} {ds : List Deferred} {W : World} {a : Array Value} (h : Marks B ds W) (hr : B ≤ r) (hh : W.heap[r]? = some (.deferred (some []))) (hn : ∀ d ∈ ds, d.target ≠ .collected r) : Marks B ({ target := .collected r, args := a } :: ds) W :=
  ⟨fun d hd => by
    rcases List.mem_cons.1 hd with rfl | hd
    · exact ⟨r, rfl, hr, hh⟩
    · exact h.at_ d hd, by
    rw [List.map_cons, List.nodup_cons]
    exact ⟨fun hm => by obtain ⟨d, hd, e⟩ := List.mem_map.1 hm; exact hn d hd e, h.nd⟩⟩
/-- a function leaves with such marks -/
theorem Marks.leave {F : Fence} {n B : Nat} {P : Program} {fn : Func} {tmps : Array Value} {R : Ending → World → Prop} : ∀ (ds : List Deferred) (W : World), Marks B ds W →
    (∀ W', Turns (fun i => B ≤ i) W W' → LeavesIn F n P fn tmps R [] .returning W') → LeavesInM F n P fn tmps R ds .returning W
  | [], W, _, hR => hR W (Turns.refl _ _)
  | d :: ds, W, h, hR => by
    obtain ⟨r, e, hr, hh⟩ := h.at_ d List.mem_cons_self
    have hn := h.nd
    rw [List.map_cons, List.nodup_cons] at hn
    have ht : Turns (fun i => B ≤ i) W (W.putObj r (.deferred none)) := Turns.putObj _ hr
    have h2 : Marks B ds W := ⟨fun d' hd' => h.at_ d' (List.mem_cons_of_mem _ hd'), hn.2⟩
    have h3 : Marks B ds (W.putObj r (.deferred none)) := h2.turns (O := fun i => i = r) (Turns.putObj _ rfl) (fun r' hr' d' hd' e' => by
      subst hr'
      exact hn.1 (List.mem_map.2 ⟨d', hd', by rw [e', e]⟩))
    exact ⟨by simp, .inl ⟨r, _, e, run_takeDeferred hh, Marks.leave ds _ h3 fun W' ht' => hR W' (ht.trans ht')⟩⟩
end Go.Proofs.YtminplfgadhnnaaGreatDoor
end

/- Arrays of ranges: loads, copies, and comparing them. -/
section
namespace Go.Proofs.YtminplfgadhnnaaGreatDoor
open Go.RowKit Go.Shelf
set_option linter.unusedSimpArgs false
set_option linter.unusedVariables false
open Zm

/-- the bounds of all angles, as one value -/
def angA (B : Nat → Int × Int) : Array Value := ((List.range 11).flatMap fun i => [.int .i64 (B i).1, .int .i64 (B i).2]).toArray
theorem angA_list (B : Nat → Int × Int) : (angA B).toList = [.int .i64 (B 0).1, .int .i64 (B 0).2, .int .i64 (B 1).1, .int .i64 (B 1).2, .int .i64 (B 2).1, .int .i64 (B 2).2, .int .i64 (B 3).1, .int .i64 (B 3).2, .int .i64 (B 4).1, .int .i64 (B 4).2, .int .i64 (B 5).1, .int .i64 (B 5).2, .int .i64 (B 6).1, .int .i64 (B 6).2, .int .i64 (B 7).1, .int .i64 (B 7).2, .int .i64 (B 8).1, .int .i64 (B 8).2, .int .i64 (B 9).1, .int .i64 (B 9).2, .int .i64 (B 10).1, .int .i64 (B 10).2] := rfl
theorem angA_size (B : Nat → Int × Int) : (angA B).size = 22 := rfl
theorem angA_get (B : Nat → Int × Int) {i : Nat} (hi : i < 11) : (angA B)[i * 2]? = some (.int .i64 (B i).1) ∧ (angA B)[i * 2 + 1]? = some (.int .i64 (B i).2) := by
  match i, hi with
  | 0, _ => exact ⟨rfl, rfl⟩
  | 1, _ => exact ⟨rfl, rfl⟩
  | 2, _ => exact ⟨rfl, rfl⟩
  | 3, _ => exact ⟨rfl, rfl⟩
  | 4, _ => exact ⟨rfl, rfl⟩
  | 5, _ => exact ⟨rfl, rfl⟩
  | 6, _ => exact ⟨rfl, rfl⟩
  | 7, _ => exact ⟨rfl, rfl⟩
  | 8, _ => exact ⟨rfl, rfl⟩
  | 9, _ => exact ⟨rfl, rfl⟩
  | 10, _ => exact ⟨rfl, rfl⟩
theorem angA_at (B : Nat → Int × Int) (j : Nat) (v : Value) (h : (angA B).toList[j]? = some v) : ∃ i, i < 11 ∧ ((j = i * 2 ∧ v = .int .i64 (B i).1) ∨ (j = i * 2 + 1 ∧ v = .int .i64 (B i).2)) := by
  have hj : j < 22 := by have := (List.getElem?_eq_some_iff.1 h).1; simpa [angA_size] using this
  rw [Array.getElem?_toList] at h
  obtain ⟨i, hi⟩ : ∃ i, j = i * 2 ∨ j = i * 2 + 1 := ⟨j / 2, by omega⟩
  rcases hi with rfl | rfl
  · rw [(angA_get B (i := i) (by omega)).1] at h
    injection h with h
    exact ⟨i, by omega, .inl ⟨rfl, h.symm⟩⟩
  · rw [(angA_get B (i := i) (by omega)).2] at h
    injection h with h
    exact ⟨i, by omega, .inr ⟨rfl, h.symm⟩⟩
theorem bndT_under : Tryz.prog.underlying 145 = some (.array 11 32) := by kernel_rfl
theorem bndT_size : (Tryz.prog.info? 145).map (·.size) = some 22 := by kernel_rfl
/-- the bounds of a table, loaded -/
theorem load_ang {W : World} {g : Nat} {L : Array Value} {B D : Nat → Int × Int} (h : Tz W g L B D) : (loadVar 145 ⟨g, 4, none⟩).run Tryz.prog W = .ok (.agg (angA B)) W := by
  have hl : (loadCells ⟨g, 4, none⟩ (angA B).toList.length).run Tryz.prog W = .ok (angA B).toList.toArray W :=
    run_loadCells_list (P := Tryz.prog) W ⟨g, 4, none⟩ (angA B).toList (fun j v hv => by
      rw [Go.WideShapes.add_plain]
      obtain ⟨i, hi, ⟨rfl, rfl⟩ | ⟨rfl, rfl⟩⟩ := angA_at B j v hv
      · exact h.a0 i hi
      · exact h.a1 i hi)
  obtain ⟨i, hi, hs⟩ := Option.map_eq_some_iff.1 bndT_size
  have hagg : (isAgg 145).run Tryz.prog W = .ok true W := by
    unfold isAgg
    rw [Sem.run_bind, run_underlying bndT_under W]
    rfl
  simp only [Array.length_toList, Array.toArray_toList, angA_size] at hl
  simp [loadVar, Sem.run_bind, hagg, sizeOf, typeInfo, hi, hs, hl]
theorem wpListIn_load_at {F : Fence} {n : Nat} {P : Program} {ops : Array Oper} {rest : List Oper} {o : Oper} {a : Act} {w : World} {Q : Exit → Act → World → Prop} (hgd : o.guard = none) (ty : TypeId) (x : Operand) (ho : o.op = .load ty x)
    (p : Addr) (hx : a.eval x = .pointer (some p)) (v : Value) (hl : (loadVar ty p).run P w = .ok v w)
    (h : wpListIn F n P ops Q rest (a.put o.dst v) w) : wpListIn F n P ops Q (o :: rest) a w := by
  refine wpListIn_plain hgd fun K hK => ?_
  refine ⟨fun f hf => (by simp [Oper.about, ho] at hf), ?_⟩
  rw [Oper.semAt_eq _ _ _ (fun c => by rw [ho]; simp)]
  unfold execOp
  simp only [ho, hx, Instr.loadAt, Instr.sureAddr, Sem.run_bind, Sem.run_pure, Result.andThen_ok, hl]
  exact hK _ _ h
theorem exec_load_at {P : Program} {o : Oper} {ρ : Operand → Value} {w : World} (ty : TypeId) (x : Operand) (ho : o.op = .load ty x) (p : Addr) (hx : ρ x = .pointer (some p)) (v : Value) (hl : (loadVar ty p).run P w = .ok v w) : (execOp ρ o).run P w = .ok (.value v) w := by
  unfold execOp
  simp only [ho, hx, Instr.loadAt, Instr.sureAddr, Sem.run_bind, Sem.run_pure, Result.andThen_ok, hl]
theorem angA_one (B : Nat → Int × Int) : (angA B).all (·.oneCell') = true := by
  rw [← Array.all_toList, angA_list]; rfl
/-- the bounds, stored into a new block -/
theorem ang_new (B : Nat → Int × Int) (w : World) (c : Array Value) (hc : c.size = 22) : (storeCells ⟨w.heap.size, 0, none⟩ (angA B).toList).run Tryz.prog (w.alloc (.cells c 145)) = .ok () (w.alloc (.cells (angA B) 145)) :=
  run_storeCells_new w _ _ _ (by rw [bndT_size, angA_size]) (by rw [hc, angA_size]) (angA_one B)

theorem rng_eq (a b a' b' : Int) (w : World) : (Op.equalIn 9999 32 (.agg #[.int .i64 a, .int .i64 b]) (.agg #[.int .i64 a', .int .i64 b'])).run Tryz.prog w = .ok (a == a' && b == b') w := by
  simp [go_sem]
  by_cases h1 : a = a' <;> by_cases h2 : b = b' <;> simp [h1, h2]
theorem part_ang (B : Nat → Int × Int) (w : World) {i : Nat} (hi : i < 11) : (part 32 (angA B) (i * 2)).run Tryz.prog w = .ok (.agg #[.int .i64 (B i).1, .int .i64 (B i).2]) w := by
  match i, hi with
  | 0, _ => simp [go_sem]; rfl
  | 1, _ => simp [go_sem]; rfl
  | 2, _ => simp [go_sem]; rfl
  | 3, _ => simp [go_sem]; rfl
  | 4, _ => simp [go_sem]; rfl
  | 5, _ => simp [go_sem]; rfl
  | 6, _ => simp [go_sem]; rfl
  | 7, _ => simp [go_sem]; rfl
  | 8, _ => simp [go_sem]; rfl
  | 9, _ => simp [go_sem]; rfl
  | 10, _ => simp [go_sem]; rfl
theorem eqItems_ang (B C : Nat → Int × Int) (w : World) : ∀ is : List Nat, (∀ i ∈ is, i < 11) → (Op.eqItems 9999 32 2 (angA B) (angA C) is).run Tryz.prog w = .ok (is.all fun i => B i == C i) w
  | [], _ => by simp [Op.eqItems]
  | i :: is, h => by
    have hi := h i List.mem_cons_self
    have ih := eqItems_ang B C w is (fun j hj => h j (List.mem_cons_of_mem _ hj))
    have e : (B i == C i) = ((B i).1 == (C i).1 && (B i).2 == (C i).2) := by
      rw [Bool.eq_iff_iff]; simp [Prod.ext_iff]
    simp only [Op.eqItems, Sem.run_bind, part_ang B w hi, part_ang C w hi, rng_eq, Result.andThen_ok, List.all_cons, e]
    cases hq : ((B i).1 == (C i).1 && (B i).2 == (C i).2) with
    | true => simp [ih]
    | false => simp
/-- are two tables' bounds equal -/
def eqAng (B C : Nat → Int × Int) : Bool := (List.range 11).all fun i => B i == C i
theorem ang_eq (B C : Nat → Int × Int) (w : World) : (Op.equalIn 10000 145 (.agg (angA B)) (.agg (angA C))).run Tryz.prog w = .ok (eqAng B C) w := by
  have hT : ∃ i, Tryz.prog.info? 32 = some i := by
    have h : (Tryz.prog.info? 32).isSome = true := by kernel_rfl
    exact Option.isSome_iff_exists.1 h
  obtain ⟨i, hi⟩ := hT
  rw [show (10000 : Nat) = 9999 + 1 from rfl, run_equalIn_array w 9999 _ _ bndT_under hi]
  rw [show Tryz.prog.cellsOf 32 = 2 by kernel_rfl, eqItems_ang B C w (List.range 11) (fun i h => List.mem_range.1 h)]
  rfl
theorem eqAng_no {B C : Nat → Int × Int} (h : eqAng B C = false) : ∃ i, i < 11 ∧ B i ≠ C i := by
  unfold eqAng at h
  rw [List.all_eq_false] at h
  obtain ⟨i, hi, hn⟩ := h
  exact ⟨i, List.mem_range.1 hi, by simpa using hn⟩
end Go.Proofs.YtminplfgadhnnaaGreatDoor
end
