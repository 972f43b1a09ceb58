/- ZA2 -/
import Derived.Test.YtminplfgadhnnaaGreatDoorTZ02
/- Walks of package zone: CheckLamp, and the reference's. -/
section
namespace Go.Proofs.YtminplfgadhnnaaGreatDoor
open Go.RowKit Go.Shelf
set_option linter.unusedSimpArgs false
set_option linter.unusedVariables false
open Zm

/-- the angle before -/
def pvZ (an : List Int) (i : Nat) : Int := if i = 0 then -1 else an.getD (i - 1) 0
theorem chk_6 {an : List Int} {ls : List (Int × Int)} {fs : List Bool} {ws : List Int} (h : an.length < 2 ∨ 10 < an.length) : chkZ an ls fs ws = 6 := by unfold chkZ; rw [if_pos h]
theorem chk_2 {an : List Int} {ls : List (Int × Int)} {fs : List Bool} {ws : List Int} (h : ¬ (an.length < 2 ∨ 10 < an.length)) (hi : incB (-1) an = false) : chkZ an ls fs ws = 2 := by unfold chkZ; rw [if_neg h, if_pos hi]
theorem chk_15 {an : List Int} {ls : List (Int × Int)} {fs : List Bool} {ws : List Int} (h : ¬ (an.length < 2 ∨ 10 < an.length)) (hi : incB (-1) an = true) (h2 : ls.length ≠ an.length ∨ fs.length + 1 ≠ an.length ∨ (ws.length : Int) ≠ an.getD (an.length - 1) 0 - an.getD 0 0 + 1) : chkZ an ls fs ws = 15 := by
  unfold chkZ; rw [if_neg h, hi, if_neg (by decide), if_pos h2]
theorem chk_last {an : List Int} {ls : List (Int × Int)} {fs : List Bool} {ws : List Int} (h : ¬ (an.length < 2 ∨ 10 < an.length)) (hi : incB (-1) an = true) (h2 : ¬ (ls.length ≠ an.length ∨ fs.length + 1 ≠ an.length ∨ (ws.length : Int) ≠ an.getD (an.length - 1) 0 - an.getD 0 0 + 1)) :
    chkZ an ls fs ws = if ls.all (rgZ 200) = false ∨ ws.all wtZ = false then 2 else 0 := by
  unfold chkZ; rw [if_neg h, hi, if_neg (by decide), if_neg h2]

set_option maxRecDepth 100000 in
set_option maxHeartbeats 8000000 in
theorem zcheck_any (A1 : Option Addr) (n1 c1 : Nat) (A2 : Option Addr) (n2 c2 : Nat) (A3 : Option Addr) (n3 c3 : Nat) (A4 : Option Addr) (n4 c4 : Nat) (an : List Int) (ls : List (Int × Int)) (fs : List Bool) (ws : List Int) (w : World) (h : Lmp w A1 n1 c1 A2 n2 c2 A3 n3 c3 A4 n4 c4 an ls fs ws) :
    Calls Tryz.prog 48 #[.agg #[.slice A1 n1 c1, .slice A2 n2 c2, .slice A3 n3 c3, .slice A4 n4 c4]] w fun e w' => e = .returned (.int .i64 (chkZ an ls fs ws)) ∧ Below w.heap.size w w' := by
  have hl1 := h.h1.1
  have hl2 := h.h2.1
  have hl3 := h.h3.1
  have hl4 := h.h4.1
  by_cases a1 : n1 < 2
  · rw [chk_6 (.inl (by omega))]
    have b1 : (n1 : Int) < 2 := by omega
    clear h
    go_enter Tryz.func48, Tryz.ntmps48
    go_wp2_with fail
    go_ret
    exact ⟨rfl, blA⟩
  by_cases a2 : 10 < n1
  · rw [chk_6 (.inr (by omega))]
    have b1 : ¬ (n1 : Int) < 2 := by omega
    have b2 : (10 : Int) < (n1 : Int) := by omega
    clear h
    go_enter Tryz.func48, Tryz.ntmps48
    go_wp2_with fail
    go_ret
    exact ⟨rfl, blA⟩
  have hn : ¬ (an.length < 2 ∨ 10 < an.length) := by omega
  have kw := fun (W : World) (hb : Below w.heap.size w W) => zwithin_any 200 A2 n2 c2 ls W (h.h2.below hb) h.m2.1
  have kc := fun (W : World) (hb : Below w.heap.size w W) => containsInts_any A4 n4 c4 106 ws #[] (fun x => !wtZ x) W
    (enters_of Tryz.func106 (by kernel_rfl) rfl) (h.h4.below hb) h.m4.1 (fun x _ V hV => (zcheckC_any x V).mono fun e W' ⟨he, hb⟩ => ⟨he, hV.trans (hb.mono hV.size)⟩)
  have H2 := Lib.hid (fun (hi : incB (-1) an = false) => chk_2 (ls := ls) (fs := fs) (ws := ws) hn hi)
  have H15 := Lib.hid (fun (hi : incB (-1) an = true) => chk_15 (ls := ls) (fs := fs) (ws := ws) hn hi)
  have HL := Lib.hid (fun (hi : incB (-1) an = true) => chk_last (ls := ls) (fs := fs) (ws := ws) hn hi)
  rw [hl1, hl2, hl3, hl4] at H15 HL
  have Hbd := Lib.hid (inc_ok (-1) an)
  rw [show (ws.any fun x => !wtZ x) = !ws.all wtZ by rw [List.not_all_eq_any_not]] at kc
  generalize chkZ an ls fs ws = q at *
  obtain ⟨r, hr⟩ : ∃ r, incB (-1) an = r := ⟨_, rfl⟩
  have Hr : Hid (incB (-1) an = r) := Lib.hid hr
  generalize ls.all (rgZ 200) = u at *
  generalize ws.all wtZ = v at *
  have Hz := Lib.hid h.h1
  have b1 : ¬ (n1 : Int) < 2 := by omega
  have b2 : ¬ (10 : Int) < (n1 : Int) := by omega
  have hn1 : n1 ≤ 10 ∧ 2 ≤ n1 := by omega
  have hm3 := h.m3.1
  clear h hn a1 a2
  go_enter Tryz.func48, Tryz.ntmps48
  have B1 : Cs (w.alloc (.cells #[.slice A1 n1 c1, .slice A2 n2 c2, .slice A3 n3 c3, .slice A4 n4 c4] 26)) w.heap.size #[.slice A1 n1 c1, .slice A2 n2 c2, .slice A3 n3 c3, .slice A4 n4 c4] := csA
  have HB1 := Lib.hid B1
  clear B1
  go_wp2_with fail
  go_loopw [4, 19] (fun s4 s19 wx => ∃ (i : Nat) (p : Int) (W : World), i ≤ n1 ∧ s19 = .int .i64 (i : Nat) ∧ s4 = .int .i64 p ∧ Hid (p = pvZ an i) ∧ Hid (incB p (an.drop i) = r) ∧ Hid (W = wx) ∧ Cs W w.heap.size #[.slice A1 n1 c1, .slice A2 n2 c2, .slice A3 n3 c3, .slice A4 n4 c4] ∧ Below w.heap.size w W) (fun _ s19 _ => n1 - (intOf s19).toNat)
  case atStart => exact ⟨0, -1, _, Nat.zero_le _, rfl, rfl, Lib.hid rfl, Lib.hid hr, Lib.hid rfl, HB1.out, blA⟩
  case round =>
    clear HB1
    obtain ⟨i, p, W, hi, rfl, rfl, Hp, Hi, HW, B1, hbw⟩ := hrel
    obtain rfl := HW.out
    clear HW
    by_cases hin : i < n1
    · obtain ⟨b, off, rfl, _, ci⟩ := Hz.out.at0 hbw hin
      have hst := Hi.out
      rw [dropZ (by omega), incB] at hst
      obtain ⟨a, ha⟩ : ∃ a, an.getD i 0 = a := ⟨_, rfl⟩
      rw [ha] at ci hst
      have Hst := Lib.hid hst
      have Ha := Lib.hid ha
      clear hst Hi ha
      cases d1 : decide (a ≤ p) with
      | true =>
        have hr0 : Hid (r = false) := Lib.hid (by rw [← Hst.out]; simp at d1 ⊢; omega)
        obtain rfl : q = 2 := H2.out (by rw [Hr.out, hr0.out])
        clear H2 H15 HL Hst hr0 kw kc Hbd
        go_wp2_with fail
        go_ret
        exact ⟨rfl, blA⟩
      | false =>
        cases d2 : decide (90 < a) with
        | true =>
          have hr0 : Hid (r = false) := Lib.hid (by rw [← Hst.out]; simp at d2 ⊢; omega)
          obtain rfl : q = 2 := H2.out (by rw [Hr.out, hr0.out])
          clear H2 H15 HL Hst hr0 kw kc Hbd
          go_wp2_with fail
          go_ret
          exact ⟨rfl, blA⟩
        | false =>
          have Hn : Hid (incB a (an.drop (i + 1)) = r) := Lib.hid (by rw [← Hst.out]; simp at d1 d2; rw [decide_eq_true (show p < a by omega), decide_eq_true (show a ≤ 90 by omega)]; rfl)
          have Hpn : Hid (a = pvZ an (i + 1)) := Lib.hid (by unfold pvZ; rw [if_neg (by omega)]; exact Ha.out.symm)
          clear Hst
          go_wp2_with fail
          go_roundw
          case rel => exact ⟨i + 1, a, _, by omega, by go_num, rfl, Hpn, Hn, Lib.hid rfl, csA, blA⟩
          case measure => simp [intOf]; omega
    · obtain rfl : i = n1 := by omega
      have hrt : r = true := by rw [← Hi.out, List.drop_of_length_le (by omega)]; rfl
      subst hrt
      have hpv : p = an.getD (i - 1) 0 := by have := Hp.out; unfold pvZ at this; rwa [if_neg (by omega)] at this
      obtain ⟨b, off, rfl, _, c0⟩ := Hz.out.at0 hbw (show 0 < i by omega)
      have hb1 := Hbd.out Hr.out (i - 1) (by omega)
      have hb0 := Hbd.out Hr.out 0 (by omega)
      have h15 := H15.out Hr.out
      have hL := HL.out Hr.out
      rw [← hpv] at hb1 h15 hL
      rw [Nat.add_zero] at c0
      generalize an.getD 0 0 = a0 at *
      obtain ⟨hb1, hb1', -⟩ := hb1
      obtain ⟨hb0, hb0', -⟩ := hb0
      have H15 := Lib.hid h15
      have HL := Lib.hid hL
      clear H2 Hp Hi hpv h15 hL Hbd Hr hr Hz
      have cB1 := B1.c
      have fB1 := B1.f
      have lB1 := B1.lt
      by_cases e1 : n2 = i
      · by_cases e2 : n3 + 1 = i
        · by_cases e3 : (n4 : Int) = p - a0 + 1
          · have hq := HL.out (by omega)
            have k1 : ((n2 : Int) == (i : Int)) = true := by simp; omega
            have k2 : ((n3 : Int) == (i : Int) - 1) = true := by simp; omega
            have k3 : ((n4 : Int) == p - a0 + 1) = true := by simp; omega
            have k1' : ((n2 : Int) != (i : Int)) = false := by simp; omega
            have k2' : ((n3 : Int) != (i : Int) - 1) = false := by simp; omega
            have k3' : ((n4 : Int) != p - a0 + 1) = false := by simp; omega
            clear HL H15
            subst e1
            go_wp2_with fail
            go_quiet (fail)
            go_wp2_with fail
            refine (kw _ blA).mono ?_
            rintro _ w2 ⟨rfl, hb2⟩
            replace B1 : Cs w2 (w.heap.size) #[.slice (some ⟨b, off, none⟩) n2 c1, .slice A2 n2 c2, .slice A3 n3 c3, .slice A4 n4 c4] := Cs.keep csA hb2
            replace hbw : Below w.heap.size w w2 := blA
            replace cB1 := B1.c
            replace fB1 := B1.f
            replace lB1 := B1.lt
            clear hb2
            clear kw
            cases u with
            | false =>
              obtain rfl : q = 2 := by rw [hq]; simp
              clear hq kc
              go_wp2_with fail
              go_ret
              exact ⟨rfl, blA⟩
            | true =>
              go_wp2_with fail
              refine (kc _ blA).mono ?_
              rintro _ w3 ⟨rfl, hb3⟩
              try clear cB1 fB1 lB1
              try clear B1
              replace hbw : Below w.heap.size w w3 := blA
              clear hb3
              clear kc
              cases v with
              | false =>
                obtain rfl : q = 2 := by rw [hq]; simp
                clear hq
                go_wp2_with fail
                go_ret
                exact ⟨rfl, blA⟩
              | true =>
                obtain rfl : q = 0 := by rw [hq]; simp
                clear hq
                go_wp2_with fail
                go_ret
                exact ⟨rfl, blA⟩
          · obtain rfl : q = 15 := H15.out (by omega)
            have k1 : ((n2 : Int) == (i : Int)) = true := by simp; omega
            have k2 : ((n3 : Int) == (i : Int) - 1) = true := by simp; omega
            have k3 : ((n4 : Int) == p - a0 + 1) = false := by simp; omega
            have k1' : ((n2 : Int) != (i : Int)) = false := by simp; omega
            have k2' : ((n3 : Int) != (i : Int) - 1) = false := by simp; omega
            have k3' : ((n4 : Int) != p - a0 + 1) = true := by simp; omega
            clear HL H15 kw kc
            go_wp2_with fail
            go_quiet (fail)
            go_wp2_with fail
            go_ret
            exact ⟨rfl, blA⟩
        · obtain rfl : q = 15 := H15.out (by omega)
          have k1 : ((n2 : Int) == (i : Int)) = true := by simp; omega
          have k2 : ((n3 : Int) == (i : Int) - 1) = false := by simp; omega
          have k1' : ((n2 : Int) != (i : Int)) = false := by simp; omega
          have k2' : ((n3 : Int) != (i : Int) - 1) = true := by simp; omega
          clear HL H15 kw kc
          go_wp2_with fail
          go_quiet (fail)
          go_wp2_with fail
          go_ret
          exact ⟨rfl, blA⟩
      · obtain rfl : q = 15 := H15.out (by omega)
        have k1 : ((n2 : Int) == (i : Int)) = false := by simp; omega
        have k1' : ((n2 : Int) != (i : Int)) = true := by simp; omega
        clear HL H15 kw kc
        go_wp2_with fail
        go_quiet (fail)
        go_wp2_with fail
        go_ret
        exact ⟨rfl, blA⟩

end Go.Proofs.YtminplfgadhnnaaGreatDoor
end
