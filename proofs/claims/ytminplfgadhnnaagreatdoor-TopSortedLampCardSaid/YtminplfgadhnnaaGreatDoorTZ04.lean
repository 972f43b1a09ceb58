/- ZA3 -/
import Derived.Test.YtminplfgadhnnaaGreatDoorTZ03
/- Walks of the reference of layer 3: within, CheckLamp. (Printed by gen/gen_za3.py.) -/
section
namespace Go.Proofs.YtminplfgadhnnaaGreatDoor
open Go.RowKit Go.Shelf
set_option linter.unusedSimpArgs false
set_option linter.unusedVariables false
open Zm

set_option maxHeartbeats 1000000 in
theorem zrwithin_any (x y m : Int) (w : World) :
    Calls Tryz.prog 59 #[.agg #[.int .i64 x, .int .i64 y], .int .i64 m] w fun e w' => e = .returned (.bool (rgZ m (x, y))) ∧ Below w.heap.size w w' := by
  cases d1 : decide (0 ≤ x) with
  | false =>
    have e1 : Hid (false = rgZ m (x, y)) := Lib.hid (by simp [rgZ] at d1 ⊢; omega)
    go_enter Tryz.func59, Tryz.ntmps59
    go_wp2_with fail
    go_ret
    exact ⟨ret_bool e1.out, blA⟩
  | true =>
    cases d2 : decide (x ≤ y) with
    | false =>
      have e1 : Hid (false = rgZ m (x, y)) := Lib.hid (by simp [rgZ] at d1 d2 ⊢; omega)
      go_enter Tryz.func59, Tryz.ntmps59
      go_wp2_with fail
      go_ret
      exact ⟨ret_bool e1.out, blA⟩
    | true =>
      have e1 : Hid (decide (y ≤ m) = rgZ m (x, y)) := Lib.hid (by simp at d1 d2; rw [Bool.eq_iff_iff]; simp [rgZ]; omega)
      go_enter Tryz.func59, Tryz.ntmps59
      go_wp2_with fail
      go_ret
      exact ⟨ret_bool e1.out, blA⟩

set_option maxRecDepth 100000 in
set_option maxHeartbeats 16000000 in
theorem zrcheck_any (A1 : Option Addr) (n1 c1 : Nat) (A2 : Option Addr) (n2 c2 : Nat) (A3 : Option Addr) (n3 c3 : Nat) (A4 : Option Addr) (n4 c4 : Nat) (an : List Int) (ls : List (Int × Int)) (fs : List Bool) (ws : List Int) (w : World) (h : Lmp w A1 n1 c1 A2 n2 c2 A3 n3 c3 A4 n4 c4 an ls fs ws) :
    Calls Tryz.prog 29 #[.agg #[.slice A1 n1 c1, .slice A2 n2 c2, .slice A3 n3 c3, .slice A4 n4 c4]] w fun e w' => e = .returned (.int .i64 (chkZ an ls fs ws)) ∧ Below w.heap.size w w' := by
  have hl1 := h.h1.1
  have hl2 := h.h2.1
  have hl3 := h.h3.1
  have hl4 := h.h4.1
  by_cases a1 : n1 < 2
  · rw [chk_6 (.inl (by omega))]
    have b1 : (n1 : Int) < 2 := by omega
    clear h
    go_enter Tryz.func29, Tryz.ntmps29
    go_wp2_with fail
    go_ret
    exact ⟨rfl, blA⟩
  by_cases a2 : 10 < n1
  · rw [chk_6 (.inr (by omega))]
    have b1 : ¬ (n1 : Int) < 2 := by omega
    have b2 : (10 : Int) < (n1 : Int) := by omega
    clear h
    go_enter Tryz.func29, Tryz.ntmps29
    go_wp2_with fail
    go_ret
    exact ⟨rfl, blA⟩
  have hn : ¬ (an.length < 2 ∨ 10 < an.length) := by omega
  have kw := fun x y W => zrwithin_any x y 200 W
  have H2 := Lib.hid (fun (hi : incB (-1) an = false) => chk_2 (ls := ls) (fs := fs) (ws := ws) hn hi)
  have H15 := Lib.hid (fun (hi : incB (-1) an = true) => chk_15 (ls := ls) (fs := fs) (ws := ws) hn hi)
  have HL := Lib.hid (fun (hi : incB (-1) an = true) => chk_last (ls := ls) (fs := fs) (ws := ws) hn hi)
  rw [hl1, hl2, hl3, hl4] at H15 HL
  have Hbd := Lib.hid (inc_ok (-1) an)
  generalize chkZ an ls fs ws = q at *
  obtain ⟨r, hr⟩ : ∃ r, incB (-1) an = r := ⟨_, rfl⟩
  have Hr : Hid (incB (-1) an = r) := Lib.hid hr
  obtain ⟨u, hu⟩ : ∃ u, ls.all (rgZ 200) = u := ⟨_, rfl⟩
  obtain ⟨v, hv⟩ : ∃ v, ws.all wtZ = v := ⟨_, rfl⟩
  rw [hu, hv] at HL
  have Hu := Lib.hid hu
  have Hv := Lib.hid hv
  clear hu hv
  have Hz := Lib.hid h.h1
  have Hz2 := Lib.hid h.h2
  have Hz4 := Lib.hid h.h4
  have b1 : ¬ (n1 : Int) < 2 := by omega
  have b2 : ¬ (10 : Int) < (n1 : Int) := by omega
  have hn1 : n1 ≤ 10 ∧ 2 ≤ n1 := by omega
  have hm3 := h.m3.1
  have hm4 := h.m4.1
  clear h hn a1 a2
  go_enter Tryz.func29, Tryz.ntmps29
  have B1 : Cs (w.alloc (.cells #[.slice A1 n1 c1, .slice A2 n2 c2, .slice A3 n3 c3, .slice A4 n4 c4] 26)) w.heap.size #[.slice A1 n1 c1, .slice A2 n2 c2, .slice A3 n3 c3, .slice A4 n4 c4] := csA
  have HB1 := Lib.hid B1
  clear B1
  go_wp2_with fail
  go_loopw [4] (fun s4 wx => ∃ (i : Nat) (p : Int) (W : World), i ≤ n1 ∧ s4 = .int .i64 (i : Nat) ∧ Hid (p = pvZ an i) ∧ -1 ≤ p ∧ Hid (incB p (an.drop i) = r) ∧ Hid (W = wx) ∧ Cs W w.heap.size #[.slice A1 n1 c1, .slice A2 n2 c2, .slice A3 n3 c3, .slice A4 n4 c4] ∧ Below w.heap.size w W) (fun s4 _ => n1 - (intOf s4).toNat)
  case atStart => exact ⟨0, -1, _, Nat.zero_le _, rfl, Lib.hid rfl, by omega, Lib.hid hr, Lib.hid rfl, HB1.out, blA⟩
  case round =>
    clear HB1
    obtain ⟨i, p, W, hi, rfl, Hp, hp1, Hi, HW, B1, hbw⟩ := hrel
    obtain rfl := HW.out
    clear HW
    have cB1 := B1.c
    have fB1 := B1.f
    have lB1 := B1.lt
    by_cases hin : i < n1
    · obtain ⟨b, off, rfl, _, ci⟩ := Hz.out.at0 hbw hin
      have hst := Hi.out
      rw [dropZ (by omega), incB] at hst
      obtain ⟨a, ha⟩ : ∃ a, an.getD i 0 = a := ⟨_, rfl⟩
      rw [ha] at ci hst
      have Hst := Lib.hid hst
      have Ha := Lib.hid ha
      clear hst Hi ha
      cases d1 : decide (a < 0) with
      | true =>
        have hr0 : Hid (r = false) := Lib.hid (by rw [← Hst.out]; simp at d1 ⊢; omega)
        obtain rfl : q = 2 := H2.out (by rw [Hr.out, hr0.out])
        clear H2 H15 HL Hst hr0 kw Hbd
        go_wp2_with fail
        go_quiet (fail)
        go_wp2_with fail
        go_ret
        exact ⟨rfl, blA⟩
      | false =>
        cases d2 : decide (90 < a) with
        | true =>
          have hr0 : Hid (r = false) := Lib.hid (by rw [← Hst.out]; simp at d2 ⊢; omega)
          obtain rfl : q = 2 := H2.out (by rw [Hr.out, hr0.out])
          clear H2 H15 HL Hst hr0 kw Hbd
          go_wp2_with fail
          go_quiet (fail)
          go_wp2_with fail
          go_ret
          exact ⟨rfl, blA⟩
        | false =>
          match i, hi, hin, Hp, ci, Hst, Ha with
          | 0, hi, hin, Hp, ci, Hst, Ha =>
            have hp0 : p = -1 := Hp.out
            have Hn : Hid (incB a (an.drop (0 + 1)) = r) := Lib.hid (by rw [← Hst.out]; simp at d1 d2; rw [decide_eq_true (show p < a by omega), decide_eq_true (show a ≤ 90 by omega)]; rfl)
            have Hpn : Hid (a = pvZ an (0 + 1)) := Lib.hid (by unfold pvZ; rw [if_neg (by omega)]; exact Ha.out.symm)
            have ha0 : -1 ≤ a := by simp at d1; omega
            rw [Nat.add_zero] at ci
            clear Hst Hp
            go_wp2_with fail
            go_quiet (fail)
            go_wp2_with fail
            go_roundw
            case rel => exact ⟨0 + 1, a, _, by omega, by go_num, Hpn, ha0, Hn, Lib.hid rfl, csA, blA⟩
            case measure => simp [intOf]; omega
          | j + 1, hi, hin, Hp, ci, Hst, Ha =>
            obtain ⟨b', off', e', _, cj⟩ := Hz.out.at0 hbw (show j < n1 by omega)
            injection e' with e'
            injection e' with e1 e2
            subst e1 e2
            have hpj : an.getD j 0 = p := by have := Hp.out; unfold pvZ at this; rw [if_neg (by omega)] at this; exact this.symm
            rw [hpj] at cj
            have hja : (j : Int) < (n1 : Int) := by omega
            have hjb : (j : Int) + 1 < (n1 : Int) := by omega
            cases d3 : decide (a ≤ p) with
            | true =>
              have hr0 : Hid (r = false) := Lib.hid (by rw [← Hst.out]; simp at d3 ⊢; omega)
              obtain rfl : q = 2 := H2.out (by rw [Hr.out, hr0.out])
              clear H2 H15 HL Hst hr0 kw Hbd Hp hpj
              go_wp2_with fail
              go_quiet (fail)
              go_wp2_with fail
              go_ret
              exact ⟨rfl, blA⟩
            | false =>
              have Hn : Hid (incB a (an.drop (j + 1 + 1)) = r) := Lib.hid (by rw [← Hst.out]; simp at d1 d2 d3; rw [decide_eq_true (show p < a by omega), decide_eq_true (show a ≤ 90 by omega)]; rfl)
              have Hpn : Hid (a = pvZ an (j + 1 + 1)) := Lib.hid (by unfold pvZ; rw [if_neg (by omega)]; exact Ha.out.symm)
              have ha0 : -1 ≤ a := by simp at d1; omega
              clear Hst Hp hpj
              go_wp2_with fail
              go_quiet (fail)
              go_wp2_with fail
              go_roundw
              case rel => exact ⟨j + 1 + 1, a, _, by omega, by go_num, Hpn, ha0, Hn, Lib.hid rfl, csA, blA⟩
              case measure => simp [intOf]; omega
    · obtain rfl : i = n1 := by omega
      have hrt : r = true := by rw [← Hi.out, List.drop_of_length_le (by omega)]; rfl
      subst hrt
      have hpv : p = an.getD (i - 1) 0 := by have := Hp.out; unfold pvZ at this; rwa [if_neg (by omega)] at this
      obtain ⟨b, off, rfl, _, c0⟩ := Hz.out.at0 hbw (show 0 < i by omega)
      obtain ⟨b', off', e', _, cl⟩ := Hz.out.at0 hbw (show i - 1 < i by omega)
      injection e' with e'
      injection e' with e1 e2
      subst e1 e2
      have hb1 := Hbd.out Hr.out (i - 1) (by omega)
      have hb0 := Hbd.out Hr.out 0 (by omega)
      have h15 := H15.out Hr.out
      have hL := HL.out Hr.out
      rw [← hpv] at hb1 h15 hL cl
      rw [Nat.add_zero] at c0
      generalize an.getD 0 0 = a0 at *
      obtain ⟨hb1, hb1', -⟩ := hb1
      obtain ⟨hb0, hb0', -⟩ := hb0
      have hi1 : (i : Int) - 1 = ((i - 1 : Nat) : Int) := by omega
      have hi2 : i - 1 < i := by omega
      obtain ⟨i0, hi0⟩ : ∃ i0, i - 1 = i0 := ⟨_, rfl⟩
      rw [hi0] at hi1 hi2 cl
      have H15 := Lib.hid h15
      have HL := Lib.hid hL
      clear H2 Hp Hi hpv h15 hL Hbd Hr hr Hz hi0
      by_cases e1 : n2 = i
      · by_cases e2 : n3 + 1 = i
        · by_cases e3 : (n4 : Int) = p - a0 + 1
          · have hq := HL.out (by omega)
            have k1 : ((n2 : Int) == (i : Int)) = true := by simp; omega
            have k1' : ((n2 : Int) != (i : Int)) = false := by simp; omega
            have k2 : ((n3 : Int) == (i : Int) - 1) = true := by simp; omega
            have k2' : ((n3 : Int) != (i : Int) - 1) = false := by simp; omega
            have k3 : ((n4 : Int) == p - a0 + 1) = true := by simp; omega
            have k3' : ((n4 : Int) != p - a0 + 1) = false := by simp; omega
            have Hq := Lib.hid hq
            clear HL H15 hq
            rw [hi1] at k2 k2'
            subst e1
            go_wp2_with fail
            go_quiet (fail)
            go_wp2_with fail
            go_loopw [5] (fun s5 wx => ∃ (j : Nat) (V : World), j ≤ n2 ∧ s5 = .int .i64 (j : Nat) ∧ Hid (V = wx) ∧ Hid (∀ k x, k < j → ls[k]? = some x → rgZ 200 x = true) ∧ Cs V w.heap.size #[.slice (some ⟨b, off, none⟩) n2 c1, .slice A2 n2 c2, .slice A3 n3 c3, .slice A4 n4 c4] ∧ Below w.heap.size w V) (fun s5 _ => n2 - (intOf s5).toNat)
            case atStart => exact ⟨0, _, Nat.zero_le _, rfl, Lib.hid rfl, Lib.hid (fun k x hk => absurd hk (by omega)), csA, blA⟩
            case round =>
              clear B1 cB1 fB1 lB1 hbw k1 k2 k3 k1' k2' k3' hi1 hi2 c0 cl
              obtain ⟨j, V, hj, rfl, HV, Hls, B1, hbw⟩ := hrel
              obtain rfl := HV.out
              clear HV
              have cB1 := B1.c
              have fB1 := B1.f
              have lB1 := B1.lt
              by_cases hjn : j < n2
              · obtain ⟨b2, off2, x, y, rfl, hget, d0, d1⟩ := Hz2.out.at_ hbw hjn
                have k3 := kw x y
                have Hget := Lib.hid hget
                clear hget
                cases hx : rgZ 200 (x, y) with
                | false =>
                  have hu : u = false := by rw [← Hu.out]; exact List.all_eq_false.2 ⟨(x, y), List.mem_of_getElem? Hget.out, by simp [hx]⟩
                  obtain rfl : q = 2 := by rw [Hq.out, hu]; simp
                  rw [hx] at k3
                  clear Hls Hq hu kw hx
                  go_wp2_with fail
                  refine (k3 _).mono ?_
                  rintro _ w2 ⟨rfl, hb2⟩
                  go_wp2_with fail
                  go_ret
                  exact ⟨rfl, blA⟩
                | true =>
                  rw [hx] at k3
                  have Hx := Lib.hid hx
                  clear hx
                  go_wp2_with fail
                  refine (k3 _).mono ?_
                  rintro _ w2 ⟨rfl, hb2⟩
                  replace B1 := B1.keep hb2
                  replace hbw : Below w.heap.size w w2 := blA
                  clear cB1 fB1 lB1 hb2 k3
                  go_wp2_with fail
                  go_roundw
                  case rel =>
                    refine ⟨j + 1, _, by omega, by go_num, Lib.hid rfl, Lib.hid (fun k x' hk hu => ?_), B1, hbw⟩
                    by_cases e : k = j
                    · subst e
                      have := Hget.out.symm.trans hu
                      injection this with this
                      rw [← this]; exact Hx.out
                    · exact Hls.out k x' (by omega) hu
                  case measure => simp [intOf]; omega
              · obtain rfl : j = n2 := by omega
                have hu : u = true := by
                  rw [← Hu.out, List.all_eq_true]
                  intro x hx
                  obtain ⟨k, hk, rfl⟩ := List.mem_iff_getElem.1 hx
                  exact Hls.out k _ (by omega) (List.getElem?_eq_getElem hk)
                subst hu
                clear Hls Hu kw
                go_wp2_with fail
                go_loopw [6] (fun s6 wx => ∃ (k : Nat) (U : World), k ≤ n4 ∧ s6 = .int .i64 (k : Nat) ∧ Hid (U = wx) ∧ Hid (∀ i, i < k → wtZ (ws.getD i 0) = true) ∧ Cs U w.heap.size #[.slice (some ⟨b, off, none⟩) j c1, .slice A2 j c2, .slice A3 n3 c3, .slice A4 n4 c4] ∧ Below w.heap.size w U) (fun s6 _ => n4 - (intOf s6).toNat)
                case atStart => exact ⟨0, _, Nat.zero_le _, rfl, Lib.hid rfl, Lib.hid (fun k hk => absurd hk (by omega)), csA, blA⟩
                case round =>
                  clear B1 cB1 fB1 lB1 hbw
                  obtain ⟨k, U, hk, rfl, HU, Hws, B1, hbw⟩ := hrel
                  obtain rfl := HU.out
                  clear HU
                  have cB1 := B1.c
                  have fB1 := B1.f
                  have lB1 := B1.lt
                  by_cases hkn : k < n4
                  · obtain ⟨b4, off4, rfl, _, ck⟩ := Hz4.out.at0 hbw hkn
                    obtain ⟨a, ha⟩ : ∃ a, ws.getD k 0 = a := ⟨_, rfl⟩
                    rw [ha] at ck
                    have Ha := Lib.hid ha
                    have Hbad : Hid (wtZ a = false → v = false) := Lib.hid (fun h => by
                      rw [← Hv.out]
                      refine List.all_eq_false.2 ⟨ws[k], List.getElem_mem _, ?_⟩
                      have : ws[k] = a := by rw [← Ha.out, List.getD_eq_getElem?_getD, List.getElem?_eq_getElem (by omega)]; rfl
                      rw [this, h]; decide)
                    clear ha
                    cases d1 : decide (a < 0) with
                    | true =>
                      have hv := Hbad.out (by simp [wtZ] at d1 ⊢; omega)
                      obtain rfl : q = 2 := by rw [Hq.out, hv]; simp
                      clear Hws Hq hv Hbad
                      go_wp2_with fail
                      go_ret
                      exact ⟨rfl, blA⟩
                    | false =>
                      cases d2 : decide (1000 < a) with
                      | true =>
                        have hv := Hbad.out (by simp [wtZ] at d2 ⊢; omega)
                        obtain rfl : q = 2 := by rw [Hq.out, hv]; simp
                        clear Hws Hq hv Hbad
                        go_wp2_with fail
                        go_ret
                        exact ⟨rfl, blA⟩
                      | false =>
                        have Hok : Hid (wtZ a = true) := Lib.hid (by simp [wtZ] at d1 d2 ⊢; omega)
                        clear Hbad
                        go_wp2_with fail
                        go_roundw
                        case rel =>
                          refine ⟨k + 1, _, by omega, by go_num, Lib.hid rfl, Lib.hid (fun i hi => ?_), csA, blA⟩
                          by_cases e : i = k
                          · subst e; rw [Ha.out]; exact Hok.out
                          · exact Hws.out i (by omega)
                        case measure => simp [intOf]; omega
                  · obtain rfl : k = n4 := by omega
                    have hv : v = true := by
                      rw [← Hv.out, List.all_eq_true]
                      intro x hx
                      obtain ⟨i, hi, rfl⟩ := List.mem_iff_getElem.1 hx
                      have := Hws.out i (by omega)
                      rwa [List.getD_eq_getElem?_getD, List.getElem?_eq_getElem hi] at this
                    subst hv
                    obtain rfl : q = 0 := by rw [Hq.out]; simp
                    clear Hws Hq
                    go_wp2_with fail
                    go_ret
                    exact ⟨rfl, blA⟩
          · obtain rfl : q = 15 := H15.out (by omega)
            have k1 : ((n2 : Int) == (i : Int)) = true := by simp; omega
            have k1' : ((n2 : Int) != (i : Int)) = false := by simp; omega
            have k2 : ((n3 : Int) == (i : Int) - 1) = true := by simp; omega
            have k2' : ((n3 : Int) != (i : Int) - 1) = false := by simp; omega
            have k3 : ((n4 : Int) == p - a0 + 1) = false := by simp; omega
            have k3' : ((n4 : Int) != p - a0 + 1) = true := by simp; omega
            clear HL H15 kw
            rw [hi1] at k2 k2'
            go_wp2_with fail
            go_quiet (fail)
            go_wp2_with fail
            go_ret
            exact ⟨rfl, blA⟩
        · obtain rfl : q = 15 := H15.out (by omega)
          have k1 : ((n2 : Int) == (i : Int)) = true := by simp; omega
          have k1' : ((n2 : Int) != (i : Int)) = false := by simp; omega
          have k2 : ((n3 : Int) == (i : Int) - 1) = false := by simp; omega
          have k2' : ((n3 : Int) != (i : Int) - 1) = true := by simp; omega
          clear HL H15 kw
          rw [hi1] at k2 k2'
          go_wp2_with fail
          go_quiet (fail)
          go_wp2_with fail
          go_ret
          exact ⟨rfl, blA⟩
      · obtain rfl : q = 15 := H15.out (by omega)
        have k1 : ((n2 : Int) == (i : Int)) = false := by simp; omega
        have k1' : ((n2 : Int) != (i : Int)) = true := by simp; omega
        clear HL H15 kw
        go_wp2_with fail
        go_quiet (fail)
        go_wp2_with fail
        go_ret
        exact ⟨rfl, blA⟩

end Go.Proofs.YtminplfgadhnnaaGreatDoor
end
