/- BK08 BT08 -/
import Derived.Test.YtmddpjlpbmfbgaaDoorBZ24
import Derived.Test.YtmddpjlpbmfbgaaDoorBZ28
import Derived.Test.YtmddpjlpbmfbgaaDoorBZ21
import Derived.Test.YtmddpjlpbmfbgaaDoorBZ17
/- The walk of BenchPlaced: it answers true. -/
section
namespace Go.Proofs.YtmddpjlpbmfbgaaDoor
open Go.RowKit Go.Shelf
set_option linter.unusedSimpArgs false
set_option linter.unusedVariables false

set_option maxRecDepth 100000 in
set_option maxHeartbeats 16000000 in
theorem placed_main (A B : Option Addr) (n C k D q : Nat) (zs : List (Int × Int)) (us : List Int) (bst : Int) (w : World) (hz : Prs w A n zs) (hy : U32s w B k us) (hk : k ≤ 20) (n1 : 1 ≤ n) (n12 : n ≤ 12) (hq : q < n) (hbq : bst.tmod (n : Int) = (q : Int)) (hb0 : 0 ≤ bst) (hb1 : bst ≤ 255) (hT : TabW w) :
    Calls Tryd.prog 9 #[.slice A n C, .slice B k D, .int .u8 bst] w fun e w' => e = .returned (.bool true) ∧ Below w.heap.size w w' := by
  have kw := fun W hT => works_any W hT
  have HT := Lib.hid hT
  have kp := fun (W : World) (hb : Below w.heap.size w W) => places_any A n C zs W (hz.below hb) (by omega)
  have kn := fun (W : World) (i : Nat) (hi : i ≤ 1000) (hb : Below w.heap.size w W) => number_any B k D i us W (hy.below hb) (by omega) hi
  have hzl := hz.1
  have hyl := hy.1
  have Hub : Hid (∀ i, 0 ≤ turnL us i ∧ turnL us i ≤ 4294967295) := Lib.hid (turnL_bd (fun i hi => by obtain ⟨_, _, _, _, h⟩ := hy.at_ (Below.refl _ _) (k := i) (by omega); exact h))
  obtain ⟨b, off, rfl, hblt, hcz⟩ := hz.2 (by omega)
  have Hc : Hid (∀ (W : World) (j : Nat), j < n → Below w.heap.size w W → W.cell? ⟨b, off + j * 2, none⟩ = some (.int .i64 (rg zs j).1) ∧ W.cell? ⟨b, off + j * 2 + 1, none⟩ = some (.int .i64 (rg zs j).2)) := Lib.hid (fun W j hj hb => by
    have h := hcz j (rg zs j).1 (rg zs j).2 (by unfold rg; rw [List.getD_eq_getElem?_getD, List.getElem?_eq_getElem (by omega)]; rfl)
    exact ⟨(hb.cell (p := ⟨b, _, none⟩) hblt).trans h.1, (hb.cell (p := ⟨b, _, none⟩) hblt).trans h.2⟩)
  have Hbad : Hid (∀ j, j < n → rgB 0 100000 (rg zs j) = false → (placesE zs).2 = 2) := Lib.hid (fun j hj h => by
    unfold placesE
    rw [if_neg (by omega), any_rg_t (by omega) h, if_pos rfl])
  have Hok : Hid ((∀ j, j < n → rgB 0 100000 (rg zs j) = true) → (placesE zs).1 = plcL zs ∧ (placesE zs).2 = 0) := Lib.hid (fun h => by
    unfold placesE
    rw [if_neg (by omega), any_rg.2 (by rw [hzl]; exact h), if_neg (by decide)]
    exact ⟨rfl, rfl⟩)
  have Hmy : Hid ((∀ j, j < n → rgB 0 100000 (rg zs j) = true) → (rLo zs q n ≤ mnyK zs us q n ∧ mnyK zs us q n ≤ rHi zs q n)) := Lib.hid (fun h => mny_in (fun j hj => (rgB_iff.1 (h j (by omega))).1) (by omega) n (by omega))
  have Hpq : Hid ((plcL zs)[q]? = some (((rLo zs q n : Nat) : Int), ((rHi zs q n : Nat) : Int))) := Lib.hid (by rw [plc_get (by omega), hzl])
  have Hpl : Hid ((plcL zs).length = n) := Lib.hid (by rw [plc_len, hzl])
  unfold RetPE at kp
  generalize placesE zs = R at *
  generalize R.1 = r1 at *
  generalize R.2 = e1 at *
  have a0 : ¬ (n : Int) < 1 := by omega
  have a1 : ¬ (12 : Int) < (n : Int) := by omega
  have a2 : ¬ (20 : Int) < (k : Int) := by omega
  have a3 : ¬ (n : Int) = 0 := by omega
  clear hz hy hT hcz
  go_enter Tryd.func9, Tryd.ntmps9
  go_wp2_with fail
  refine (kp _ blA).mono ?_
  rintro _ w1 ⟨A1, m1, c1, rfl, i1, ⟨hl1, hl2⟩, hb1⟩
  replace hbw : Below w.heap.size w w1 := blA
  clear hb1
  clear kp
  have Hi1 := Lib.hid i1
  clear i1
  go_wp2_with fail
  go_loopw [9] (fun s9 wx => ∃ (i : Nat) (W : World), i ≤ n ∧ s9 = .int .i64 (i : Nat) ∧ Hid (W = wx) ∧ Hid (∀ j, j < i → rgB 0 100000 (rg zs j) = true) ∧ Below w1.heap.size w1 W) (fun s9 _ => n - (intOf s9).toNat)
  case atStart => exact ⟨0, _, by omega, rfl, Lib.hid rfl, Lib.hid (fun j hj => absurd hj (by omega)), blA⟩
  case round =>
    obtain ⟨i, W, hi, rfl, HW, Hv, hbx⟩ := hrel
    obtain rfl := HW.out
    clear HW
    have hbW := hbw.trans (hbx.mono hbw.size)
    by_cases hin : i < n
    · obtain ⟨c0, c1'⟩ := Hc.out W i hin hbW
      have hrg : ∀ r, rgB 0 100000 (rg zs i) = r → r = rgB 0 100000 ((rg zs i).1, (rg zs i).2) := fun r h => h.symm
      have Hb := Lib.hid (Hbad.out i hin)
      have Hg : Hid (rgB 0 100000 (rg zs i) = rgB 0 100000 ((rg zs i).1, (rg zs i).2)) := Lib.hid rfl
      clear hrg
      generalize (rg zs i).1 = x at *
      generalize (rg zs i).2 = y at *
      cases d1 : decide (x < 0) with
      | true =>
        obtain rfl : e1 = 2 := Hb.out (by rw [Hg.out]; simp [rgB]; simp at d1; omega)
        clear Hb Hg Hbad Hok Hv
        go_wp2_with fail
        go_quiet (fail)
        go_wp2_with fail
        refine (kw _ (HT.out.below blA HT.out.1)).mono ?_
        rintro _ w2 ⟨rfl, hb2⟩
        go_wp2_with fail
        go_ret
        exact ⟨rfl, blA⟩
      | false =>
        cases d2 : decide (y < x) with
        | true =>
          obtain rfl : e1 = 2 := Hb.out (by rw [Hg.out]; simp [rgB]; simp at d2; omega)
          clear Hb Hg Hbad Hok Hv
          go_wp2_with fail
          go_quiet (fail)
          go_wp2_with fail
          refine (kw _ (HT.out.below blA HT.out.1)).mono ?_
          rintro _ w2 ⟨rfl, hb2⟩
          go_wp2_with fail
          go_ret
          exact ⟨rfl, blA⟩
        | false =>
          cases d3 : decide (100000 < y) with
          | true =>
            obtain rfl : e1 = 2 := Hb.out (by rw [Hg.out]; simp [rgB]; simp at d3; omega)
            clear Hb Hg Hbad Hok Hv
            go_wp2_with fail
            go_quiet (fail)
            go_wp2_with fail
            refine (kw _ (HT.out.below blA HT.out.1)).mono ?_
            rintro _ w2 ⟨rfl, hb2⟩
            go_wp2_with fail
            go_ret
            exact ⟨rfl, blA⟩
          | false =>
            have Hgo : Hid (rgB 0 100000 (rg zs i) = true) := Lib.hid (by rw [Hg.out, rgB_iff]; simp at d1 d2 d3; omega)
            clear Hb Hg
            go_wp2_with fail
            go_quiet (fail)
            go_wp2_with fail
            go_roundw
            case rel =>
              refine ⟨i + 1, _, by omega, by go_num, Lib.hid rfl, Lib.hid (fun j hj => ?_), blA⟩
              by_cases e : j = i
              · subst e; exact Hgo.out
              · exact Hv.out j (by omega)
            case measure => simp [intOf]; omega
    · obtain rfl : i = n := by omega
      obtain ⟨rfl, rfl⟩ := Hok.out Hv.out
      have Hmm := Lib.hid (Hmy.out Hv.out)
      have Hvv : Hid (∀ j, j < i → (rg zs j).1 ≤ (rg zs j).2 ∧ 0 ≤ (rg zs j).1 ∧ (rg zs j).2 ≤ 100000) := Lib.hid (fun j hj => rgB_iff.1 (Hv.out j hj))
      clear Hv Hok Hbad Hmy
      obtain rfl : m1 = i := by rw [← Hi1.out.1, Hpl.out]
      obtain ⟨u0, u1⟩ := Hc.out W q hq hbW
      have hur := Hub.out q
      have hvq := Hvv.out q hq
      have kq := fun (W : World) => kn W q (by omega)
      have HLo : Hid ((rg zs q).1 = (rg zs q).1) := Lib.hid rfl
      obtain ⟨x, hx⟩ : ∃ x, (rg zs q).1 = x := ⟨_, rfl⟩
      obtain ⟨y, hy⟩ : ∃ y, (rg zs q).2 = y := ⟨_, rfl⟩
      obtain ⟨u, hu⟩ : ∃ u, turnL us q = u := ⟨_, rfl⟩
      have Hx := Lib.hid hx
      have Hy := Lib.hid hy
      have Hu := Lib.hid hu
      rw [hx] at u0 hvq
      rw [hy] at u1 hvq
      rw [hu] at hur kq
      have kpk := fun (W : World) => pick_any x y u W hvq.1 hvq.2.1 (by omega) hur.1 hur.2
      have S0 : Hid (∀ V, Below W.heap.size W V → V.cell? ⟨b, off + q * 2, none⟩ = some (.int .i64 x) ∧ V.cell? ⟨b, off + q * 2 + 1, none⟩ = some (.int .i64 y)) := Lib.hid (fun V hV => by have := Hc.out V q hq (hbW.trans (hV.mono hbW.size)); rw [Hx.out, Hy.out] at this; exact this)
      have hblW : b < W.heap.size := by have := hbW.size; omega
      clear hx hy hu HLo
      have q1 : (0 : Int) ≤ (q : Int) := by omega
      have q2 : (q : Int) < (m1 : Int) := by omega
      go_wp2_with fail
      go_region_held3 (fun w' => w'.cell? ⟨b, off + q * 2, none⟩ = some (.int .i64 x) ∧ w'.cell? ⟨b, off + q * 2 + 1, none⟩ = some (.int .i64 y))
        (first | exact ⟨u0, u1⟩ | exact S0.out _ blA | go_keep)
        (first | (go_at_call 41; (with_reducible refine (kq _ (by first | exact hbW | exact hbW.drew | exact bdrewN hbW _)).mono ?_); rintro _ w2 ⟨rfl, rfl⟩) | (go_at_call 40; (with_reducible refine (kpk _).mono ?_); rintro _ w3 ⟨rfl, hb3⟩))
      replace hbx : Below w1.heap.size w1 w3 := blA
      have hbw1 := hbw
      clear hbw
      obtain ⟨v, hv⟩ : ∃ v, pickE x y u = v := ⟨_, rfl⟩
      have Hpv : Hid (pickE (rg zs q).1 (rg zs q).2 (turnL us q) = v) := Lib.hid (by rw [Hx.out, Hy.out, Hu.out, hv])
      rw [hv]
      clear hb3 hbW S0 kq kpk u0 u1 hv hblW hur Hu
      go_wp2_with fail
      go_loopw [11, 12, 13, 15] (fun s11 s12 s13 s15 wx => ∃ (i a l h : Nat) (W : World), i ≤ m1 ∧ s15 = .int .i64 (i : Nat) ∧ Hid (a = mnyK zs us q i) ∧ Hid (l = rLo zs q i) ∧ Hid (h = rHi zs q i) ∧ a ≤ i ∧ l ≤ i ∧ h ≤ i ∧ s11 = .int .i64 (a : Nat) ∧ s12 = .int .i64 (l : Nat) ∧ s13 = .int .i64 (h : Nat) ∧ Hid (W = wx) ∧ Below w1.heap.size w1 W) (fun _ _ _ s15 _ => m1 - (intOf s15).toNat)
      case atStart => exact ⟨0, 0, 0, 0, _, by omega, rfl, Lib.hid rfl, Lib.hid rfl, Lib.hid rfl, by omega, by omega, by omega, rfl, rfl, rfl, Lib.hid rfl, blA⟩
      case round =>
        clear hbx
        obtain ⟨i, a, l, h, W, hi, rfl, Ha, Hl, Hh, ha, hl, hh, rfl, rfl, rfl, HW, hbx⟩ := hrel
        obtain rfl := HW.out
        clear HW
        have hbW := hbw1.trans (hbx.mono hbw1.size)
        by_cases hin : i < m1
        · obtain ⟨c0, c1'⟩ := Hc.out W i hin hbW
          obtain ⟨u0, u1⟩ := Hc.out W q hq hbW
          rw [Hx.out] at u0
          rw [Hy.out] at u1
          have hni := fun (V : World) => kn V i (by omega)
          have hvi := Hvv.out i hin
          have hti := Hub.out i
          have XA : Hid (mnyK zs us q (i + 1) = a + if i ≠ q ∧ v < pickE (rg zs i).1 (rg zs i).2 (turnL us i) then 1 else 0) := Lib.hid (by rw [mnyK, Hpv.out, Ha.out])
          have XL : Hid (rLo zs q (i + 1) = l + if i ≠ q ∧ y < (rg zs i).1 then 1 else 0) := Lib.hid (by rw [rLo, Hy.out, Hl.out])
          have XH : Hid (rHi zs q (i + 1) = h + if i ≠ q ∧ x < (rg zs i).2 then 1 else 0) := Lib.hid (by rw [rHi, Hx.out, Hh.out])
          have S0 : Hid (∀ V, Below W.heap.size W V → (V.cell? ⟨b, off + i * 2, none⟩ = some (.int .i64 (rg zs i).1) ∧ V.cell? ⟨b, off + i * 2 + 1, none⟩ = some (.int .i64 (rg zs i).2)) ∧ V.cell? ⟨b, off + q * 2, none⟩ = some (.int .i64 x) ∧ V.cell? ⟨b, off + q * 2 + 1, none⟩ = some (.int .i64 y)) := Lib.hid (fun V hV => by
            have := Hc.out V q hq (hbW.trans (hV.mono hbW.size)); rw [Hx.out, Hy.out] at this; exact ⟨Hc.out V i hin (hbW.trans (hV.mono hbW.size)), this⟩)
          generalize turnL us i = t at *
          generalize (rg zs i).1 = x2 at *
          generalize (rg zs i).2 = y2 at *
          have kpk := fun (W : World) => pick_any x2 y2 t W hvi.1 hvi.2.1 (by omega) hti.1 hti.2
          generalize pickE x2 y2 t = v2 at *
          clear Ha Hl Hh
          by_cases hiq : i = q
          · subst hiq
            have hr := XA.out
            have XA2 : Hid (mnyK zs us i (i + 1) = a) := Lib.hid (by rw [XA.out, if_neg (fun h => h.1 rfl)]; rfl)
            have XL2 : Hid (rLo zs i (i + 1) = l) := Lib.hid (by rw [XL.out, if_neg (fun h => h.1 rfl)]; rfl)
            have XH2 : Hid (rHi zs i (i + 1) = h) := Lib.hid (by rw [XH.out, if_neg (fun h => h.1 rfl)]; rfl)
            clear hr XA XL XH kpk hni S0 hvi hti c0 c1' u0 u1
            go_wp2_with fail
            go_roundw
            case rel => exact ⟨i + 1, a, l, h, _, by omega, by go_num, Lib.hid XA2.out.symm, Lib.hid XL2.out.symm, Lib.hid XH2.out.symm, by omega, by omega, by omega, rfl, rfl, rfl, Lib.hid rfl, blA⟩
            case measure => simp [intOf]; omega
          · have k1 : ((i : Int) == (q : Int)) = false := by simp; omega
            have k2 : ¬ (i : Int) = (q : Int) := by omega
            have HL0 : Hid (l ≤ i) := Lib.hid hl
            go_wp2_with fail
            go_region_held3 (fun w' => w'.cell? ⟨b, off + i * 2, none⟩ = some (.int .i64 x2) ∧ w'.cell? ⟨b, off + i * 2 + 1, none⟩ = some (.int .i64 y2))
              (first | exact ⟨c0, c1'⟩ | exact (S0.out _ blA).1 | go_keep)
              (first | (go_at_call 41; (with_reducible refine (hni _ (by first | exact hbW | exact hbW.drew | exact bdrewN hbW _)).mono ?_); rintro _ w2 ⟨rfl, rfl⟩) | (go_at_call 40; (with_reducible refine (kpk _).mono ?_); rintro _ w3 ⟨rfl, hb3⟩))
            have hb23 : Below W.heap.size W w3 := blA
            obtain ⟨⟨c0, c1'⟩, u0, u1⟩ := S0.out _ hb23
            replace hbx := hbx.trans (hb23.mono hbx.size)
            clear hb3 hb23 S0 kpk hni hbW
            by_cases g1 : v < v2 <;> by_cases g2 : y < x2 <;> by_cases g3 : x < y2
            all_goals
              have XA2 := XA.out
              have XL2 := XL.out
              have XH2 := XH.out
              simp only [hiq, g1, g2, g3, ne_eq, not_false_eq_true, and_self, and_false, if_true, if_false, Nat.add_zero] at XA2 XL2 XH2
              replace XA2 := Lib.hid XA2.symm
              replace XL2 := Lib.hid XL2.symm
              replace XH2 := Lib.hid XH2.symm
              clear XA XL XH hvi hti HL0
              go_wp2_with fail
              go_quiet (fail)
              go_wp2_with fail
              go_quiet (fail)
              go_wp2_with fail
              go_roundw
              case rel => exact ⟨i + 1, _, _, _, _, by omega, by go_num, XA2, XL2, XH2, by omega, by omega, by omega, by go_num, by go_num, by go_num, Lib.hid rfl, blA⟩
              case measure => simp [intOf]; omega
        · obtain rfl : i = m1 := by omega
          obtain ⟨mm1, mm2⟩ := Hmm.out
          rw [← Ha.out, ← Hl.out] at mm1
          rw [← Ha.out, ← Hh.out] at mm2
          obtain ⟨b1, o1, x1, y1, rfl, hget, e0, e1⟩ := Hi1.out.at_ hbx hq
          have hge := Hpq.out.symm.trans hget
          injection hge with hge
          injection hge with ex ey
          subst ex ey
          rw [← Hl.out] at e0
          rw [← Hh.out] at e1
          have d1 : decide ((l : Int) ≤ (a : Int)) = true := by simp; omega
          have d2 : decide ((a : Int) ≤ (h : Int)) = true := by simp; omega
          clear hget Ha Hl Hh Hmm
          go_wp2_with fail
          refine (kw _ (HT.out.below blA HT.out.1)).mono ?_
          rintro _ w4 ⟨rfl, hb4⟩
          go_wp2_with fail
          go_ret
          exact ⟨rfl, blA⟩

set_option maxRecDepth 100000 in
set_option maxHeartbeats 4000000 in
theorem benchPlaced_any (A B : Option Addr) (n C k D : Nat) (zs : List (Int × Int)) (us : List Int) (bst : Int) (w : World) (hz : Prs w A n zs) (hn : n ≤ 9223372036854775807) (hy : U32s w B k us) (hk : k ≤ 9223372036854775807) (hb0 : 0 ≤ bst) (hb1 : bst ≤ 255) (hT : TabW w) :
    Calls Tryd.prog 9 #[.slice A n C, .slice B k D, .int .u8 bst] w fun e w' => e = .returned (.bool true) ∧ Below w.heap.size w w' := by
  have kw := fun W hT => works_any W hT
  have HT := Lib.hid hT
  have kp := fun (W : World) (hb : Below w.heap.size w W) => places_any A n C zs W (hz.below hb) hn
  unfold RetPE at kp
  have hzl := hz.1
  by_cases hn1 : 1 ≤ n ∧ n ≤ 12
  · obtain ⟨n1, n12⟩ := hn1
    by_cases h20 : k ≤ 20
    · obtain ⟨b, rfl⟩ := Int.eq_ofNat_of_zero_le hb0
      exact placed_main A B n C k D (b % n) zs us _ w hz hy h20 n1 n12 (Nat.mod_lt _ (by omega)) (by rw [Int.tmod_eq_emod_of_nonneg hb0]; rfl) hb0 hb1 hT
    · have a0 : ¬ (n : Int) < 1 := by omega
      have a1 : ¬ (12 : Int) < (n : Int) := by omega
      have a2 : (20 : Int) < (k : Int) := by omega
      have a3 : (0 : Int) < (n : Int) := by omega
      generalize (placesE zs).1 = r1 at *
      generalize (placesE zs).2 = e1 at *
      clear hz hy hT
      go_enter Tryd.func9, Tryd.ntmps9
      go_wp2_with fail
      refine (kp _ blA).mono ?_
      rintro _ w1 ⟨A1, m1, c1, rfl, i1, -, hb1⟩
      replace hbw : Below w.heap.size w w1 := blA
      clear hb1
      clear i1 kp
      go_wp2_with fail
      refine (kw _ (HT.out.below blA HT.out.1)).mono ?_
      rintro e w2 ⟨rfl, hb2⟩
      replace hbw : Below w.heap.size w w2 := blA
      clear hb2
      go_wp2_with fail
      go_ret
      exact ⟨rfl, blA⟩
  · have hR : (placesE zs).2 = 6 := by unfold placesE; rw [if_pos (by omega)]
    rw [hR] at kp
    generalize (placesE zs).1 = r1 at *
    by_cases h12 : n = 0
    · subst h12
      clear hz hy hT
      go_enter Tryd.func9, Tryd.ntmps9
      go_wp2_with fail
      refine (kp _ blA).mono ?_
      rintro _ w1 ⟨A1, m1, c1, rfl, i1, -, hb1⟩
      replace hbw : Below w.heap.size w w1 := blA
      clear hb1
      clear i1 kp
      go_wp2_with fail
      refine (kw _ (HT.out.below blA HT.out.1)).mono ?_
      rintro e w2 ⟨rfl, hb2⟩
      replace hbw : Below w.heap.size w w2 := blA
      clear hb2
      go_wp2_with fail
      go_ret
      exact ⟨rfl, blA⟩
    · have a0 : ¬ (n : Int) < 1 := by omega
      have a1 : (12 : Int) < (n : Int) := by omega
      have a3 : (0 : Int) < (n : Int) := by omega
      clear hz hy hT
      go_enter Tryd.func9, Tryd.ntmps9
      go_wp2_with fail
      refine (kp _ blA).mono ?_
      rintro _ w1 ⟨A1, m1, c1, rfl, i1, -, hb1⟩
      replace hbw : Below w.heap.size w w1 := blA
      clear hb1
      clear i1 kp
      go_wp2_with fail
      refine (kw _ (HT.out.below blA HT.out.1)).mono ?_
      rintro e w2 ⟨rfl, hb2⟩
      replace hbw : Below w.heap.size w w2 := blA
      clear hb2
      go_wp2_with fail
      go_ret
      exact ⟨rfl, blA⟩

end Go.Proofs.YtmddpjlpbmfbgaaDoor
end

/- BenchPlaced: the call answers true, whatever the input, and every argument reads as it did. Conditions: none of its own; the listed variable is tied to the program's text by the given tie. -/
section
namespace Go.Proofs.YtmddpjlpbmfbgaaDoor
open Go.ChangeShapes Go.WideShapes Go.ChangeAt Go.RowKit
set_option linter.unusedVariables false

theorem benchPlaced_params : (Tryd.f9.params.toList.all fun t => Tryd.prog.readableRec t && decide (t < Tryd.prog.types.size)) = true := by kernel_rfl

set_option maxRecDepth 100000 in
/-- the walk, for each argument that there is and each world that holds the listed variable -/
theorem benchPlaced_contract (H : Type) (enc : TypeId × Value → H) (W : World) (base : Nat) (args : Array Value) (ds gs : List (DataW H)) (before : List MemPlace)
    (hval : ∀ (j : Nat) t v, Tryd.f9.params[j]? = some t → args[j]? = some v → Value.okWide Tryd.prog W .any base t v)
    (hW : DataW.Whole enc Tryd.prog Tryd.f9.params.toList Rows.benchPlacedSpec.vars false W args.toList ds gs before) (hL : laidMetH Tryd.prog Rows.benchPlacedRow.laid W) :
    Calls Tryd.prog 9 args W fun e W' => ∃ v, e = .returned v ∧ Rows.benchPlacedSpec.post enc Tryd.prog Tryd.f9 false true false false W args v W' := by
  have hW' := hW
  obtain ⟨p, q, hA0, hV, hps, hfz, hnd⟩ := hW
  have hA : DataW.TrodAll enc Tryd.prog W 0 (fun _ => true) true Tryd.f9.params.toList args.toList ds p := hA0
  rw [Tryd.params9] at hA hval
  obtain ⟨v0, v1, v2, d0, d1, d2, p0, p1, p2, rfl, rfl, rfl, h0, h1, h2⟩ := trodAll_three hA
  have hf := tabAt hL
  obtain ⟨A0, n0, cap0, zs0, rfl, hz0, hn0, hc0⟩ := arg_rgs (hval 0 58 v0 rfl rfl) h0
  obtain ⟨A1, n1, cap1, zs1, rfl, hz1, hn1⟩ := arg_u32s (hval 1 36 v1 rfl rfl) h1
  obtain ⟨n2, rfl, _, _, w2⟩ := open_int Tryd.underlying5 (hval 2 5 v2 rfl rfl) h2
  have bd2 := bounds_u8 w2
  clear hA0
  refine (benchPlaced_any A0 A1 n0 cap0 n1 cap1 zs0 zs1 n2 W hz0 hn0 hz1 hn1 bd2.1 bd2.2 hf).mono fun e W' ⟨he, hb⟩ => ?_
  subst he
  exact ⟨_, rfl, law_done laidOut rfl (fun t ht => by have := List.all_eq_true.1 benchPlaced_params t ht; simpa using this) (by kernel_rfl) Tryd.underlying4 hW' (fun h => by subst h; rfl) (fun h => by subst h; rfl) (fun h => by subst h; rfl) hb⟩

theorem benchPlaced_laid_met (os : Os) : laidMet Tryd.prog Rows.benchPlacedRow.laid ((laidWorld os).forCall (fun _ _ => 0) ⟨#[], #[.slice none 0 0, .slice none 0 0, .int .u8 0], []⟩).memory :=
  laidMet_of_run' 8 (by kernel_rfl) (by kernel_rfl)
theorem benchPlaced_reads (os : Os) {H : Type} (enc : TypeId × Value → H) : ∃ places, DataW.whole enc Tryd.prog ((laidWorld os).forCall (fun _ _ => 0) ⟨#[], #[.slice none 0 0, .slice none 0 0, .int .u8 0], []⟩).memory Tryd.f9.params.toList Rows.benchPlacedSpec.vars false (#[.slice none 0 0, .slice none 0 0, .int .u8 0] : Array Value).toList 8 = some ([.nil, .nil, .lit (.int .u8 0)], [], places) :=
  ⟨[], by kernel_rfl⟩

set_option maxRecDepth 100000 in
theorem benchPlaced_lifted (os : Os) (started : os.Started) (H : Type) (enc : TypeId × Value → H) (F : Stop.Interp) :
    ReturnsInHanded {} Tryd.checked os 9 .any ((OpenSpec.ofChange Rows.benchPlacedSpec).preRow enc Tryd.prog Tryd.f9 Rows.benchPlacedRow.domain false Rows.benchPlacedRow.laid) (((OpenSpec.ofChange Rows.benchPlacedSpec).at F).post enc Tryd.prog Tryd.f9 false true false false) := by
  obtain ⟨places, hx⟩ := benchPlaced_reads os enc
  refine returnsInHanded_of_row (C := Tryd.checked) (s := OpenSpec.ofChange Rows.benchPlacedSpec) own started (by kernel_rfl) Tryd.func9
    (witness_row_at (enc := enc) (C := Tryd.checked) false (laidWorld os) #[.slice none 0 0, .slice none 0 0, .int .u8 0] rfl (by kernel_rfl) (by kernel_rfl) (by kernel_rfl)
      (OpenSpec.preRow_of_cond 8 hx (by kernel_rfl) (fun k hk => by cases hk) (by kernel_rfl) (benchPlaced_laid_met os))) ?_
  intro W base args ds gs before hval hW _ _ _ hL _ _
  exact benchPlaced_contract H enc W base args ds gs before hval hW hL

theorem benchPlaced_said : Rows.BenchPlacedSaid :=
  OpenClaim.holds_of_cond 9 Tryd.f9 rfl rfl rfl rfl rfl rfl rfl ⟨rfl, rfl, rfl, rfl, rfl⟩ rfl rfl rfl rfl rfl (by kernel_rfl) Tryd.func9 (by kernel_rfl)
    (of_decide_eq_true (by kernel_rfl)) (by unfold Func.isWrapper; first | (rw [if_pos (by decide +kernel)]; kernel_rfl) | (rw [if_neg (by decide +kernel)]; exact ⟨rfl, rfl⟩))
    (fun os started H enc _ F => by rw [OpenClaim.pre_eq_preRow]; exact benchPlaced_lifted os started H enc F)

theorem benchPlaced_plain (f : FuncId) (fn : Func) (hf : Tryd.pinned.checked.prog.funcNamed Rows.benchPlacedRow.func = some f) (hfn : Tryd.pinned.checked.prog.funcs[f]? = some fn) :
    false = Tryd.pinned.checked.prog.looks [] ∧ ∀ (j : Nat) t, fn.params[j]? = some t → Tryd.pinned.checked.prog.wantsStandIn t = false := by
  obtain rfl : f = 9 := Option.some.inj ((show Tryd.prog.funcNamed Rows.benchPlacedRow.func = some 9 by kernel_rfl).symm.trans hf) |>.symm
  obtain rfl : fn = Tryd.f9 := (Option.some.inj (Tryd.func9.symm.trans hfn)).symm
  refine ⟨by kernel_rfl, fun j t ht => ?_⟩
  have hall : (Tryd.f9.params.toList.all fun u => !Tryd.prog.wantsStandIn u) = true := by kernel_rfl
  have hm : t ∈ Tryd.f9.params.toList := by simpa using Array.mem_of_getElem? ht
  exact (show Tryd.prog.wantsStandIn t = false by simpa using List.all_eq_true.1 hall t hm)

/-- BenchPlaced, the card -/
theorem benchPlaced_card : Rows.BenchPlacedCardSaid :=
  Claim7.holds_tied_plain_at .later [] _ _ _ _ benchPlaced_said (fun _ h => by cases h) (by kernel_rfl) (fun _ h => by cases h) benchPlaced_row_tie rfl ⟨rfl, rfl⟩ (by kernel_rfl) rfl benchPlaced_plain (by kernel_rfl)
#print axioms benchPlaced_card
end Go.Proofs.YtmddpjlpbmfbgaaDoor
end
