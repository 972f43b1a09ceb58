/- BK05 BT05 -/
import Derived.Test.YtmddpjlpbmfbgaaDoorBZ24
import Derived.Test.YtmddpjlpbmfbgaaDoorBZ21
import Derived.Test.YtmddpjlpbmfbgaaDoorBZ17
/- The walk of BenchZeroOne: it answers true. (Printed by gen/gen_bk05.py.) -/
section
namespace Go.Proofs.YtmddpjlpbmfbgaaDoor
open Go.RowKit Go.Shelf
set_option linter.unusedSimpArgs false
set_option linter.unusedVariables false
open Bm (Pr OkP runL runB tab rowL ordB pickB fstBad srtL srtL_congr runL_perm)

set_option maxRecDepth 100000 in
set_option maxHeartbeats 8000000 in
theorem zeroOne_main (A B : Option Addr) (n q c C k D : Nat) (p : List Pr) (bs : List Int) (bst num : Int) (w : World) (hz : Prs w A c (cst p)) (hc : c ≤ 80) (hC : c ≤ C) (hy : U32s w B k bs) (hk : k ≤ 20)
    (n2 : 2 ≤ n) (n12 : n ≤ 12) (hp : OkP n p) (hq : q < n) (hbq : bst.tmod (n : Int) = (q : Int)) (hb0 : 0 ≤ bst) (hb1 : bst ≤ 255) (hn0 : 0 ≤ num) (hn1 : num ≤ 65535) (hT : TabW w) :
    Calls Tryd.prog 5 #[.int .i64 (n : Nat), .slice A c C, .slice B k D, .int .u8 bst, .int .u16 num] w fun e w' => e = .returned (.bool true) ∧ Below w.heap.size w w' := by
  have kw := fun W hT => works_any W hT
  have HT := Lib.hid hT
  have kf := fun (W : World) (hb : Below w.heap.size w W) => fine_any (n : Int) A c C (cst p) W (hz.below hb) (by omega)
  rw [show fineP n (cst p) = true by unfold fineP; rw [chk_of n2 n12 hp (by have := hz.1; rw [cst_len] at this; omega)]; rfl] at kf
  have kt := fun (W : World) (v : Int) (hv : v = ((1 + q : Nat) : Int)) (hb : Below w.heap.size w W) => hv ▸ test_ok A n c (1 + q) C p W (hz.below hb) hc hC n2 n12 hp (by omega) (by omega) (hT.below hb hT.1)
  have kp := fun (W : World) (hb : Below w.heap.size w W) => powers_any n B k D bs W (hy.below hb) (by omega) n12
  have kr := fun (W : World) (X : Option Addr) (c' : Nat) (ys : List Int) (hb : Below w.heap.size w W) (hi : Ints W X n ys) (ho : ys.any (out 0 100000) = false) => run_ok A X n c' c C p ys W (hz.below hb) (by omega) hi n2 n12 ho hp
  have ks := fun (W : World) (X : Option Addr) (c' : Nat) (ys : List Int) (hi : Ints W X n ys) => sorted_any X n c' ys W hi (by omega) n12
  have kl := fun A B n m c c' xs W hx hy hn hm => longs_any A B n m c c' xs xs W hx hy hn hm true (by simp)
  have hRl : ∀ ys : List Int, ys.length = n → (runL p ys).length = n := fun ys h => by rw [Bm.runL_len, h]
  have hsr : ∀ ys : List Int, ys.length = n → srtL (runL p ys) = srtL ys := fun ys h => srtL_congr (runL_perm n p hp ys h)
  have hrow := fun j => Bm.rowL_len n j
  have hN := pow_le12 n12
  have kq := fun (W : World) (j : Nat) (hj : j ≤ 4096) => rrow_any n j W n2 n12 hj
  have kb := fun A B C D xs ys W hx hy => before_any A B n C D xs ys W hx hy (by omega)
  have ho := powL_out n bs
  have hpl := powL_len n bs
  have hro := fun j => rowL_out n j
  have hr01 := fun j i hi => rowL_01 (n := n) (k := j) (i := i) hi
  have hgr := fun j => gd_row (n := n) (m := 1 + q) (k := j) hp (by omega)
  have hzo := fun h => fun (ys : List Int) hl => zo_good (n := n) (m := 1 + q) hp (by omega) h (ys := ys) hl
  have hbr := fun i j hi hj h => bef_row' (n := n) (j := i) (k := j) hi hj h
  have hnum : ∃ u, u < 2 ^ n ∧ num.tmod ((2 ^ n : Nat) : Int) = (u : Nat) := ⟨(num.toNat % 2 ^ n), Nat.mod_lt _ (Nat.two_pow_pos n), by
    obtain ⟨j, rfl⟩ := Int.eq_ofNat_of_zero_le hn0; rw [Int.tmod_eq_emod_of_nonneg (by omega), Int.toNat_natCast]; rfl⟩
  unfold gdB at hgr hzo
  obtain ⟨N, hNN⟩ : ∃ N, 2 ^ n = N := ⟨_, rfl⟩
  have hsh := shl_one hNN (hNN ▸ hN)
  obtain ⟨u, hu, hum⟩ := hnum
  generalize powL n bs = ys at *
  obtain ⟨T, hTT⟩ : ∃ T, fstBad n (fun k => badT n (1 + q) (runB p (tab n k))) = T := ⟨_, rfl⟩
  unfold firstS at kt
  rw [hTT] at kt hzo
  unfold RetLE at kt kr
  unfold RetL at kq
  clear hz hy hT
  by_cases hqn : 1 + q = n
  · cases T with
    | none =>
      have x1 : ((1 + (q : Int)) == (n : Int)) = true := by simp; omega
      have x2 : decide ((1 + (q : Int)) < (n : Int)) = false := by simp; omega
      simp only [if_pos hqn] at hgr hzo
      go_enter Tryd.func5, Tryd.ntmps5
      go_wp2_with fail
      refine (kf _ blA).mono ?_
      rintro e w1 ⟨rfl, hb1⟩
      replace hbw : Below w.heap.size w w1 := blA
      clear hb1
      go_wp2_with fail
      refine (kt _ _ (by omega) blA).mono ?_
      rintro _ w2 ⟨A2, n2', c2, rfl, i2, _, hb2⟩
      replace hbw : Below w.heap.size w w2 := blA
      clear hb2
      go_wp2_with fail
      refine (kp _ blA).mono ?_
      rintro _ w3 ⟨A3, c3, rfl, i3, _, hb3⟩
      replace i2 : Ints w3 A2 n2' [] := Ints.below intsA hb3
      replace hbw : Below w.heap.size w w3 := blA
      clear hb3
      go_wp2_with fail
      refine (kr _ _ _ _ blA i3 ho).mono ?_
      rintro _ w4 ⟨A4, n4, c4, rfl, i4, _, hb4⟩
      replace i2 : Ints w4 A2 n2' [] := Ints.below intsA hb4
      replace i3 : Ints w4 A3 n ys := Ints.below intsA hb4
      replace hbw : Below w.heap.size w w4 := blA
      clear hb4
      obtain rfl : n = n4 := by rw [← i4.1, hRl _ hpl]
      go_wp2_with fail
      refine (ks _ _ _ _ i4).mono ?_
      rintro _ w5 ⟨A5, c5, rfl, i5, _, hb5⟩
      replace i2 : Ints w5 A2 n2' [] := Ints.below intsA hb5
      replace i3 : Ints w5 A3 n ys := Ints.below intsA hb5
      replace i4 : Ints w5 A4 n (runL p ys) := Ints.below intsA hb5
      replace hbw : Below w.heap.size w w5 := blA
      clear hb5
      rw [hsr ys hpl] at i5
      go_wp2_with fail
      refine (ks _ _ _ _ i3).mono ?_
      rintro _ w6 ⟨A6, c6, rfl, i6, _, hb6⟩
      try clear i3
      replace i2 : Ints w6 A2 n2' [] := Ints.below intsA hb6
      replace i4 : Ints w6 A4 n (runL p ys) := Ints.below intsA hb6
      replace i5 : Ints w6 A5 n (srtL ys) := Ints.below intsA hb6
      replace hbw : Below w.heap.size w w6 := blA
      clear hb6
      go_wp2_with fail
      refine (kl _ _ _ _ _ _ _ _ i5 i6 (by omega) (by omega)).mono ?_
      rintro e w7 ⟨rfl, hb7⟩
      try clear i3
      try clear i5
      try clear i6
      replace i2 : Ints w7 A2 n2' [] := Ints.below intsA hb7
      replace i4 : Ints w7 A4 n (runL p ys) := Ints.below intsA hb7
      replace hbw : Below w.heap.size w w7 := blA
      clear hb7
      obtain rfl : 0 = n2' := i2.1
      have hg := hzo (by simp) ys hpl
      go_wp2_with fail
      refine (rordered_any A4 n c4 _ _ i4 (by omega)).mono ?_
      rintro e w8 ⟨rfl, hb8⟩
      try clear i2
      try clear i3
      try clear i4
      try clear i5
      try clear i6
      replace hbw : Below w.heap.size w w8 := blA
      clear hb8
      rw [hg]
      go_wp2_with fail
      refine (kw _ (HT.out.below blA HT.out.1)).mono ?_
      rintro e w9 ⟨rfl, hb9⟩
      try clear i2
      try clear i3
      try clear i4
      try clear i5
      try clear i6
      replace hbw : Below w.heap.size w w9 := blA
      clear hb9
      go_wp2_with fail
      go_ret
      exact ⟨rfl, blA⟩
    | some Q =>
      have x1 : ((1 + (q : Int)) == (n : Int)) = true := by simp; omega
      have x2 : decide ((1 + (q : Int)) < (n : Int)) = false := by simp; omega
      simp only [if_pos hqn] at hgr hzo
      have hQ := Bm.fstBad_some.1 hTT
      have hbad : ordB (runL p (rowL n Q)) = false := by rw [hgr Q, hQ.2.1]; rfl
      have hbef : befB (rowL n u) (rowL n Q) = true → ordB (runL p (rowL n u)) = true := fun h => by rw [hgr u, hQ.2.2 u (hbr u Q hu hQ.1 h)]; rfl
      rw [hNN] at hum hu
      have e01 := hr01 Q
      have oQ := hro Q
      have ou := hro u
      have lQ := hrow Q
      have lu := hrow u
      have kqu := fun W => kq W u (Nat.le_of_lt (Nat.lt_of_lt_of_le hu (hNN ▸ hN)))
      dsimp only at kt
      have hN4 : N ≤ 4096 := hNN ▸ hN
      clear hzo hgr hTT hQ hr01 hro hrow hbr kq hN hNN
      generalize rowL n Q = rQ at *
      generalize rowL n u = ru at *
      go_enter Tryd.func5, Tryd.ntmps5
      go_wp2_with fail
      refine (kf _ blA).mono ?_
      rintro e w1 ⟨rfl, hb1⟩
      replace hbw : Below w.heap.size w w1 := blA
      clear hb1
      go_wp2_with fail
      refine (kt _ _ (by omega) blA).mono ?_
      rintro _ w2 ⟨A2, n2', c2, rfl, i2, _, hb2⟩
      replace hbw : Below w.heap.size w w2 := blA
      clear hb2
      go_wp2_with fail
      refine (kp _ blA).mono ?_
      rintro _ w3 ⟨A3, c3, rfl, i3, _, hb3⟩
      replace i2 : Ints w3 A2 n2' rQ := Ints.below intsA hb3
      replace hbw : Below w.heap.size w w3 := blA
      clear hb3
      go_wp2_with fail
      refine (kr _ _ _ _ blA i3 ho).mono ?_
      rintro _ w4 ⟨A4, n4, c4, rfl, i4, _, hb4⟩
      replace i2 : Ints w4 A2 n2' rQ := Ints.below intsA hb4
      replace i3 : Ints w4 A3 n ys := Ints.below intsA hb4
      replace hbw : Below w.heap.size w w4 := blA
      clear hb4
      obtain rfl : n = n4 := by rw [← i4.1, hRl _ hpl]
      go_wp2_with fail
      refine (ks _ _ _ _ i4).mono ?_
      rintro _ w5 ⟨A5, c5, rfl, i5, _, hb5⟩
      replace i2 : Ints w5 A2 n2' rQ := Ints.below intsA hb5
      replace i3 : Ints w5 A3 n ys := Ints.below intsA hb5
      replace i4 : Ints w5 A4 n (runL p ys) := Ints.below intsA hb5
      replace hbw : Below w.heap.size w w5 := blA
      clear hb5
      rw [hsr ys hpl] at i5
      go_wp2_with fail
      refine (ks _ _ _ _ i3).mono ?_
      rintro _ w6 ⟨A6, c6, rfl, i6, _, hb6⟩
      try clear i3
      replace i2 : Ints w6 A2 n2' rQ := Ints.below intsA hb6
      replace i4 : Ints w6 A4 n (runL p ys) := Ints.below intsA hb6
      replace i5 : Ints w6 A5 n (srtL ys) := Ints.below intsA hb6
      replace hbw : Below w.heap.size w w6 := blA
      clear hb6
      go_wp2_with fail
      refine (kl _ _ _ _ _ _ _ _ i5 i6 (by omega) (by omega)).mono ?_
      rintro e w7 ⟨rfl, hb7⟩
      try clear i3
      try clear i5
      try clear i6
      replace i2 : Ints w7 A2 n2' rQ := Ints.below intsA hb7
      replace i4 : Ints w7 A4 n (runL p ys) := Ints.below intsA hb7
      replace hbw : Below w.heap.size w w7 := blA
      clear hb7
      obtain rfl : n = n2' := by rw [← i2.1, lQ]
      have kgo := rordered_any A4 n c4 _ _ i4 (by omega)
      generalize ordB (runL p ys) = gd at kgo
      go_wp2_with fail
      refine kgo.mono ?_
      rintro e w8 ⟨rfl, hb8⟩
      clear kgo
      try clear i3
      try clear i4
      try clear i5
      try clear i6
      replace i2 : Ints w8 A2 n rQ := Ints.below intsA hb8
      replace hbw : Below w.heap.size w w8 := blA
      clear hb8
      cases gd with
      | true =>
        go_wp2_with fail
        go_loopw [18] (fun s18 wx => ∃ i : Nat, i ≤ n ∧ s18 = .int .i64 (i : Nat) ∧ Hid (w8 = wx)) (fun s18 _ => n - (intOf s18).toNat)
        case atStart => exact ⟨0, Nat.zero_le _, rfl, Lib.hid rfl⟩
        case round =>
          obtain ⟨i, hi, rfl, HW⟩ := hrel
          obtain rfl := HW.out
          by_cases hin : i < n
          · obtain ⟨b1, o1, rfl, _, e1⟩ := i2.at0 (Below.refl _ _) hin
            have h01 := e01 i hin
            generalize rQ.getD i 0 = x at *
            rcases h01 with rfl | rfl
            · go_wp2_with fail
              go_roundw
              case rel => exact ⟨i + 1, by omega, by go_num, Lib.hid (by simp)⟩
              case measure => simp [intOf]; omega
            · go_wp2_with fail
              go_roundw
              case rel => exact ⟨i + 1, by omega, by go_num, Lib.hid (by simp)⟩
              case measure => simp [intOf]; omega
          · have hie : n = i := by omega
            subst hie
            go_wp2_with fail
            refine (kr _ _ _ _ blA i2 oQ).mono ?_
            rintro _ w9 ⟨A9, n9, c9, rfl, i9, _, hb9⟩
            replace i2 : Ints w9 A2 n rQ := Ints.below intsA hb9
            replace hbw : Below w.heap.size w w9 := blA
            clear hb9
            obtain rfl : n = n9 := by rw [← i9.1, hRl _ lQ]
            have kgo := rordered_any A9 n c9 _ _ i9 (by omega)
            rw [hbad] at kgo
            go_wp2_with fail
            refine kgo.mono ?_
            rintro e w10 ⟨rfl, hb10⟩
            clear kgo
            try clear i9
            replace i2 : Ints w10 A2 n rQ := Ints.below intsA hb10
            replace hbw : Below w.heap.size w w10 := blA
            clear hb10
            go_wp2_with fail
            refine (kqu _).mono ?_
            rintro _ w11 ⟨A11, n11, c11, rfl, i11, _, hb11⟩
            try clear i9
            replace i2 : Ints w11 A2 n rQ := Ints.below intsA hb11
            replace hbw : Below w.heap.size w w11 := blA
            clear hb11
            obtain rfl : n = n11 := by rw [← i11.1, lu]
            have kbb := kb _ _ c11 c2 _ _ _ i11 i2
            cases hbf : befB ru rQ with
            | false =>
              rw [hbf] at kbb
              go_wp2_with fail
              refine kbb.mono ?_
              rintro e w12 ⟨rfl, hb12⟩
              clear kbb
              try clear i2
              try clear i9
              try clear i11
              replace hbw : Below w.heap.size w w12 := blA
              clear hb12
              go_wp2_with fail
              refine (kw _ (HT.out.below blA HT.out.1)).mono ?_
              rintro e w13 ⟨rfl, hb13⟩
              try clear i2
              try clear i9
              try clear i11
              replace hbw : Below w.heap.size w w13 := blA
              clear hb13
              go_wp2_with fail
              go_ret
              exact ⟨rfl, blA⟩
            | true =>
              rw [hbf] at kbb
              replace hbef := hbef hbf
              go_wp2_with fail
              refine kbb.mono ?_
              rintro e w12 ⟨rfl, hb12⟩
              clear kbb
              try clear i2
              try clear i9
              replace i11 : Ints w12 A11 n ru := Ints.below intsA hb12
              replace hbw : Below w.heap.size w w12 := blA
              clear hb12
              go_wp2_with fail
              refine (kr _ _ _ _ blA i11 ou).mono ?_
              rintro _ w14 ⟨A14, n14, c14, rfl, i14, _, hb14⟩
              try clear i2
              try clear i9
              try clear i11
              replace hbw : Below w.heap.size w w14 := blA
              clear hb14
              obtain rfl : n = n14 := by rw [← i14.1, hRl _ lu]
              have kgo := rordered_any A14 n c14 _ _ i14 (by omega)
              rw [hbef] at kgo
              go_wp2_with fail
              refine kgo.mono ?_
              rintro e w15 ⟨rfl, hb15⟩
              clear kgo
              try clear i2
              try clear i9
              try clear i11
              try clear i14
              replace hbw : Below w.heap.size w w15 := blA
              clear hb15
              go_wp2_with fail
              refine (kw _ (HT.out.below blA HT.out.1)).mono ?_
              rintro e w16 ⟨rfl, hb16⟩
              try clear i2
              try clear i9
              try clear i11
              try clear i14
              replace hbw : Below w.heap.size w w16 := blA
              clear hb16
              go_wp2_with fail
              go_ret
              exact ⟨rfl, blA⟩
      | false =>
        go_wp2_with fail
        go_loopw [18] (fun s18 wx => ∃ i : Nat, i ≤ n ∧ s18 = .int .i64 (i : Nat) ∧ Hid (w8 = wx)) (fun s18 _ => n - (intOf s18).toNat)
        case atStart => exact ⟨0, Nat.zero_le _, rfl, Lib.hid rfl⟩
        case round =>
          obtain ⟨i, hi, rfl, HW⟩ := hrel
          obtain rfl := HW.out
          by_cases hin : i < n
          · obtain ⟨b1, o1, rfl, _, e1⟩ := i2.at0 (Below.refl _ _) hin
            have h01 := e01 i hin
            generalize rQ.getD i 0 = x at *
            rcases h01 with rfl | rfl
            · go_wp2_with fail
              go_roundw
              case rel => exact ⟨i + 1, by omega, by go_num, Lib.hid (by simp)⟩
              case measure => simp [intOf]; omega
            · go_wp2_with fail
              go_roundw
              case rel => exact ⟨i + 1, by omega, by go_num, Lib.hid (by simp)⟩
              case measure => simp [intOf]; omega
          · have hie : n = i := by omega
            subst hie
            go_wp2_with fail
            refine (kr _ _ _ _ blA i2 oQ).mono ?_
            rintro _ w9 ⟨A9, n9, c9, rfl, i9, _, hb9⟩
            replace i2 : Ints w9 A2 n rQ := Ints.below intsA hb9
            replace hbw : Below w.heap.size w w9 := blA
            clear hb9
            obtain rfl : n = n9 := by rw [← i9.1, hRl _ lQ]
            have kgo := rordered_any A9 n c9 _ _ i9 (by omega)
            rw [hbad] at kgo
            go_wp2_with fail
            refine kgo.mono ?_
            rintro e w10 ⟨rfl, hb10⟩
            clear kgo
            try clear i9
            replace i2 : Ints w10 A2 n rQ := Ints.below intsA hb10
            replace hbw : Below w.heap.size w w10 := blA
            clear hb10
            go_wp2_with fail
            refine (kqu _).mono ?_
            rintro _ w11 ⟨A11, n11, c11, rfl, i11, _, hb11⟩
            try clear i9
            replace i2 : Ints w11 A2 n rQ := Ints.below intsA hb11
            replace hbw : Below w.heap.size w w11 := blA
            clear hb11
            obtain rfl : n = n11 := by rw [← i11.1, lu]
            have kbb := kb _ _ c11 c2 _ _ _ i11 i2
            cases hbf : befB ru rQ with
            | false =>
              rw [hbf] at kbb
              go_wp2_with fail
              refine kbb.mono ?_
              rintro e w12 ⟨rfl, hb12⟩
              clear kbb
              try clear i2
              try clear i9
              try clear i11
              replace hbw : Below w.heap.size w w12 := blA
              clear hb12
              go_wp2_with fail
              refine (kw _ (HT.out.below blA HT.out.1)).mono ?_
              rintro e w13 ⟨rfl, hb13⟩
              try clear i2
              try clear i9
              try clear i11
              replace hbw : Below w.heap.size w w13 := blA
              clear hb13
              go_wp2_with fail
              go_ret
              exact ⟨rfl, blA⟩
            | true =>
              rw [hbf] at kbb
              replace hbef := hbef hbf
              go_wp2_with fail
              refine kbb.mono ?_
              rintro e w12 ⟨rfl, hb12⟩
              clear kbb
              try clear i2
              try clear i9
              replace i11 : Ints w12 A11 n ru := Ints.below intsA hb12
              replace hbw : Below w.heap.size w w12 := blA
              clear hb12
              go_wp2_with fail
              refine (kr _ _ _ _ blA i11 ou).mono ?_
              rintro _ w14 ⟨A14, n14, c14, rfl, i14, _, hb14⟩
              try clear i2
              try clear i9
              try clear i11
              replace hbw : Below w.heap.size w w14 := blA
              clear hb14
              obtain rfl : n = n14 := by rw [← i14.1, hRl _ lu]
              have kgo := rordered_any A14 n c14 _ _ i14 (by omega)
              rw [hbef] at kgo
              go_wp2_with fail
              refine kgo.mono ?_
              rintro e w15 ⟨rfl, hb15⟩
              clear kgo
              try clear i2
              try clear i9
              try clear i11
              try clear i14
              replace hbw : Below w.heap.size w w15 := blA
              clear hb15
              go_wp2_with fail
              refine (kw _ (HT.out.below blA HT.out.1)).mono ?_
              rintro e w16 ⟨rfl, hb16⟩
              try clear i2
              try clear i9
              try clear i11
              try clear i14
              replace hbw : Below w.heap.size w w16 := blA
              clear hb16
              go_wp2_with fail
              go_ret
              exact ⟨rfl, blA⟩
  · cases T with
    | none =>
      have x1 : ((1 + (q : Int)) == (n : Int)) = false := by simp; omega
      have x2 : decide ((1 + (q : Int)) < (n : Int)) = true := by simp; omega
      have kpk := fun W X c' xs (hi : Ints W X n xs) => rpicked_any X n c' (1 + q) xs W hi (by omega) (by omega)
      simp only [if_neg hqn] at hgr hzo
      go_enter Tryd.func5, Tryd.ntmps5
      go_wp2_with fail
      refine (kf _ blA).mono ?_
      rintro e w1 ⟨rfl, hb1⟩
      replace hbw : Below w.heap.size w w1 := blA
      clear hb1
      go_wp2_with fail
      refine (kt _ _ (by omega) blA).mono ?_
      rintro _ w2 ⟨A2, n2', c2, rfl, i2, _, hb2⟩
      replace hbw : Below w.heap.size w w2 := blA
      clear hb2
      go_wp2_with fail
      refine (kp _ blA).mono ?_
      rintro _ w3 ⟨A3, c3, rfl, i3, _, hb3⟩
      replace i2 : Ints w3 A2 n2' [] := Ints.below intsA hb3
      replace hbw : Below w.heap.size w w3 := blA
      clear hb3
      go_wp2_with fail
      refine (kr _ _ _ _ blA i3 ho).mono ?_
      rintro _ w4 ⟨A4, n4, c4, rfl, i4, _, hb4⟩
      replace i2 : Ints w4 A2 n2' [] := Ints.below intsA hb4
      replace i3 : Ints w4 A3 n ys := Ints.below intsA hb4
      replace hbw : Below w.heap.size w w4 := blA
      clear hb4
      obtain rfl : n = n4 := by rw [← i4.1, hRl _ hpl]
      go_wp2_with fail
      refine (ks _ _ _ _ i4).mono ?_
      rintro _ w5 ⟨A5, c5, rfl, i5, _, hb5⟩
      replace i2 : Ints w5 A2 n2' [] := Ints.below intsA hb5
      replace i3 : Ints w5 A3 n ys := Ints.below intsA hb5
      replace i4 : Ints w5 A4 n (runL p ys) := Ints.below intsA hb5
      replace hbw : Below w.heap.size w w5 := blA
      clear hb5
      rw [hsr ys hpl] at i5
      go_wp2_with fail
      refine (ks _ _ _ _ i3).mono ?_
      rintro _ w6 ⟨A6, c6, rfl, i6, _, hb6⟩
      try clear i3
      replace i2 : Ints w6 A2 n2' [] := Ints.below intsA hb6
      replace i4 : Ints w6 A4 n (runL p ys) := Ints.below intsA hb6
      replace i5 : Ints w6 A5 n (srtL ys) := Ints.below intsA hb6
      replace hbw : Below w.heap.size w w6 := blA
      clear hb6
      go_wp2_with fail
      refine (kl _ _ _ _ _ _ _ _ i5 i6 (by omega) (by omega)).mono ?_
      rintro e w7 ⟨rfl, hb7⟩
      try clear i3
      try clear i5
      try clear i6
      replace i2 : Ints w7 A2 n2' [] := Ints.below intsA hb7
      replace i4 : Ints w7 A4 n (runL p ys) := Ints.below intsA hb7
      replace hbw : Below w.heap.size w w7 := blA
      clear hb7
      obtain rfl : 0 = n2' := i2.1
      have hg := hzo (by simp) ys hpl
      go_wp2_with fail
      refine (kpk _ _ _ _ i4).mono ?_
      rintro e w8 ⟨rfl, hb8⟩
      try clear i2
      try clear i3
      try clear i4
      try clear i5
      try clear i6
      replace hbw : Below w.heap.size w w8 := blA
      clear hb8
      rw [hg]
      go_wp2_with fail
      refine (kw _ (HT.out.below blA HT.out.1)).mono ?_
      rintro e w9 ⟨rfl, hb9⟩
      try clear i2
      try clear i3
      try clear i4
      try clear i5
      try clear i6
      replace hbw : Below w.heap.size w w9 := blA
      clear hb9
      go_wp2_with fail
      go_ret
      exact ⟨rfl, blA⟩
    | some Q =>
      have x1 : ((1 + (q : Int)) == (n : Int)) = false := by simp; omega
      have x2 : decide ((1 + (q : Int)) < (n : Int)) = true := by simp; omega
      have kpk := fun W X c' xs (hi : Ints W X n xs) => rpicked_any X n c' (1 + q) xs W hi (by omega) (by omega)
      simp only [if_neg hqn] at hgr hzo
      have hQ := Bm.fstBad_some.1 hTT
      have hbad : pickB (runL p (rowL n Q)) (1 + q) = false := by rw [hgr Q, hQ.2.1]; rfl
      have hbef : befB (rowL n u) (rowL n Q) = true → pickB (runL p (rowL n u)) (1 + q) = true := fun h => by rw [hgr u, hQ.2.2 u (hbr u Q hu hQ.1 h)]; rfl
      rw [hNN] at hum hu
      have e01 := hr01 Q
      have oQ := hro Q
      have ou := hro u
      have lQ := hrow Q
      have lu := hrow u
      have kqu := fun W => kq W u (Nat.le_of_lt (Nat.lt_of_lt_of_le hu (hNN ▸ hN)))
      dsimp only at kt
      have hN4 : N ≤ 4096 := hNN ▸ hN
      clear hzo hgr hTT hQ hr01 hro hrow hbr kq hN hNN
      generalize rowL n Q = rQ at *
      generalize rowL n u = ru at *
      go_enter Tryd.func5, Tryd.ntmps5
      go_wp2_with fail
      refine (kf _ blA).mono ?_
      rintro e w1 ⟨rfl, hb1⟩
      replace hbw : Below w.heap.size w w1 := blA
      clear hb1
      go_wp2_with fail
      refine (kt _ _ (by omega) blA).mono ?_
      rintro _ w2 ⟨A2, n2', c2, rfl, i2, _, hb2⟩
      replace hbw : Below w.heap.size w w2 := blA
      clear hb2
      go_wp2_with fail
      refine (kp _ blA).mono ?_
      rintro _ w3 ⟨A3, c3, rfl, i3, _, hb3⟩
      replace i2 : Ints w3 A2 n2' rQ := Ints.below intsA hb3
      replace hbw : Below w.heap.size w w3 := blA
      clear hb3
      go_wp2_with fail
      refine (kr _ _ _ _ blA i3 ho).mono ?_
      rintro _ w4 ⟨A4, n4, c4, rfl, i4, _, hb4⟩
      replace i2 : Ints w4 A2 n2' rQ := Ints.below intsA hb4
      replace i3 : Ints w4 A3 n ys := Ints.below intsA hb4
      replace hbw : Below w.heap.size w w4 := blA
      clear hb4
      obtain rfl : n = n4 := by rw [← i4.1, hRl _ hpl]
      go_wp2_with fail
      refine (ks _ _ _ _ i4).mono ?_
      rintro _ w5 ⟨A5, c5, rfl, i5, _, hb5⟩
      replace i2 : Ints w5 A2 n2' rQ := Ints.below intsA hb5
      replace i3 : Ints w5 A3 n ys := Ints.below intsA hb5
      replace i4 : Ints w5 A4 n (runL p ys) := Ints.below intsA hb5
      replace hbw : Below w.heap.size w w5 := blA
      clear hb5
      rw [hsr ys hpl] at i5
      go_wp2_with fail
      refine (ks _ _ _ _ i3).mono ?_
      rintro _ w6 ⟨A6, c6, rfl, i6, _, hb6⟩
      try clear i3
      replace i2 : Ints w6 A2 n2' rQ := Ints.below intsA hb6
      replace i4 : Ints w6 A4 n (runL p ys) := Ints.below intsA hb6
      replace i5 : Ints w6 A5 n (srtL ys) := Ints.below intsA hb6
      replace hbw : Below w.heap.size w w6 := blA
      clear hb6
      go_wp2_with fail
      refine (kl _ _ _ _ _ _ _ _ i5 i6 (by omega) (by omega)).mono ?_
      rintro e w7 ⟨rfl, hb7⟩
      try clear i3
      try clear i5
      try clear i6
      replace i2 : Ints w7 A2 n2' rQ := Ints.below intsA hb7
      replace i4 : Ints w7 A4 n (runL p ys) := Ints.below intsA hb7
      replace hbw : Below w.heap.size w w7 := blA
      clear hb7
      obtain rfl : n = n2' := by rw [← i2.1, lQ]
      have kgo := rpicked_any A4 n c4 (1 + q) _ _ i4 (by omega) (by omega)
      generalize pickB (runL p ys) (1 + q) = gd at kgo
      go_wp2_with fail
      refine kgo.mono ?_
      rintro e w8 ⟨rfl, hb8⟩
      clear kgo
      try clear i3
      try clear i4
      try clear i5
      try clear i6
      replace i2 : Ints w8 A2 n rQ := Ints.below intsA hb8
      replace hbw : Below w.heap.size w w8 := blA
      clear hb8
      cases gd with
      | true =>
        go_wp2_with fail
        go_loopw [18] (fun s18 wx => ∃ i : Nat, i ≤ n ∧ s18 = .int .i64 (i : Nat) ∧ Hid (w8 = wx)) (fun s18 _ => n - (intOf s18).toNat)
        case atStart => exact ⟨0, Nat.zero_le _, rfl, Lib.hid rfl⟩
        case round =>
          obtain ⟨i, hi, rfl, HW⟩ := hrel
          obtain rfl := HW.out
          by_cases hin : i < n
          · obtain ⟨b1, o1, rfl, _, e1⟩ := i2.at0 (Below.refl _ _) hin
            have h01 := e01 i hin
            generalize rQ.getD i 0 = x at *
            rcases h01 with rfl | rfl
            · go_wp2_with fail
              go_roundw
              case rel => exact ⟨i + 1, by omega, by go_num, Lib.hid (by simp)⟩
              case measure => simp [intOf]; omega
            · go_wp2_with fail
              go_roundw
              case rel => exact ⟨i + 1, by omega, by go_num, Lib.hid (by simp)⟩
              case measure => simp [intOf]; omega
          · have hie : n = i := by omega
            subst hie
            go_wp2_with fail
            refine (kr _ _ _ _ blA i2 oQ).mono ?_
            rintro _ w9 ⟨A9, n9, c9, rfl, i9, _, hb9⟩
            replace i2 : Ints w9 A2 n rQ := Ints.below intsA hb9
            replace hbw : Below w.heap.size w w9 := blA
            clear hb9
            obtain rfl : n = n9 := by rw [← i9.1, hRl _ lQ]
            have kgo := rpicked_any A9 n c9 (1 + q) _ _ i9 (by omega) (by omega)
            rw [hbad] at kgo
            go_wp2_with fail
            refine kgo.mono ?_
            rintro e w10 ⟨rfl, hb10⟩
            clear kgo
            try clear i9
            replace i2 : Ints w10 A2 n rQ := Ints.below intsA hb10
            replace hbw : Below w.heap.size w w10 := blA
            clear hb10
            go_wp2_with fail
            refine (kqu _).mono ?_
            rintro _ w11 ⟨A11, n11, c11, rfl, i11, _, hb11⟩
            try clear i9
            replace i2 : Ints w11 A2 n rQ := Ints.below intsA hb11
            replace hbw : Below w.heap.size w w11 := blA
            clear hb11
            obtain rfl : n = n11 := by rw [← i11.1, lu]
            have kbb := kb _ _ c11 c2 _ _ _ i11 i2
            cases hbf : befB ru rQ with
            | false =>
              rw [hbf] at kbb
              go_wp2_with fail
              refine kbb.mono ?_
              rintro e w12 ⟨rfl, hb12⟩
              clear kbb
              try clear i2
              try clear i9
              try clear i11
              replace hbw : Below w.heap.size w w12 := blA
              clear hb12
              go_wp2_with fail
              refine (kw _ (HT.out.below blA HT.out.1)).mono ?_
              rintro e w13 ⟨rfl, hb13⟩
              try clear i2
              try clear i9
              try clear i11
              replace hbw : Below w.heap.size w w13 := blA
              clear hb13
              go_wp2_with fail
              go_ret
              exact ⟨rfl, blA⟩
            | true =>
              rw [hbf] at kbb
              replace hbef := hbef hbf
              go_wp2_with fail
              refine kbb.mono ?_
              rintro e w12 ⟨rfl, hb12⟩
              clear kbb
              try clear i2
              try clear i9
              replace i11 : Ints w12 A11 n ru := Ints.below intsA hb12
              replace hbw : Below w.heap.size w w12 := blA
              clear hb12
              go_wp2_with fail
              refine (kr _ _ _ _ blA i11 ou).mono ?_
              rintro _ w14 ⟨A14, n14, c14, rfl, i14, _, hb14⟩
              try clear i2
              try clear i9
              try clear i11
              replace hbw : Below w.heap.size w w14 := blA
              clear hb14
              obtain rfl : n = n14 := by rw [← i14.1, hRl _ lu]
              have kgo := rpicked_any A14 n c14 (1 + q) _ _ i14 (by omega) (by omega)
              rw [hbef] at kgo
              go_wp2_with fail
              refine kgo.mono ?_
              rintro e w15 ⟨rfl, hb15⟩
              clear kgo
              try clear i2
              try clear i9
              try clear i11
              try clear i14
              replace hbw : Below w.heap.size w w15 := blA
              clear hb15
              go_wp2_with fail
              refine (kw _ (HT.out.below blA HT.out.1)).mono ?_
              rintro e w16 ⟨rfl, hb16⟩
              try clear i2
              try clear i9
              try clear i11
              try clear i14
              replace hbw : Below w.heap.size w w16 := blA
              clear hb16
              go_wp2_with fail
              go_ret
              exact ⟨rfl, blA⟩
      | false =>
        go_wp2_with fail
        go_loopw [18] (fun s18 wx => ∃ i : Nat, i ≤ n ∧ s18 = .int .i64 (i : Nat) ∧ Hid (w8 = wx)) (fun s18 _ => n - (intOf s18).toNat)
        case atStart => exact ⟨0, Nat.zero_le _, rfl, Lib.hid rfl⟩
        case round =>
          obtain ⟨i, hi, rfl, HW⟩ := hrel
          obtain rfl := HW.out
          by_cases hin : i < n
          · obtain ⟨b1, o1, rfl, _, e1⟩ := i2.at0 (Below.refl _ _) hin
            have h01 := e01 i hin
            generalize rQ.getD i 0 = x at *
            rcases h01 with rfl | rfl
            · go_wp2_with fail
              go_roundw
              case rel => exact ⟨i + 1, by omega, by go_num, Lib.hid (by simp)⟩
              case measure => simp [intOf]; omega
            · go_wp2_with fail
              go_roundw
              case rel => exact ⟨i + 1, by omega, by go_num, Lib.hid (by simp)⟩
              case measure => simp [intOf]; omega
          · have hie : n = i := by omega
            subst hie
            go_wp2_with fail
            refine (kr _ _ _ _ blA i2 oQ).mono ?_
            rintro _ w9 ⟨A9, n9, c9, rfl, i9, _, hb9⟩
            replace i2 : Ints w9 A2 n rQ := Ints.below intsA hb9
            replace hbw : Below w.heap.size w w9 := blA
            clear hb9
            obtain rfl : n = n9 := by rw [← i9.1, hRl _ lQ]
            have kgo := rpicked_any A9 n c9 (1 + q) _ _ i9 (by omega) (by omega)
            rw [hbad] at kgo
            go_wp2_with fail
            refine kgo.mono ?_
            rintro e w10 ⟨rfl, hb10⟩
            clear kgo
            try clear i9
            replace i2 : Ints w10 A2 n rQ := Ints.below intsA hb10
            replace hbw : Below w.heap.size w w10 := blA
            clear hb10
            go_wp2_with fail
            refine (kqu _).mono ?_
            rintro _ w11 ⟨A11, n11, c11, rfl, i11, _, hb11⟩
            try clear i9
            replace i2 : Ints w11 A2 n rQ := Ints.below intsA hb11
            replace hbw : Below w.heap.size w w11 := blA
            clear hb11
            obtain rfl : n = n11 := by rw [← i11.1, lu]
            have kbb := kb _ _ c11 c2 _ _ _ i11 i2
            cases hbf : befB ru rQ with
            | false =>
              rw [hbf] at kbb
              go_wp2_with fail
              refine kbb.mono ?_
              rintro e w12 ⟨rfl, hb12⟩
              clear kbb
              try clear i2
              try clear i9
              try clear i11
              replace hbw : Below w.heap.size w w12 := blA
              clear hb12
              go_wp2_with fail
              refine (kw _ (HT.out.below blA HT.out.1)).mono ?_
              rintro e w13 ⟨rfl, hb13⟩
              try clear i2
              try clear i9
              try clear i11
              replace hbw : Below w.heap.size w w13 := blA
              clear hb13
              go_wp2_with fail
              go_ret
              exact ⟨rfl, blA⟩
            | true =>
              rw [hbf] at kbb
              replace hbef := hbef hbf
              go_wp2_with fail
              refine kbb.mono ?_
              rintro e w12 ⟨rfl, hb12⟩
              clear kbb
              try clear i2
              try clear i9
              replace i11 : Ints w12 A11 n ru := Ints.below intsA hb12
              replace hbw : Below w.heap.size w w12 := blA
              clear hb12
              go_wp2_with fail
              refine (kr _ _ _ _ blA i11 ou).mono ?_
              rintro _ w14 ⟨A14, n14, c14, rfl, i14, _, hb14⟩
              try clear i2
              try clear i9
              try clear i11
              replace hbw : Below w.heap.size w w14 := blA
              clear hb14
              obtain rfl : n = n14 := by rw [← i14.1, hRl _ lu]
              have kgo := rpicked_any A14 n c14 (1 + q) _ _ i14 (by omega) (by omega)
              rw [hbef] at kgo
              go_wp2_with fail
              refine kgo.mono ?_
              rintro e w15 ⟨rfl, hb15⟩
              clear kgo
              try clear i2
              try clear i9
              try clear i11
              try clear i14
              replace hbw : Below w.heap.size w w15 := blA
              clear hb15
              go_wp2_with fail
              refine (kw _ (HT.out.below blA HT.out.1)).mono ?_
              rintro e w16 ⟨rfl, hb16⟩
              try clear i2
              try clear i9
              try clear i11
              try clear i14
              replace hbw : Below w.heap.size w w16 := blA
              clear hb16
              go_wp2_with fail
              go_ret
              exact ⟨rfl, blA⟩

set_option maxRecDepth 100000 in
set_option maxHeartbeats 4000000 in
theorem benchZeroOne_any (l : Int) (A B : Option Addr) (m C k D : Nat) (zs : List (Int × Int)) (bs : List Int) (bst num : Int) (w : World) (hz : Prs w A m zs) (hm : m ≤ 9223372036854775807) (hC : m ≤ C) (hy : U32s w B k bs) (hk : k ≤ 9223372036854775807) (hb0 : 0 ≤ bst) (hb1 : bst ≤ 255) (hn0 : 0 ≤ num) (hn1 : num ≤ 65535) (hT : TabW w) :
    Calls Tryd.prog 5 #[.int .i64 l, .slice A m C, .slice B k D, .int .u8 bst, .int .u16 num] w fun e w' => e = .returned (.bool true) ∧ Below w.heap.size w w' := by
  have kw := fun W hT => works_any W hT
  have HT := Lib.hid hT
  have kf := fun (W : World) (hb : Below w.heap.size w W) => fine_any l A m C zs W (hz.below hb) hm
  by_cases h0 : chkP l zs = 0
  · rw [show fineP l zs = true by unfold fineP; simp [h0]] at kf
    by_cases h20 : 20 < k
    · have h2 : (20 : Int) < (k : Int) := by omega
      clear hz hy hT h0
      go_enter Tryd.func5, Tryd.ntmps5
      go_wp2_with fail
      refine (kf _ blA).mono ?_
      rintro e w1 ⟨rfl, hb1⟩
      replace hbw : Below w.heap.size w w1 := blA
      clear hb1
      go_wp2_with fail
      refine (kw _ (HT.out.below blA HT.out.1)).mono ?_
      rintro e w2 ⟨rfl, hb2⟩
      replace hbw : Below w.heap.size w w2 := blA
      clear hb2
      go_wp2_with fail
      go_ret
      exact ⟨rfl, blA⟩
    · obtain ⟨n, p, rfl, n2, n12, rfl, hp, hpl⟩ := chk_ok h0
      have hml := hz.1
      rw [cst_len] at hml
      obtain ⟨b, rfl⟩ := Int.eq_ofNat_of_zero_le hb0
      exact zeroOne_main A B n (b % n) m C k D p bs _ num w hz (by omega) hC hy (by omega) n2 n12 hp (Nat.mod_lt _ (by omega)) (by rw [Int.tmod_eq_emod_of_nonneg hb0]; rfl) hb0 hb1 hn0 hn1 hT
  · rw [show fineP l zs = false by unfold fineP; simp [h0]] at kf
    clear hz hy hT h0
    go_enter Tryd.func5, Tryd.ntmps5
    go_wp2_with fail
    refine (kf _ blA).mono ?_
    rintro e w1 ⟨rfl, hb1⟩
    replace hbw : Below w.heap.size w w1 := blA
    clear hb1
    go_wp2_with fail
    refine (kw _ (HT.out.below blA HT.out.1)).mono ?_
    rintro e w2 ⟨rfl, hb2⟩
    replace hbw : Below w.heap.size w w2 := blA
    clear hb2
    go_wp2_with fail
    go_ret
    exact ⟨rfl, blA⟩

end Go.Proofs.YtmddpjlpbmfbgaaDoor
end

/- BenchZeroOne: the call answers true, whatever the input, and every argument reads as it did. Conditions: none of its own; the listed variable is tied to the program's text by the given tie. -/
section
namespace Go.Proofs.YtmddpjlpbmfbgaaDoor
open Go.ChangeShapes Go.WideShapes Go.ChangeAt Go.RowKit
set_option linter.unusedVariables false

theorem benchZeroOne_params : (Tryd.f5.params.toList.all fun t => Tryd.prog.readableRec t && decide (t < Tryd.prog.types.size)) = true := by kernel_rfl

set_option maxRecDepth 100000 in
/-- the walk, for each argument that there is and each world that holds the listed variable -/
theorem benchZeroOne_contract (H : Type) (enc : TypeId × Value → H) (W : World) (base : Nat) (args : Array Value) (ds gs : List (DataW H)) (before : List MemPlace)
    (hval : ∀ (j : Nat) t v, Tryd.f5.params[j]? = some t → args[j]? = some v → Value.okWide Tryd.prog W .any base t v)
    (hW : DataW.Whole enc Tryd.prog Tryd.f5.params.toList Rows.benchZeroOneSpec.vars false W args.toList ds gs before) (hL : laidMetH Tryd.prog Rows.benchZeroOneRow.laid W) :
    Calls Tryd.prog 5 args W fun e W' => ∃ v, e = .returned v ∧ Rows.benchZeroOneSpec.post enc Tryd.prog Tryd.f5 false true false false W args v W' := by
  have hW' := hW
  obtain ⟨p, q, hA0, hV, hps, hfz, hnd⟩ := hW
  have hA : DataW.TrodAll enc Tryd.prog W 0 (fun _ => true) true Tryd.f5.params.toList args.toList ds p := hA0
  rw [Tryd.params5] at hA hval
  obtain ⟨v0, v1, v2, v3, v4, d0, d1, d2, d3, d4, p0, p1, p2, p3, p4, rfl, rfl, rfl, h0, h1, h2, h3, h4⟩ := trodAll_five hA
  have hf := tabAt hL
  obtain ⟨n0, rfl, _, _, w0⟩ := open_int Tryd.underlying3 (hval 0 3 v0 rfl rfl) h0
  have bd0 := bounds_i64 w0
  obtain ⟨A1, n1, cap1, zs1, rfl, hz1, hn1, hc1⟩ := arg_prs (hval 1 22 v1 rfl rfl) h1
  obtain ⟨A2, n2, cap2, zs2, rfl, hz2, hn2⟩ := arg_u32s (hval 2 36 v2 rfl rfl) h2
  obtain ⟨n3, rfl, _, _, w3⟩ := open_int Tryd.underlying5 (hval 3 5 v3 rfl rfl) h3
  have bd3 := bounds_u8 w3
  obtain ⟨n4, rfl, _, _, w4⟩ := open_int Tryd.underlying37 (hval 4 37 v4 rfl rfl) h4
  have bd4 := bounds_u16 w4
  clear hA0
  refine (benchZeroOne_any n0 A1 A2 n1 cap1 n2 cap2 zs1 zs2 n3 n4 W hz1 hn1 hc1 hz2 hn2 bd3.1 bd3.2 bd4.1 bd4.2 hf).mono fun e W' ⟨he, hb⟩ => ?_
  subst he
  exact ⟨_, rfl, law_done laidOut rfl (fun t ht => by have := List.all_eq_true.1 benchZeroOne_params t ht; simpa using this) (by kernel_rfl) Tryd.underlying4 hW' (fun h => by subst h; rfl) (fun h => by subst h; rfl) (fun h => by subst h; rfl) hb⟩

theorem benchZeroOne_laid_met (os : Os) : laidMet Tryd.prog Rows.benchZeroOneRow.laid ((laidWorld os).forCall (fun _ _ => 0) ⟨#[], #[.int .i64 0, .slice none 0 0, .slice none 0 0, .int .u8 0, .int .u16 0], []⟩).memory :=
  laidMet_of_run' 8 (by kernel_rfl) (by kernel_rfl)
theorem benchZeroOne_reads (os : Os) {H : Type} (enc : TypeId × Value → H) : ∃ places, DataW.whole enc Tryd.prog ((laidWorld os).forCall (fun _ _ => 0) ⟨#[], #[.int .i64 0, .slice none 0 0, .slice none 0 0, .int .u8 0, .int .u16 0], []⟩).memory Tryd.f5.params.toList Rows.benchZeroOneSpec.vars false (#[.int .i64 0, .slice none 0 0, .slice none 0 0, .int .u8 0, .int .u16 0] : Array Value).toList 8 = some ([.lit (.int .i64 0), .nil, .nil, .lit (.int .u8 0), .lit (.int .u16 0)], [], places) :=
  ⟨[], by kernel_rfl⟩

set_option maxRecDepth 100000 in
theorem benchZeroOne_lifted (os : Os) (started : os.Started) (H : Type) (enc : TypeId × Value → H) (F : Stop.Interp) :
    ReturnsInHanded {} Tryd.checked os 5 .any ((OpenSpec.ofChange Rows.benchZeroOneSpec).preRow enc Tryd.prog Tryd.f5 Rows.benchZeroOneRow.domain false Rows.benchZeroOneRow.laid) (((OpenSpec.ofChange Rows.benchZeroOneSpec).at F).post enc Tryd.prog Tryd.f5 false true false false) := by
  obtain ⟨places, hx⟩ := benchZeroOne_reads os enc
  refine returnsInHanded_of_row (C := Tryd.checked) (s := OpenSpec.ofChange Rows.benchZeroOneSpec) own started (by kernel_rfl) Tryd.func5
    (witness_row_at (enc := enc) (C := Tryd.checked) false (laidWorld os) #[.int .i64 0, .slice none 0 0, .slice none 0 0, .int .u8 0, .int .u16 0] rfl (by kernel_rfl) (by kernel_rfl) (by kernel_rfl)
      (OpenSpec.preRow_of_cond 8 hx (by kernel_rfl) (fun k hk => by cases hk) (by kernel_rfl) (benchZeroOne_laid_met os))) ?_
  intro W base args ds gs before hval hW _ _ _ hL _ _
  exact benchZeroOne_contract H enc W base args ds gs before hval hW hL

theorem benchZeroOne_said : Rows.BenchZeroOneSaid :=
  OpenClaim.holds_of_cond 5 Tryd.f5 rfl rfl rfl rfl rfl rfl rfl ⟨rfl, rfl, rfl, rfl, rfl⟩ rfl rfl rfl rfl rfl (by kernel_rfl) Tryd.func5 (by kernel_rfl)
    (of_decide_eq_true (by kernel_rfl)) (by unfold Func.isWrapper; first | (rw [if_pos (by decide +kernel)]; kernel_rfl) | (rw [if_neg (by decide +kernel)]; exact ⟨rfl, rfl⟩))
    (fun os started H enc _ F => by rw [OpenClaim.pre_eq_preRow]; exact benchZeroOne_lifted os started H enc F)

theorem benchZeroOne_plain (f : FuncId) (fn : Func) (hf : Tryd.pinned.checked.prog.funcNamed Rows.benchZeroOneRow.func = some f) (hfn : Tryd.pinned.checked.prog.funcs[f]? = some fn) :
    false = Tryd.pinned.checked.prog.looks [] ∧ ∀ (j : Nat) t, fn.params[j]? = some t → Tryd.pinned.checked.prog.wantsStandIn t = false := by
  obtain rfl : f = 5 := Option.some.inj ((show Tryd.prog.funcNamed Rows.benchZeroOneRow.func = some 5 by kernel_rfl).symm.trans hf) |>.symm
  obtain rfl : fn = Tryd.f5 := (Option.some.inj (Tryd.func5.symm.trans hfn)).symm
  refine ⟨by kernel_rfl, fun j t ht => ?_⟩
  have hall : (Tryd.f5.params.toList.all fun u => !Tryd.prog.wantsStandIn u) = true := by kernel_rfl
  have hm : t ∈ Tryd.f5.params.toList := by simpa using Array.mem_of_getElem? ht
  exact (show Tryd.prog.wantsStandIn t = false by simpa using List.all_eq_true.1 hall t hm)

/-- BenchZeroOne, the card -/
theorem benchZeroOne_card : Rows.BenchZeroOneCardSaid :=
  Claim7.holds_tied_plain_at .later [] _ _ _ _ benchZeroOne_said (fun _ h => by cases h) (by kernel_rfl) (fun _ h => by cases h) benchZeroOne_row_tie rfl ⟨rfl, rfl⟩ (by kernel_rfl) rfl benchZeroOne_plain (by kernel_rfl)
#print axioms benchZeroOne_card
end Go.Proofs.YtmddpjlpbmfbgaaDoor
end
