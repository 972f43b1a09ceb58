/- BK09 BT09 -/
import Derived.Test.YtmddpjlpbmfbgaaDoorBZ24
import Derived.Test.YtmddpjlpbmfbgaaDoorBZ30
import Derived.Test.YtmddpjlpbmfbgaaDoorBZ21
import Derived.Test.YtmddpjlpbmfbgaaDoorBZ17
/- The walk of BenchTrimmed: it answers true. -/
section
namespace Go.Proofs.YtmddpjlpbmfbgaaDoor
open Go.RowKit Go.Shelf
set_option linter.unusedSimpArgs false
set_option linter.unusedVariables false
open Bm (Pr OkP runL srtL uslL trmL depL)

set_option maxRecDepth 100000 in
set_option maxHeartbeats 16000000 in
theorem trimmed_main (A B : Option Addr) (n c C k D : Nat) (p : List Pr) (bs : List Int) (bst : Int) (w : World) (hz : Prs w A c (cst p)) (hc : c ≤ 80) (hC : c ≤ C) (hy : U32s w B k bs) (hk : k ≤ 20)
    (n2 : 2 ≤ n) (n12 : n ≤ 12) (hp : OkP n p) (hb0 : 0 ≤ bst) (hb1 : bst ≤ 255) (hT : TabW w) :
    Calls Tryd.prog 14 #[.int .i64 (n : Nat), .slice A c C, .slice B k D, .int .u8 bst] w fun e w' => e = .returned (.bool true) ∧ Below w.heap.size w w' := by
  have kw := fun W hT => works_any W hT
  have HT := Lib.hid hT
  have hpl : p.length = c := by have := hz.1; rwa [cst_len] at this
  have kf := fun (W : World) (hb : Below w.heap.size w W) => fine_any (n : Int) A c C (cst p) W (hz.below hb) (by omega)
  rw [show fineP n (cst p) = true by unfold fineP; rw [chk_of n2 n12 hp (by omega)]; rfl] at kf
  have ku := fun (W : World) (hb : Below w.heap.size w W) => useless_ok A n c C p W (hz.below hb) hc hC n2 n12 hp
  have kt := fun (W : World) (hb : Below w.heap.size w W) => trim_ok A n c C p W (hz.below hb) hc hC n2 n12 hp
  have kp := fun (W : World) (hb : Below w.heap.size w W) => powers_any n B k D bs W (hy.below hb) (by omega) n12
  have kd := fun (W : World) (hb : Below w.heap.size w W) => depth_ok A n c C p W (hz.below hb) hc n2 n12 hp
  have kl := fun A B n m c c' xs W hx hy hn hm => longs_any A B n m c c' xs xs W hx hy hn hm true (by simp)
  have kq := fun A B n m c c' xs W hx hy hn hm => pairs_any A B n m c c' xs xs W hx hy hn hm true (by simp)
  have ho := powL_out n bs
  have hyl := powL_len n bs
  have hQok := trm_ok (n := n) hp
  have hQr := fun ys hl => trm_runL hp (ys := ys) hl
  have hQa := trm_again (n := n) hp
  have hQd := Bm.depL_sub (Bm.trm_sub (n := n) p [])
  have hQl := Bm.trm_len (n := n) p [] 0
  have hU := fun (j : Nat) (hj : j ∈ uslL n [] 0 p) (ys : List Int) (hl : ys.length = n) => usl_row hp hj hl
  generalize powL n bs = ys at *
  have kr := fun (W : World) (X : Option Addr) (c' : Nat) (hb : Below w.heap.size w W) (hi : Ints W X n ys) => run_ok A X n c' c C p ys W (hz.below hb) (by omega) hi n2 n12 ho hp
  generalize trmL n [] p = Q at *
  generalize uslL n [] 0 p = U at *
  have kf2 := fun (W : World) (X : Option Addr) (m M : Nat) (hi : Prs W X m (cst Q)) => fine_any (n : Int) X m M (cst Q) W hi (by have := hi.1; rw [cst_len] at this; omega)
  rw [show fineP n (cst Q) = true by unfold fineP; rw [chk_of n2 n12 hQok (by omega)]; rfl] at kf2
  have kt2 := fun (W : World) (X : Option Addr) (m M : Nat) (hi : Prs W X m (cst Q)) (hM : m ≤ M) => trim_ok X n m M Q W hi (by have := hi.1; rw [cst_len] at this; omega) hM n2 n12 hQok
  rw [hQa] at kt2
  have kr2 := fun (W : World) (Y : Option Addr) (m M : Nat) (hi : Prs W Y m (cst Q)) (X : Option Addr) (c' : Nat) (hx : Ints W X n ys) => run_ok Y X n c' m M Q ys W hi (by have := hi.1; rw [cst_len] at this; omega) hx n2 n12 ho hQok
  rw [hQr ys hyl] at kr2
  have kd2 := fun (W : World) (X : Option Addr) (m M : Nat) (hi : Prs W X m (cst Q)) => depth_ok X n m M Q W hi (by have := hi.1; rw [cst_len] at this; omega) n2 n12 hQok
  have hRl : (runL p ys).length = n := by rw [Bm.runL_len, hyl]
  have hUl : (U.map fun x => ((x : Nat) : Int)).length = U.length := by simp
  have hCl := cst_len Q
  have Hz := Lib.hid hz
  have HU := Lib.hid (fun j hj => hU j hj ys hyl)
  have Ho := Lib.hid ho
  have Hyl := Lib.hid hyl
  clear hU hQr hQa ho
  unfold RetLE at ku kr kr2
  unfold RetPE at kt kt2
  have Hkr := Lib.hid fun (W : World) (q : Nat) (hq : q < c) (X : Option Addr) (c' : Nat) (hb : Below w.heap.size w W) (hx : Ints W X n ys) => run_ok A X n c' q C (p.take q) ys W (by
    obtain ⟨b, off, rfl, _⟩ := hz.2 (by omega)
    have := (hz.below hb).pre q (by omega)
    rwa [cst_take] at this) (by omega) hx n2 n12 Ho.out (hp.sub fun y hy => List.mem_of_mem_take hy)
  generalize runL p ys = R at *
  generalize depL p = dp at *
  generalize depL Q = dq at *
  have hd : decide ((dp : Int) < (dq : Int)) = false := by simp; omega
  have a2 : ¬ (20 : Int) < (k : Int) := by omega
  clear hz hy hT hp
  go_enter Tryd.func14, Tryd.ntmps14
  go_wp2_with fail
  refine (kf _ blA).mono ?_
  rintro e w1 ⟨rfl, hb1⟩
  replace hbw : Below w.heap.size w w1 := blA
  clear hb1
  go_wp2_with fail
  refine (ku _ blA).mono ?_
  rintro _ w2 ⟨A2, n2', c2, rfl, i2, ⟨hl2, hl2'⟩, hb2⟩
  replace hbw : Below w.heap.size w w2 := blA
  clear hb2
  go_wp2_with fail
  refine (kt _ blA).mono ?_
  rintro _ w3 ⟨A3, n3, c3, rfl, i3, ⟨hl3, hl3'⟩, hb3⟩
  replace i2 : Ints w3 A2 n2' (U.map fun x => ((x : Nat) : Int)) := Ints.below intsA hb3
  replace hbw : Below w.heap.size w w3 := blA
  clear hb3
  obtain rfl : n2' = U.length := by rw [← i2.1, hUl]
  obtain rfl : n3 = Q.length := by rw [← i3.1, hCl]
  have hs : ((U.length : Nat) : Int) + ((Q.length : Nat) : Int) = (c : Int) := by omega
  clear kf ku kt
  go_wp2_with fail
  refine (kf2 _ _ _ _ i3).mono ?_
  rintro _ w4 ⟨rfl, hb4⟩
  replace i2 : Ints w4 A2 U.length (U.map fun x => ((x : Nat) : Int)) := Ints.below intsA hb4
  replace i3 : Prs w4 A3 Q.length (cst Q) := Prs.below i3 blA
  replace hbw : Below w.heap.size w w4 := blA
  clear hb4
  go_wp2_with fail
  refine (kp _ blA).mono ?_
  rintro _ w5 ⟨A5, c5, rfl, i5, hn5, hb5⟩
  replace i2 : Ints w5 A2 U.length (U.map fun x => ((x : Nat) : Int)) := Ints.below intsA hb5
  replace i3 : Prs w5 A3 Q.length (cst Q) := Prs.below i3 blA
  replace hbw : Below w.heap.size w w5 := blA
  clear hb5
  go_wp2_with fail
  refine (kr _ _ _ blA i5).mono ?_
  rintro _ w6 ⟨A6, n6, c6, rfl, i6, _, hb6⟩
  replace i2 : Ints w6 A2 U.length (U.map fun x => ((x : Nat) : Int)) := Ints.below intsA hb6
  replace i3 : Prs w6 A3 Q.length (cst Q) := Prs.below i3 blA
  replace i5 : Ints w6 A5 n ys := Ints.below intsA hb6
  replace hbw : Below w.heap.size w w6 := blA
  clear hb6
  obtain rfl : n = n6 := by rw [← i6.1, hRl]
  go_wp2_with fail
  refine (kr2 _ _ _ _ i3 _ _ i5).mono ?_
  rintro _ w7 ⟨A7, n7, c7, rfl, i7, _, hb7⟩
  replace i2 : Ints w7 A2 U.length (U.map fun x => ((x : Nat) : Int)) := Ints.below intsA hb7
  replace i3 : Prs w7 A3 Q.length (cst Q) := Prs.below i3 blA
  replace i5 : Ints w7 A5 n ys := Ints.below intsA hb7
  replace i6 : Ints w7 A6 n R := Ints.below intsA hb7
  replace hbw : Below w.heap.size w w7 := blA
  clear hb7
  obtain rfl : n = n7 := by rw [← i7.1, hRl]
  clear kf2 kp kr kr2
  go_wp2_with fail
  refine (kd _ blA).mono ?_
  rintro e w8 ⟨rfl, hb8⟩
  replace i2 : Ints w8 A2 U.length (U.map fun x => ((x : Nat) : Int)) := Ints.below intsA hb8
  replace i3 : Prs w8 A3 Q.length (cst Q) := Prs.below i3 blA
  replace i5 : Ints w8 A5 n ys := Ints.below intsA hb8
  replace i6 : Ints w8 A6 n R := Ints.below intsA hb8
  replace i7 : Ints w8 A7 n R := Ints.below intsA hb8
  replace hbw : Below w.heap.size w w8 := blA
  clear hb8
  go_wp2_with fail
  refine (kd2 _ _ _ _ i3).mono ?_
  rintro e w9 ⟨rfl, hb9⟩
  replace i2 : Ints w9 A2 U.length (U.map fun x => ((x : Nat) : Int)) := Ints.below intsA hb9
  replace i3 : Prs w9 A3 Q.length (cst Q) := Prs.below i3 blA
  replace i5 : Ints w9 A5 n ys := Ints.below intsA hb9
  replace i6 : Ints w9 A6 n R := Ints.below intsA hb9
  replace i7 : Ints w9 A7 n R := Ints.below intsA hb9
  replace hbw : Below w.heap.size w w9 := blA
  clear hb9
  go_wp2_with fail
  refine (kt2 _ _ _ _ i3 (by omega)).mono ?_
  rintro _ w10 ⟨A10, n10, c10, rfl, i10, ⟨hl10, hl10'⟩, hb10⟩
  replace i2 : Ints w10 A2 U.length (U.map fun x => ((x : Nat) : Int)) := Ints.below intsA hb10
  replace i3 : Prs w10 A3 Q.length (cst Q) := Prs.below i3 blA
  replace i5 : Ints w10 A5 n ys := Ints.below intsA hb10
  replace i6 : Ints w10 A6 n R := Ints.below intsA hb10
  replace i7 : Ints w10 A7 n R := Ints.below intsA hb10
  replace hbw : Below w.heap.size w w10 := blA
  clear hb10
  clear kd kd2 kt2
  go_wp2_with fail
  refine (kl _ _ _ _ _ _ _ _ i6 i7 (by omega) (by omega)).mono ?_
  rintro e w11 ⟨rfl, hb11⟩
  try clear i6
  try clear i7
  replace i2 : Ints w11 A2 U.length (U.map fun x => ((x : Nat) : Int)) := Ints.below intsA hb11
  replace i3 : Prs w11 A3 Q.length (cst Q) := Prs.below i3 blA
  replace i5 : Ints w11 A5 n ys := Ints.below intsA hb11
  replace i10 : Prs w11 A10 n10 (cst Q) := Prs.below i10 blA
  replace hbw : Below w.heap.size w w11 := blA
  clear hb11
  go_wp2_with fail
  refine (kq _ _ _ _ _ _ _ _ i10 i3 (by omega) (by omega)).mono ?_
  rintro e w12 ⟨rfl, hb12⟩
  try clear i3
  try clear i6
  try clear i7
  try clear i10
  replace i2 : Ints w12 A2 U.length (U.map fun x => ((x : Nat) : Int)) := Ints.below intsA hb12
  replace i5 : Ints w12 A5 n ys := Ints.below intsA hb12
  replace hbw : Below w.heap.size w w12 := blA
  clear hb12
  clear kl kq
  by_cases hu0 : U.length = 0
  · have e1 : ((U.length : Nat) : Int) = 0 := by omega
    have e2 : (((U.length : Nat) : Int) == 0) = true := by rw [beq_iff_eq]; omega
    clear i2 i5
    go_wp2_with fail
    refine (kw _ (HT.out.below blA HT.out.1)).mono ?_
    rintro e w13 ⟨rfl, hb13⟩
    replace hbw : Below w.heap.size w w13 := blA
    clear hb13
    go_wp2_with fail
    go_ret
    exact ⟨rfl, blA⟩
  · have e1 : ¬ ((U.length : Nat) : Int) = 0 := by omega
    have e2 : (((U.length : Nat) : Int) == 0) = false := by rw [beq_eq_false_iff_ne]; omega
    obtain ⟨b, rfl⟩ := Int.eq_ofNat_of_zero_le hb0
    have hr : b % U.length < U.length := Nat.mod_lt _ (by omega)
    have hrm : ((b : Nat) : Int).tmod (U.length : Nat) = ((b % U.length : Nat) : Int) := by rw [Int.tmod_eq_emod_of_nonneg hb0]; simp
    generalize b % U.length = r at *
    obtain ⟨b2, o2, rfl, hlt2, hc2⟩ := i2.at0 (Below.refl _ _) hr
    have hgr : (U.map fun x => ((x : Nat) : Int)).getD r 0 = ((U[r] : Nat) : Int) := by rw [List.getD_eq_getElem?_getD, List.getElem?_map, List.getElem?_eq_getElem hr]; rfl
    rw [hgr] at hc2
    obtain ⟨x, hx, hx2, hxl⟩ := HU.out U[r] (List.getElem_mem _)
    generalize U[r] = q at *
    have hqc : q < c := by have := (List.getElem?_eq_some_iff.1 hx).1; omega
    obtain ⟨b0, o0, rfl, hlt0, hcz⟩ := Hz.out.2 (by omega)
    have hkr := fun W X c' hb hx => Hkr.out W q hqc X c' hb hx
    have hcx := hcz q (x.1 : Nat) (x.2 : Nat) (by unfold cst; rw [List.getElem?_map, hx]; rfl)
    have Hcx := Lib.hid hcx
    have hTl : (runL (p.take q) ys).length = n := by rw [Bm.runL_len, Hyl.out]
    generalize runL (p.take q) ys = S at *
    unfold RetLE at hkr
    have q0 : ¬ (q : Int) < 0 := by omega
    have q1 : ¬ (c : Int) ≤ (q : Int) := by omega
    have q2 : (0 : Int) ≤ (q : Int) := by omega
    have q3 : (q : Int) ≤ (C : Int) := by omega
    clear HU Hkr hcz hcx hgr Hz
    go_wp2_with fail
    refine (hkr _ _ _ blA i5).mono ?_
    rintro _ w13 ⟨A13, n13, c13, rfl, i13, _, hb13⟩
    try clear i2
    try clear i5
    replace hbw : Below w.heap.size w w13 := blA
    clear hb13
    obtain rfl : n = n13 := by rw [← i13.1, hTl]
    clear hkr
    obtain ⟨b13, o13, rfl, hlt13, v1⟩ := i13.at0 (Below.refl _ _) (show x.1 < n by omega)
    obtain ⟨b13', o13', e13, _, v2⟩ := i13.at0 (Below.refl _ _) hx2.2
    injection e13 with e13
    injection e13 with e13 e13'
    subst e13 e13'
    obtain ⟨xa, xb⟩ := x
    simp only [] at v1 v2 hxl hx2 Hcx
    generalize S.getD xa 0 = va at *
    generalize S.getD xb 0 = vb at *
    have Hi13 := Lib.hid i13
    have hS1 : ∀ V, Below w13.heap.size w13 V → V.cell? ⟨b0, o0 + q * 2, none⟩ = some (.int .i64 (xa : Nat)) ∧ V.cell? ⟨b0, o0 + q * 2 + 1, none⟩ = some (.int .i64 (xb : Nat)) ∧ V.cell? ⟨b13, o13 + xa, none⟩ = some (.int .i64 va) ∧ V.cell? ⟨b13, o13 + xb, none⟩ = some (.int .i64 vb) := fun V hV =>
      have hV0 := hbw.trans (hV.mono hbw.size)
      ⟨(hV0.cell (p := ⟨b0, _, none⟩) hlt0).trans Hcx.out.1, (hV0.cell (p := ⟨b0, _, none⟩) hlt0).trans Hcx.out.2, (hV.cell (p := ⟨b13, _, none⟩) hlt13).trans v1, (hV.cell (p := ⟨b13, _, none⟩) hlt13).trans v2⟩
    have hS0 := hS1 w13.drew ((Below.refl _ _).drew)
    have g1 : (q : Int) < (c : Int) := by omega
    have g2 : (xa : Int) < (n : Int) := by omega
    have g3 : (xb : Int) < (n : Int) := by omega
    have g4 : decide (vb ≤ va) = true := by simpa using hxl
    clear i13 Hcx hxl v1 v2
    go_wp2_with fail
    refine wp_region_seq (S := fun V => V.cell? ⟨b0, o0 + q * 2, none⟩ = some (.int .i64 (xa : Nat)) ∧ V.cell? ⟨b0, o0 + q * 2 + 1, none⟩ = some (.int .i64 (xb : Nat)) ∧ V.cell? ⟨b13, o13 + xa, none⟩ = some (.int .i64 va) ∧ V.cell? ⟨b13, o13 + xb, none⟩ = some (.int .i64 vb)) [.t 0 1, .t 1 3, .t 2 7, .t 3 15, .t 5 47, .o 4 63, .t 6 127, .t 7 255, .t 8 511, .t 9 1023, .t 10 2047, .t 11 4095, .t 12 8191, .t 13 16383, .t 14 32767, .t 15 65535, .t 16 131071, .t 17 262143, .t 18 524287, .t 19 1048575, .t 20 2097151, .t 21 4194303, .t 22 8388607, .t 23 16777215, .t 24 33554431, .t 25 67108863, .t 26 134217727, .t 27 268435455, .o 28 536870911, .t 29 1073741823, .t 30 2147483647] (by kernel_rfl) (by kernel_rfl) (by as_aux_lemma => kernel_rfl) (by kernel_rfl) (fun c a d v w h => by cases d <;> exact h) hS0 (fun _ => ?_)
    refine seq_take (v := ?_) rfl (by rfl) ?_ ?_
    rotate_left
    · intro w9 hSw; obtain ⟨s1, s2, s3, s4⟩ := hSw; (go_simp; (try simp only [g1, g2, g3, g4, and_self, if_true, if_false]) <;> with_reducible rfl)
    try simp only [Act.put, List.setIfInBounds_toArray, List.set_cons_zero, List.set_cons_succ]
    refine seq_take (v := ?_) rfl (by rfl) ?_ ?_
    rotate_left
    · intro w9 hSw; obtain ⟨s1, s2, s3, s4⟩ := hSw; (go_simp; (try simp only [g1, g2, g3, g4, and_self, if_true, if_false]) <;> with_reducible rfl)
    try simp only [Act.put, List.setIfInBounds_toArray, List.set_cons_zero, List.set_cons_succ]
    refine seq_take (v := ?_) rfl (by rfl) ?_ ?_
    rotate_left
    · intro w9 hSw; obtain ⟨s1, s2, s3, s4⟩ := hSw; (go_simp; (try simp only [g1, g2, g3, g4, and_self, if_true, if_false]) <;> with_reducible rfl)
    try simp only [Act.put, List.setIfInBounds_toArray, List.set_cons_zero, List.set_cons_succ]
    refine seq_take (v := ?_) rfl (by rfl) ?_ ?_
    rotate_left
    · intro w9 hSw; obtain ⟨s1, s2, s3, s4⟩ := hSw; (go_simp; (try simp only [g1, g2, g3, g4, and_self, if_true, if_false]) <;> with_reducible rfl)
    try simp only [Act.put, List.setIfInBounds_toArray, List.set_cons_zero, List.set_cons_succ]
    refine seq_take (v := ?_) rfl (by rfl) ?_ ?_
    rotate_left
    · intro w9 hSw; obtain ⟨s1, s2, s3, s4⟩ := hSw; (go_simp; (try simp only [g1, g2, g3, g4, and_self, if_true, if_false]) <;> with_reducible rfl)
    try simp only [Act.put, List.setIfInBounds_toArray, List.set_cons_zero, List.set_cons_succ]
    refine seq_one rfl (fun K9 hS9 => ?_)
    go_simp
    refine hS9.out _ _ hS0 (fun _ => ?_)
    clear hS9 K9
    try simp only [Act.put, List.setIfInBounds_toArray, List.set_cons_zero, List.set_cons_succ]
    refine seq_take (v := ?_) rfl (by rfl) ?_ ?_
    rotate_left
    · intro w9 hSw; obtain ⟨s1, s2, s3, s4⟩ := hSw; (go_simp; (try simp only [g1, g2, g3, g4, and_self, if_true, if_false]) <;> with_reducible rfl)
    try simp only [Act.put, List.setIfInBounds_toArray, List.set_cons_zero, List.set_cons_succ]
    refine seq_take (v := ?_) rfl (by rfl) ?_ ?_
    rotate_left
    · intro w9 hSw; obtain ⟨s1, s2, s3, s4⟩ := hSw; (go_simp; (try simp only [g1, g2, g3, g4, and_self, if_true, if_false]) <;> with_reducible rfl)
    try simp only [Act.put, List.setIfInBounds_toArray, List.set_cons_zero, List.set_cons_succ]
    refine seq_take (v := ?_) rfl (by rfl) ?_ ?_
    rotate_left
    · intro w9 hSw; obtain ⟨s1, s2, s3, s4⟩ := hSw; (go_simp; (try simp only [g1, g2, g3, g4, and_self, if_true, if_false]) <;> with_reducible rfl)
    try simp only [Act.put, List.setIfInBounds_toArray, List.set_cons_zero, List.set_cons_succ]
    refine seq_take (v := ?_) rfl (by rfl) ?_ ?_
    rotate_left
    · intro w9 hSw; obtain ⟨s1, s2, s3, s4⟩ := hSw; (go_simp; (try simp only [g1, g2, g3, g4, and_self, if_true, if_false]) <;> with_reducible rfl)
    try simp only [Act.put, List.setIfInBounds_toArray, List.set_cons_zero, List.set_cons_succ]
    refine seq_take (v := ?_) rfl (by rfl) ?_ ?_
    rotate_left
    · intro w9 hSw; obtain ⟨s1, s2, s3, s4⟩ := hSw; (go_simp; (try simp only [g1, g2, g3, g4, and_self, if_true, if_false]) <;> with_reducible rfl)
    try simp only [Act.put, List.setIfInBounds_toArray, List.set_cons_zero, List.set_cons_succ]
    refine seq_take (v := ?_) rfl (by rfl) ?_ ?_
    rotate_left
    · intro w9 hSw; obtain ⟨s1, s2, s3, s4⟩ := hSw; (go_simp; (try simp only [g1, g2, g3, g4, and_self, if_true, if_false]) <;> with_reducible rfl)
    try simp only [Act.put, List.setIfInBounds_toArray, List.set_cons_zero, List.set_cons_succ]
    refine seq_take (v := ?_) rfl (by rfl) ?_ ?_
    rotate_left
    · intro w9 hSw; obtain ⟨s1, s2, s3, s4⟩ := hSw; (go_simp; (try simp only [g1, g2, g3, g4, and_self, if_true, if_false]) <;> with_reducible rfl)
    try simp only [Act.put, List.setIfInBounds_toArray, List.set_cons_zero, List.set_cons_succ]
    refine seq_take (v := ?_) rfl (by rfl) ?_ ?_
    rotate_left
    · intro w9 hSw; obtain ⟨s1, s2, s3, s4⟩ := hSw; (go_simp; (try simp only [g1, g2, g3, g4, and_self, if_true, if_false]) <;> with_reducible rfl)
    try simp only [Act.put, List.setIfInBounds_toArray, List.set_cons_zero, List.set_cons_succ]
    refine seq_take (v := ?_) rfl (by rfl) ?_ ?_
    rotate_left
    · intro w9 hSw; obtain ⟨s1, s2, s3, s4⟩ := hSw; (go_simp; (try simp only [g1, g2, g3, g4, and_self, if_true, if_false]) <;> with_reducible rfl)
    try simp only [Act.put, List.setIfInBounds_toArray, List.set_cons_zero, List.set_cons_succ]
    refine seq_take (v := ?_) rfl (by rfl) ?_ ?_
    rotate_left
    · intro w9 hSw; obtain ⟨s1, s2, s3, s4⟩ := hSw; (go_simp; (try simp only [g1, g2, g3, g4, and_self, if_true, if_false]) <;> with_reducible rfl)
    try simp only [Act.put, List.setIfInBounds_toArray, List.set_cons_zero, List.set_cons_succ]
    refine seq_take (v := ?_) rfl (by rfl) ?_ ?_
    rotate_left
    · intro w9 hSw; obtain ⟨s1, s2, s3, s4⟩ := hSw; (go_simp; (try simp only [g1, g2, g3, g4, and_self, if_true, if_false]) <;> with_reducible rfl)
    try simp only [Act.put, List.setIfInBounds_toArray, List.set_cons_zero, List.set_cons_succ]
    refine seq_take (v := ?_) rfl (by rfl) ?_ ?_
    rotate_left
    · intro w9 hSw; obtain ⟨s1, s2, s3, s4⟩ := hSw; (go_simp; (try simp only [g1, g2, g3, g4, and_self, if_true, if_false]) <;> with_reducible rfl)
    try simp only [Act.put, List.setIfInBounds_toArray, List.set_cons_zero, List.set_cons_succ]
    refine seq_take (v := ?_) rfl (by rfl) ?_ ?_
    rotate_left
    · intro w9 hSw; obtain ⟨s1, s2, s3, s4⟩ := hSw; (go_simp; (try simp only [g1, g2, g3, g4, and_self, if_true, if_false]) <;> with_reducible rfl)
    try simp only [Act.put, List.setIfInBounds_toArray, List.set_cons_zero, List.set_cons_succ]
    refine seq_take (v := ?_) rfl (by rfl) ?_ ?_
    rotate_left
    · intro w9 hSw; obtain ⟨s1, s2, s3, s4⟩ := hSw; (go_simp; (try simp only [g1, g2, g3, g4, and_self, if_true, if_false]) <;> with_reducible rfl)
    try simp only [Act.put, List.setIfInBounds_toArray, List.set_cons_zero, List.set_cons_succ]
    refine seq_take (v := ?_) rfl (by rfl) ?_ ?_
    rotate_left
    · intro w9 hSw; obtain ⟨s1, s2, s3, s4⟩ := hSw; (go_simp; (try simp only [g1, g2, g3, g4, and_self, if_true, if_false]) <;> with_reducible rfl)
    try simp only [Act.put, List.setIfInBounds_toArray, List.set_cons_zero, List.set_cons_succ]
    refine seq_take (v := ?_) rfl (by rfl) ?_ ?_
    rotate_left
    · intro w9 hSw; obtain ⟨s1, s2, s3, s4⟩ := hSw; (go_simp; (try simp only [g1, g2, g3, g4, and_self, if_true, if_false]) <;> with_reducible rfl)
    try simp only [Act.put, List.setIfInBounds_toArray, List.set_cons_zero, List.set_cons_succ]
    refine seq_take (v := ?_) rfl (by rfl) ?_ ?_
    rotate_left
    · intro w9 hSw; obtain ⟨s1, s2, s3, s4⟩ := hSw; (go_simp; (try simp only [g1, g2, g3, g4, and_self, if_true, if_false]) <;> with_reducible rfl)
    try simp only [Act.put, List.setIfInBounds_toArray, List.set_cons_zero, List.set_cons_succ]
    refine seq_take (v := ?_) rfl (by rfl) ?_ ?_
    rotate_left
    · intro w9 hSw; obtain ⟨s1, s2, s3, s4⟩ := hSw; (go_simp; (try simp only [g1, g2, g3, g4, and_self, if_true, if_false]) <;> with_reducible rfl)
    try simp only [Act.put, List.setIfInBounds_toArray, List.set_cons_zero, List.set_cons_succ]
    refine seq_take (v := ?_) rfl (by rfl) ?_ ?_
    rotate_left
    · intro w9 hSw; obtain ⟨s1, s2, s3, s4⟩ := hSw; (go_simp; (try simp only [g1, g2, g3, g4, and_self, if_true, if_false]) <;> with_reducible rfl)
    try simp only [Act.put, List.setIfInBounds_toArray, List.set_cons_zero, List.set_cons_succ]
    refine seq_take (v := ?_) rfl (by rfl) ?_ ?_
    rotate_left
    · intro w9 hSw; obtain ⟨s1, s2, s3, s4⟩ := hSw; (go_simp; (try simp only [g1, g2, g3, g4, and_self, if_true, if_false]) <;> with_reducible rfl)
    try simp only [Act.put, List.setIfInBounds_toArray, List.set_cons_zero, List.set_cons_succ]
    refine seq_take (v := ?_) rfl (by rfl) ?_ ?_
    rotate_left
    · intro w9 hSw; obtain ⟨s1, s2, s3, s4⟩ := hSw; (go_simp; (try simp only [g1, g2, g3, g4, and_self, if_true, if_false]) <;> with_reducible rfl)
    try simp only [Act.put, List.setIfInBounds_toArray, List.set_cons_zero, List.set_cons_succ]
    refine seq_take (v := ?_) rfl (by rfl) ?_ ?_
    rotate_left
    · intro w9 hSw; obtain ⟨s1, s2, s3, s4⟩ := hSw; (go_simp; (try simp only [g1, g2, g3, g4, and_self, if_true, if_false]) <;> with_reducible rfl)
    try simp only [Act.put, List.setIfInBounds_toArray, List.set_cons_zero, List.set_cons_succ]
    refine seq_one rfl (fun K9 hS9 => ?_)
    go_simp
    refine (kw _ (HT.out.below blA HT.out.1)).mono ?_
    rintro e w14 ⟨rfl, hb14⟩
    refine hS9.out _ _ (hS1 _ blA) (fun _ => ?_)
    clear hS9 K9
    try simp only [Act.put, List.setIfInBounds_toArray, List.set_cons_zero, List.set_cons_succ]
    refine seq_take (v := ?_) rfl (by rfl) ?_ ?_
    rotate_left
    · intro w9 hSw; obtain ⟨s1, s2, s3, s4⟩ := hSw; (go_simp; (try simp only [g1, g2, g3, g4, and_self, if_true, if_false]) <;> with_reducible rfl)
    try simp only [Act.put, List.setIfInBounds_toArray, List.set_cons_zero, List.set_cons_succ]
    refine seq_take (v := ?_) rfl (by rfl) ?_ ?_
    rotate_left
    · intro w9 hSw; obtain ⟨s1, s2, s3, s4⟩ := hSw; (go_simp; (try simp only [g1, g2, g3, g4, and_self, if_true, if_false]) <;> with_reducible rfl)
    try simp only [Act.put, List.setIfInBounds_toArray, List.set_cons_zero, List.set_cons_succ]
    refine seq_done ?_
    clear hS0
    replace hbw : Below w.heap.size w w14 := blA
    go_wp2_with fail
    go_ret
    exact ⟨rfl, blA⟩

set_option maxRecDepth 100000 in
set_option maxHeartbeats 4000000 in
theorem benchTrimmed_any (l : Int) (A B : Option Addr) (m C k D : Nat) (zs : List (Int × Int)) (bs : List Int) (bst : Int) (w : World) (hz : Prs w A m zs) (hm : m ≤ 9223372036854775807) (hC : m ≤ C) (hy : U32s w B k bs) (hk : k ≤ 9223372036854775807) (hb0 : 0 ≤ bst) (hb1 : bst ≤ 255) (hT : TabW w) :
    Calls Tryd.prog 14 #[.int .i64 l, .slice A m C, .slice B k D, .int .u8 bst] w fun e w' => e = .returned (.bool true) ∧ Below w.heap.size w w' := by
  have kw := fun W hT => works_any W hT
  have HT := Lib.hid hT
  have kf := fun (W : World) (hb : Below w.heap.size w W) => fine_any l A m C zs W (hz.below hb) hm
  by_cases h0 : chkP l zs = 0
  · rw [show fineP l zs = true by unfold fineP; simp [h0]] at kf
    by_cases h20 : 20 < k
    · have h2 : (20 : Int) < (k : Int) := by omega
      clear hz hy hT h0
      go_enter Tryd.func14, Tryd.ntmps14
      go_wp2_with fail
      refine (kf _ blA).mono ?_
      rintro e w1 ⟨rfl, hb1⟩
      replace hbw : Below w.heap.size w w1 := blA
      clear hb1
      go_wp2_with fail
      refine (kw _ (HT.out.below blA HT.out.1)).mono ?_
      rintro e w2 ⟨rfl, hb2⟩
      replace hbw : Below w.heap.size w w2 := blA
      clear hb2
      go_wp2_with fail
      go_ret
      exact ⟨rfl, blA⟩
    · obtain ⟨n, p, rfl, n2, n12, rfl, hp, hpl⟩ := chk_ok h0
      have hml := hz.1
      rw [cst_len] at hml
      exact trimmed_main A B n m C k D p bs bst w hz (by omega) hC hy (by omega) n2 n12 hp hb0 hb1 hT
  · rw [show fineP l zs = false by unfold fineP; simp [h0]] at kf
    clear hz hy hT h0
    go_enter Tryd.func14, Tryd.ntmps14
    go_wp2_with fail
    refine (kf _ blA).mono ?_
    rintro e w1 ⟨rfl, hb1⟩
    replace hbw : Below w.heap.size w w1 := blA
    clear hb1
    go_wp2_with fail
    refine (kw _ (HT.out.below blA HT.out.1)).mono ?_
    rintro e w2 ⟨rfl, hb2⟩
    replace hbw : Below w.heap.size w w2 := blA
    clear hb2
    go_wp2_with fail
    go_ret
    exact ⟨rfl, blA⟩

end Go.Proofs.YtmddpjlpbmfbgaaDoor
end

/- BenchTrimmed: the call answers true, whatever the input, and every argument reads as it did. Conditions: none of its own; the listed variable is tied to the program's text by the given tie. -/
section
namespace Go.Proofs.YtmddpjlpbmfbgaaDoor
open Go.ChangeShapes Go.WideShapes Go.ChangeAt Go.RowKit
set_option linter.unusedVariables false

theorem benchTrimmed_params : (Tryd.f14.params.toList.all fun t => Tryd.prog.readableRec t && decide (t < Tryd.prog.types.size)) = true := by kernel_rfl

set_option maxRecDepth 100000 in
/-- the walk, for each argument that there is and each world that holds the listed variable -/
theorem benchTrimmed_contract (H : Type) (enc : TypeId × Value → H) (W : World) (base : Nat) (args : Array Value) (ds gs : List (DataW H)) (before : List MemPlace)
    (hval : ∀ (j : Nat) t v, Tryd.f14.params[j]? = some t → args[j]? = some v → Value.okWide Tryd.prog W .any base t v)
    (hW : DataW.Whole enc Tryd.prog Tryd.f14.params.toList Rows.benchTrimmedSpec.vars false W args.toList ds gs before) (hL : laidMetH Tryd.prog Rows.benchTrimmedRow.laid W) :
    Calls Tryd.prog 14 args W fun e W' => ∃ v, e = .returned v ∧ Rows.benchTrimmedSpec.post enc Tryd.prog Tryd.f14 false true false false W args v W' := by
  have hW' := hW
  obtain ⟨p, q, hA0, hV, hps, hfz, hnd⟩ := hW
  have hA : DataW.TrodAll enc Tryd.prog W 0 (fun _ => true) true Tryd.f14.params.toList args.toList ds p := hA0
  rw [Tryd.params14] at hA hval
  obtain ⟨v0, v1, v2, v3, d0, d1, d2, d3, p0, p1, p2, p3, rfl, rfl, rfl, h0, h1, h2, h3⟩ := trodAll_four_ hA
  have hf := tabAt hL
  obtain ⟨n0, rfl, _, _, w0⟩ := open_int Tryd.underlying3 (hval 0 3 v0 rfl rfl) h0
  have bd0 := bounds_i64 w0
  obtain ⟨A1, n1, cap1, zs1, rfl, hz1, hn1, hc1⟩ := arg_prs (hval 1 22 v1 rfl rfl) h1
  obtain ⟨A2, n2, cap2, zs2, rfl, hz2, hn2⟩ := arg_u32s (hval 2 36 v2 rfl rfl) h2
  obtain ⟨n3, rfl, _, _, w3⟩ := open_int Tryd.underlying5 (hval 3 5 v3 rfl rfl) h3
  have bd3 := bounds_u8 w3
  clear hA0
  refine (benchTrimmed_any n0 A1 A2 n1 cap1 n2 cap2 zs1 zs2 n3 W hz1 hn1 hc1 hz2 hn2 bd3.1 bd3.2 hf).mono fun e W' ⟨he, hb⟩ => ?_
  subst he
  exact ⟨_, rfl, law_done laidOut rfl (fun t ht => by have := List.all_eq_true.1 benchTrimmed_params t ht; simpa using this) (by kernel_rfl) Tryd.underlying4 hW' (fun h => by subst h; rfl) (fun h => by subst h; rfl) (fun h => by subst h; rfl) hb⟩

theorem benchTrimmed_laid_met (os : Os) : laidMet Tryd.prog Rows.benchTrimmedRow.laid ((laidWorld os).forCall (fun _ _ => 0) ⟨#[], #[.int .i64 0, .slice none 0 0, .slice none 0 0, .int .u8 0], []⟩).memory :=
  laidMet_of_run' 8 (by kernel_rfl) (by kernel_rfl)
theorem benchTrimmed_reads (os : Os) {H : Type} (enc : TypeId × Value → H) : ∃ places, DataW.whole enc Tryd.prog ((laidWorld os).forCall (fun _ _ => 0) ⟨#[], #[.int .i64 0, .slice none 0 0, .slice none 0 0, .int .u8 0], []⟩).memory Tryd.f14.params.toList Rows.benchTrimmedSpec.vars false (#[.int .i64 0, .slice none 0 0, .slice none 0 0, .int .u8 0] : Array Value).toList 8 = some ([.lit (.int .i64 0), .nil, .nil, .lit (.int .u8 0)], [], places) :=
  ⟨[], by kernel_rfl⟩

set_option maxRecDepth 100000 in
theorem benchTrimmed_lifted (os : Os) (started : os.Started) (H : Type) (enc : TypeId × Value → H) (F : Stop.Interp) :
    ReturnsInHanded {} Tryd.checked os 14 .any ((OpenSpec.ofChange Rows.benchTrimmedSpec).preRow enc Tryd.prog Tryd.f14 Rows.benchTrimmedRow.domain false Rows.benchTrimmedRow.laid) (((OpenSpec.ofChange Rows.benchTrimmedSpec).at F).post enc Tryd.prog Tryd.f14 false true false false) := by
  obtain ⟨places, hx⟩ := benchTrimmed_reads os enc
  refine returnsInHanded_of_row (C := Tryd.checked) (s := OpenSpec.ofChange Rows.benchTrimmedSpec) own started (by kernel_rfl) Tryd.func14
    (witness_row_at (enc := enc) (C := Tryd.checked) false (laidWorld os) #[.int .i64 0, .slice none 0 0, .slice none 0 0, .int .u8 0] rfl (by kernel_rfl) (by kernel_rfl) (by kernel_rfl)
      (OpenSpec.preRow_of_cond 8 hx (by kernel_rfl) (fun k hk => by cases hk) (by kernel_rfl) (benchTrimmed_laid_met os))) ?_
  intro W base args ds gs before hval hW _ _ _ hL _ _
  exact benchTrimmed_contract H enc W base args ds gs before hval hW hL

theorem benchTrimmed_said : Rows.BenchTrimmedSaid :=
  OpenClaim.holds_of_cond 14 Tryd.f14 rfl rfl rfl rfl rfl rfl rfl ⟨rfl, rfl, rfl, rfl, rfl⟩ rfl rfl rfl rfl rfl (by kernel_rfl) Tryd.func14 (by kernel_rfl)
    (of_decide_eq_true (by kernel_rfl)) (by unfold Func.isWrapper; first | (rw [if_pos (by decide +kernel)]; kernel_rfl) | (rw [if_neg (by decide +kernel)]; exact ⟨rfl, rfl⟩))
    (fun os started H enc _ F => by rw [OpenClaim.pre_eq_preRow]; exact benchTrimmed_lifted os started H enc F)

theorem benchTrimmed_plain (f : FuncId) (fn : Func) (hf : Tryd.pinned.checked.prog.funcNamed Rows.benchTrimmedRow.func = some f) (hfn : Tryd.pinned.checked.prog.funcs[f]? = some fn) :
    false = Tryd.pinned.checked.prog.looks [] ∧ ∀ (j : Nat) t, fn.params[j]? = some t → Tryd.pinned.checked.prog.wantsStandIn t = false := by
  obtain rfl : f = 14 := Option.some.inj ((show Tryd.prog.funcNamed Rows.benchTrimmedRow.func = some 14 by kernel_rfl).symm.trans hf) |>.symm
  obtain rfl : fn = Tryd.f14 := (Option.some.inj (Tryd.func14.symm.trans hfn)).symm
  refine ⟨by kernel_rfl, fun j t ht => ?_⟩
  have hall : (Tryd.f14.params.toList.all fun u => !Tryd.prog.wantsStandIn u) = true := by kernel_rfl
  have hm : t ∈ Tryd.f14.params.toList := by simpa using Array.mem_of_getElem? ht
  exact (show Tryd.prog.wantsStandIn t = false by simpa using List.all_eq_true.1 hall t hm)

/-- BenchTrimmed, the card -/
theorem benchTrimmed_card : Rows.BenchTrimmedCardSaid :=
  Claim7.holds_tied_plain_at .later [] _ _ _ _ benchTrimmed_said (fun _ h => by cases h) (by kernel_rfl) (fun _ h => by cases h) benchTrimmed_row_tie rfl ⟨rfl, rfl⟩ (by kernel_rfl) rfl benchTrimmed_plain (by kernel_rfl)
#print axioms benchTrimmed_card
end Go.Proofs.YtmddpjlpbmfbgaaDoor
end
