/- BR9 BR10 -/
import Derived.Test.YtmddpjlpbmfbgaaDoorBZ09
import Derived.Deep.RegionHeld3
import Derived.Deep.DeepCutAuto
import Derived.Test.YtmddpjlpbmfbgaaDoorBZ01
/- Walks of the reference of layer 2: Fraction, power. -/
section
namespace Go.Proofs.YtmddpjlpbmfbgaaDoor
open Go.RowKit Go.Shelf
set_option linter.unusedSimpArgs false
set_option linter.unusedVariables false
open Bm (pwr lgt red rpw)

set_option maxHeartbeats 4000000 in
theorem rfrac_any (n d : Int) (w : World) (hn : 0 ≤ n) (hd : 1 ≤ d) (hN : n ≤ 9223372036854775807) (hD : d ≤ 9223372036854775807) :
    Calls Tryd.prog 84 #[.int .i64 n, .int .i64 d] w fun e w' => e = .returned (.agg #[.int .i64 (red n d).1, .int .i64 (red n d).2]) ∧ Below w.heap.size w w' := by
  have hg := Bm.gcd_pos (n := n) hd
  have hgN : (Int.gcd n d : Int) ≤ 9223372036854775807 := by
    have : (Int.gcd n d : Int) ≤ d := Int.le_of_dvd (by omega) (Int.gcd_dvd_right ..)
    omega
  unfold red
  dsimp only
  have Hg0 := Lib.hid (fun (p : Int) (hp : 0 ≤ p) (h : Int.gcd p 0 = Int.gcd n d) => (show p = (Int.gcd n d : Int) by rw [← h]; simp; omega))
  obtain ⟨G, hG⟩ : ∃ G : Nat, Int.gcd n d = G := ⟨_, rfl⟩
  rw [hG] at hg hgN Hg0
  rw [hG]
  have Hgs : Hid (Int.gcd n d = G) := Lib.hid hG
  clear hG
  obtain ⟨g, hgg⟩ : ∃ g : Int, (G : Int) = g := ⟨_, rfl⟩
  rw [hgg] at hg hgN Hg0 ⊢
  clear hgg
  have l1 : 0 ≤ n / g := Int.ediv_nonneg (by omega) (by omega)
  have l2 : 0 ≤ d / g := Int.ediv_nonneg (by omega) (by omega)
  have l3 : n / g ≤ n := Int.ediv_le_self _ (by omega)
  have l4 : d / g ≤ d := Int.ediv_le_self _ (by omega)
  have f1 : n.tdiv g = n / g := Int.tdiv_eq_ediv_of_nonneg (by omega)
  have f2 : d.tdiv g = d / g := Int.tdiv_eq_ediv_of_nonneg (by omega)
  have e1 : IntKind.i64.wrap (n / g) = n / g := IntWalk.i64_in _ (by omega)
  have e2 : IntKind.i64.wrap (d / g) = d / g := IntWalk.i64_in _ (by omega)
  have g0 : (g == 0) = false := by simp; omega
  go_enter Tryd.func84, Tryd.ntmps84
  have B0 : Cs (w.alloc (.cells #[.int .i64 0, .int .i64 0] 69)) w.heap.size #[.int .i64 0, .int .i64 0] := csA
  have HB0 := Lib.hid B0
  clear B0
  go_wp2_with fail
  go_loopw [5, 6] (fun x y wx => ∃ (p q : Int) (W : World), 0 ≤ p ∧ 0 ≤ q ∧ p ≤ 9223372036854775807 ∧ q ≤ 9223372036854775807 ∧ x = .int .i64 p ∧ y = .int .i64 q ∧ Hid (W = wx) ∧ Hid (Int.gcd p q = G) ∧ Cs W w.heap.size #[.int .i64 0, .int .i64 0] ∧ Below w.heap.size w W) (fun _ y _ => (intOf y).toNat)
  case atStart => exact ⟨n, d, _, hn, by omega, hN, hD, rfl, rfl, Lib.hid rfl, Hgs, HB0.out, blA⟩
  case round =>
    clear HB0
    obtain ⟨p, q, W, hp, hq, hP, hQ, rfl, rfl, HW, Hpq, B0, hbw⟩ := hrel
    obtain rfl := HW.out
    clear HW
    by_cases h0 : q = 0
    · subst h0
      obtain rfl := Hg0.out p hp Hpq.out
      have cB0 := B0.c
      have fB0 := B0.f
      have lB0 := B0.lt
      go_wp2_with fail
      go_region
      go_wp2_with fail
      exact bodyPost_ret (v := .agg #[.int .i64 (n / p), .int .i64 (d / p)]) (by simp [results, Tryd.results84, go_sem, cB0, fB0, lB0]) rfl ⟨rfl, blA⟩
    · have hm0 := Int.emod_nonneg p (b := q) h0
      have hm1 := Int.emod_lt_of_pos p (b := q) (by omega)
      have h1 : 1 ≤ q := by omega
      have hgc : Hid (Int.gcd q (p % q) = G) := Lib.hid (by
        rw [← Hpq.out]
        exact Um.gcd_step p q hp (by omega))
      have q0 : (q == 0) = false := by simpa using h0
      clear h0
      go_wp2_with fail
      go_quiet (fail)
      go_wp2_with fail
      go_roundw
      case rel => exact ⟨q, p % q, _, by omega, by omega, by omega, by omega, rfl, rfl, Lib.hid rfl, hgc, (by first | exact B0.drew | exact B0.drewN _), by first | exact hbw.drew | exact bdrewN hbw _⟩
      case measure => simp [intOf]; omega

def S7 (a b : Nat) (x y z u : Int) (W : World) : Prop := W.cell? ⟨a, 0, none⟩ = some (.int .i64 x) ∧ W.cell? ⟨a, 1, none⟩ = some (.int .i64 y) ∧ W.cell? ⟨b, 0, none⟩ = some (.int .i64 z) ∧ W.cell? ⟨b, 1, none⟩ = some (.int .i64 u)
structure J7 (w : World) (B g3 g4 gR : Nat) (x0 x1 y0 y1 c1 c2 d1 d2 : Int) (d : Nat → Bool) (v45 v50 v9 v10 : Value) (W : World) : Prop where
  a0 : Cs W g3 #[.int .i64 x0, .int .i64 x1]
  a1 : Cs W g4 #[.int .i64 y0, .int .i64 y1]
  a2 : Cs W gR #[.int .i64 0, .int .i64 0]
  hB : B ≤ W.heap.size
  hb : Below w.heap.size w W
  c : d 4 = true → v45 = .agg #[.int .i64 c1, .int .i64 c2]
  e : d 9 = true → v50 = .agg #[.int .i64 d1, .int .i64 d2]
  p : Mk2 B W (d 10) (d 12) v9 c1 c2
  q : Mk2 B W (d 11) (d 13) v10 d1 d2
  n : d 10 = true → d 11 = true → v9 ≠ v10
theorem J7.s {w W : World} {B g3 g4 gR : Nat} {x0 x1 y0 y1 c1 c2 d1 d2 : Int} {d : Nat → Bool} {v45 v50 v9 v10 : Value} (h : J7 w B g3 g4 gR x0 x1 y0 y1 c1 c2 d1 d2 d v45 v50 v9 v10 W) : S7 g3 g4 x0 x1 y0 y1 W :=
  ⟨h.a0.c 0, h.a0.c 1, h.a1.c 0, h.a1.c 1⟩

set_option maxRecDepth 100000 in
set_option maxHeartbeats 4000000 in
theorem rpower_any (l n p1 p2 s1 s2 t1 t2 p s t : Int) (w : World) (hl : l ≤ 5000) (hp : 0 ≤ p) (hp2 : p ≤ 100000) (hs : 1 ≤ s) (hs2 : s < l) (ht : 0 ≤ t) (ht2 : t ≤ 1000) :
    Calls Tryd.prog 82 #[.agg #[.int .i64 l, .int .i64 n, .int .i64 p1, .int .i64 p2, .int .i64 s1, .int .i64 s2, .int .i64 t1, .int .i64 t2], .agg #[.int .i64 p, .int .i64 s, .int .i64 t]] w fun e w' => e = .returned (.agg #[.int .i64 (pwr l p s t).1, .int .i64 (pwr l p s t).2]) ∧ Below w.heap.size w w' := by
  obtain ⟨⟨a1, a2⟩, ⟨b1, b2⟩, ⟨c1, c2⟩, -, ⟨e1, e2⟩, ⟨f1, f2⟩, g1, g2⟩ := pwr_bd hl hp hp2 hs hs2 ht ht2
  have hf1 : 1 ≤ (l - s) * (l - s) := Int.mul_pos (by omega) (by omega)
  have hf2 : (l - s) * (l - s) ≤ 5000 * 5000 := Bm.mul_mono (by omega) (by omega) (by omega) (by omega)
  have hss : 1 ≤ s * s := Int.mul_pos (by omega) (by omega)
  have hpw := Bm.pwr_rpw (l := l) (p := p) (s := s) (t := t) hs (by omega)
  have hb1 : (pwr l p s t).1 ≤ 2500000000000000000 := by
    obtain ⟨-, -, -, -, -, -, -, h, -⟩ := Bm.red_spec e1 g1
    exact Int.le_trans h e2
  have hb2 : (pwr l p s t).2 ≤ 25000000000000 := by
    obtain ⟨-, -, -, -, -, -, -, -, h⟩ := Bm.red_spec e1 g1
    exact Int.le_trans h g2
  obtain ⟨hp0, hp1, -⟩ := Bm.pwr_spec (l := l) (p := p) (s := s) (t := t) hs (by omega)
  have hlp : lgt p s t = if 1000000 * p - t * s * s < 0 then 0 else 1000000 * p - t * s * s := by unfold lgt; split <;> omega
  have Hlp := Lib.hid hlp
  clear hlp e1 e2 g1 g2
  generalize pwr l p s t = R at *
  generalize lgt p s t = L at *
  have fw : IntKind.i64.wrap (l - s) = l - s := IntWalk.i64_in _ (by omega)
  have f0 : 0 ≤ l - s := by omega
  have f9 : l - s ≤ 5000 := by omega
  generalize hf : l - s = f at *
  obtain ⟨q1, hq1⟩ : ∃ q, f * f = q := ⟨_, rfl⟩
  obtain ⟨q2, hq2⟩ : ∃ q, s * s = q := ⟨_, rfl⟩
  rw [hq1] at hf1 hf2 hpw
  rw [hq2] at f1 f2 hss hpw
  have k1 := fun W => rfrac_any q1 q2 W (by omega) (by omega) (by omega) (by omega)
  have k2 := fun W => rfrac_any L 1000000 W (by omega) (by omega) (by omega) (by omega)
  obtain ⟨_, -, -, -, i1, i2, -, i3, i4⟩ := Bm.red_spec (n := q1) (d := q2) (by omega) (by omega)
  obtain ⟨_, -, -, -, j1, j2, -, j3, j4⟩ := Bm.red_spec (n := L) (d := 1000000) (by omega) (by omega)
  unfold rpw at hpw
  have k3 := fun W => rfrac_any (red q1 q2).1 (red L 1000000).2 W (by omega) (by omega) (by omega) (by omega)
  have k4 := fun W => rfrac_any (red L 1000000).1 (red q1 q2).2 W (by omega) (by omega) (by omega) (by omega)
  obtain ⟨_, -, -, -, m1, m2, -, m3, m4⟩ := Bm.red_spec (n := (red q1 q2).1) (d := (red L 1000000).2) (by omega) (by omega)
  obtain ⟨_, -, -, -, o1, o2, -, o3, o4⟩ := Bm.red_spec (n := (red L 1000000).1) (d := (red q1 q2).2) (by omega) (by omega)
  generalize hx : red (red q1 q2).1 (red L 1000000).2 = X at *
  generalize hy : red (red L 1000000).1 (red q1 q2).2 = Y at *
  generalize red q1 q2 = K at *
  generalize red L 1000000 = M at *
  obtain ⟨x1, x2⟩ := X
  obtain ⟨y1, y2⟩ := Y
  obtain ⟨kk1, kk2⟩ := K
  obtain ⟨mm1, mm2⟩ := M
  obtain ⟨R1, R2⟩ := R
  dsimp only at *
  clear hx hy
  injection hpw with hR1 hR2
  obtain ⟨z1, hz1⟩ : ∃ q, t * s = q := ⟨_, rfl⟩
  rw [hz1] at a1 a2 b1 b2 Hlp
  obtain ⟨z2, hz2⟩ : ∃ q, z1 * s = q := ⟨_, rfl⟩
  rw [hz2] at b1 b2 Hlp
  by_cases hneg : 1000000 * p - z2 < 0
  · have Hl2 : Hid (L = 0) := Lib.hid (by rw [Hlp.out, if_pos hneg])
    obtain rfl := Hl2.out
    clear Hlp Hl2 c1 c2
    go_enter Tryd.func82, Tryd.ntmps82
    go_wp2_with fail
    (with_reducible refine (k1 _).mono ?_)
    rintro _ w1 ⟨rfl, hb1⟩
    replace B0 : Cs w1 (w.heap.size) #[.int .i64 l, .int .i64 n, .int .i64 p1, .int .i64 p2, .int .i64 s1, .int .i64 s2, .int .i64 t1, .int .i64 t2] := Cs.keep csA hb1
    replace B1 : Cs w1 (w.heap.size + 1) #[.int .i64 p, .int .i64 s, .int .i64 t] := Cs.keep csA hb1
    replace B2 : Cs w1 (w.heap.size + 1 + 1) #[.int .i64 0, .int .i64 0] := Cs.keep csA hb1
    replace hbw : Below w.heap.size w w1 := blA
    replace cB0 := B0.c
    replace fB0 := B0.f
    replace lB0 := B0.lt
    replace cB1 := B1.c
    replace fB1 := B1.f
    replace lB1 := B1.lt
    replace cB2 := B2.c
    replace fB2 := B2.f
    replace lB2 := B2.lt
    clear hb1
    clear k1
    go_wp2_with fail
    (with_reducible refine (k2 _).mono ?_)
    rintro _ w2 ⟨rfl, hb2⟩
    try clear cB0 fB0 lB0
    try clear B0
    try clear cB1 fB1 lB1
    try clear B1
    replace B2 : Cs w2 (w.heap.size + 1 + 1) #[.int .i64 0, .int .i64 0] := Cs.keep csA hb2
    replace B3 : Cs w2 (w1.heap.size) #[.int .i64 kk1, .int .i64 kk2] := Cs.keep csA hb2
    replace hbw : Below w.heap.size w w2 := blA
    replace cB2 := B2.c
    replace fB2 := B2.f
    replace lB2 := B2.lt
    replace cB3 := B3.c
    replace fB3 := B3.f
    replace lB3 := B3.lt
    clear hb2
    clear k2
    go_upto_region 7 with fail
    have B4 : Cs (w2.alloc (.cells #[.int .i64 mm1, .int .i64 mm2] 69)) w2.heap.size #[.int .i64 mm1, .int .i64 mm2] := csA
    replace B2 := B2.alloc (.cells #[.int .i64 mm1, .int .i64 mm2] 69)
    replace B3 := B3.alloc (.cells #[.int .i64 mm1, .int .i64 mm2] 69)
    replace hbw : Below w.heap.size w (w2.alloc (.cells #[.int .i64 mm1, .int .i64 mm2] 69)) := blA
    have n3 : w.heap.size + 1 + 1 ≠ w2.heap.size := by omega
    clear cB2 fB2 lB2 cB3 fB3 lB3
    generalize w2.alloc (.cells #[.int .i64 mm1, .int .i64 mm2] 69) = W at *
    generalize w2.heap.size = g4 at *
    generalize w1.heap.size = g3 at *
    go_cut [9, 10] (fun s9 s10 wx => ∃ g9 g10 : Nat, s9 = .pointer (some ⟨g9, 0, none⟩) ∧ s10 = .pointer (some ⟨g10, 0, none⟩) ∧ Cs wx g9 #[.int .i64 x1, .int .i64 x2] ∧ Cs wx g10 #[.int .i64 y1, .int .i64 y2] ∧ Cs wx (w.heap.size + 1 + 1) #[.int .i64 0, .int .i64 0] ∧ w.heap.size + 1 + 1 ≠ g9 ∧ w.heap.size + 1 + 1 ≠ g10 ∧ Below w.heap.size w wx)
    case first =>
      as_aux_lemma =>
       have q3 := B3.lt
       have q4 := B4.lt
       have qR := B2.lt
       have hsW := hbw.size
       have hS0 : S7 g3 g4 kk1 kk2 mm1 mm2 W := ⟨B3.c 0, B3.c 1, B4.c 0, B4.c 1⟩
       refine wp_region_free (S := S7 g3 g4 kk1 kk2 mm1 mm2) [(0, 1), (1, 3), (2, 7), (3, 15), (5, 47), (6, 111), (7, 239), (8, 495)] 495 [(4, []), (9, [4]), (10, []), (11, []), (12, [4, 9, 10, 11]), (13, [4, 9, 10, 11, 12])] (by kernel_rfl) (by kernel_rfl) (fun c a d v w h => by cases d <;> exact h) hS0 (fun hHeld => ?_)
       clear hHeld hS0
       refine free_take (v := ?_) rfl (by rfl) ?_ ?_
       rotate_left
       · intro w9 hSw; (unfold S7 at hSw); (go_simp <;> with_reducible rfl)
       try simp only [Act.put, List.setIfInBounds_toArray, List.set_cons_zero, List.set_cons_succ]
       refine free_take (v := ?_) rfl (by rfl) ?_ ?_
       rotate_left
       · intro w9 hSw; (unfold S7 at hSw); (go_simp <;> with_reducible rfl)
       try simp only [Act.put, List.setIfInBounds_toArray, List.set_cons_zero, List.set_cons_succ]
       refine free_take (v := ?_) rfl (by rfl) ?_ ?_
       rotate_left
       · intro w9 hSw; (unfold S7 at hSw); (go_simp <;> with_reducible rfl)
       try simp only [Act.put, List.setIfInBounds_toArray, List.set_cons_zero, List.set_cons_succ]
       refine free_take (v := ?_) rfl (by rfl) ?_ ?_
       rotate_left
       · intro w9 hSw; (unfold S7 at hSw); (go_simp <;> with_reducible rfl)
       try simp only [Act.put, List.setIfInBounds_toArray, List.set_cons_zero, List.set_cons_succ]
       refine free_take (v := ?_) rfl (by rfl) ?_ ?_
       rotate_left
       · intro w9 hSw; (unfold S7 at hSw); (go_simp <;> with_reducible rfl)
       try simp only [Act.put, List.setIfInBounds_toArray, List.set_cons_zero, List.set_cons_succ]
       refine free_take (v := ?_) rfl (by rfl) ?_ ?_
       rotate_left
       · intro w9 hSw; (unfold S7 at hSw); (go_simp <;> with_reducible rfl)
       try simp only [Act.put, List.setIfInBounds_toArray, List.set_cons_zero, List.set_cons_succ]
       refine free_take (v := ?_) rfl (by rfl) ?_ ?_
       rotate_left
       · intro w9 hSw; (unfold S7 at hSw); (go_simp <;> with_reducible rfl)
       try simp only [Act.put, List.setIfInBounds_toArray, List.set_cons_zero, List.set_cons_succ]
       refine free_take (v := ?_) rfl (by rfl) ?_ ?_
       rotate_left
       · intro w9 hSw; (unfold S7 at hSw); (go_simp <;> with_reducible rfl)
       try simp only [Act.put, List.setIfInBounds_toArray, List.set_cons_zero, List.set_cons_succ]
       refine free_part [45, 50, 9, 10] (fun d vs V => ∃ v45 v50 v9 v10, vs = [v45, v50, v9, v10] ∧ J7 w W.heap.size g3 g4 (w.heap.size + 1 + 1) kk1 kk2 mm1 mm2 x1 x2 y1 y2 d v45 v50 v9 v10 V) (fun d vs W ⟨_, _, _, _, _, h⟩ => h.s) ?_ ?_ ?_
       · intro d vs hl hd
         obtain ⟨v45, v50, v9, v10, rfl⟩ := len_four' hl
         simp only [fsts, noB] at hd
         obtain ⟨n4, n9, n10, n11, n12, n13, -⟩ := hd
         exact ⟨_, _, _, _, rfl, B3.drew, B4.drew, B2.drew, Nat.le_refl _, hbw.drew, fun h => by simp [n4] at h, fun h => by simp [n9] at h, Mk2.no n10 n12, Mk2.no n11 n13, fun h => by simp [n10] at h⟩
       refine free_step rfl ?_ ?_
       · rintro d _ W2 ⟨v45, v50, v9, v10, rfl, hJ⟩ hd hD K9 hS9
         simp only [puts, Act.put, List.setIfInBounds_toArray, List.set_cons_zero, List.set_cons_succ]
         go_simp
         refine (k3 _).mono ?_
         rintro e w3 ⟨rfl, hb3⟩
         refine hS9.out _ _ ⟨[_, v50, v9, v10], rfl, _, _, _, _, rfl, ?_⟩
         exact ⟨hJ.a0.keep hb3, hJ.a1.keep hb3, hJ.a2.keep hb3, Nat.le_trans hJ.hB hb3.size, bstep hJ.hb hb3, fun _ => rfl, hJ.e, hJ.p.below hb3, hJ.q.below hb3, hJ.n⟩
       refine free_step rfl ?_ ?_
       · rintro d _ W2 ⟨v45, v50, v9, v10, rfl, hJ⟩ hd hD K9 hS9
         simp only [puts, Act.put, List.setIfInBounds_toArray, List.set_cons_zero, List.set_cons_succ]
         go_simp
         refine (k4 _).mono ?_
         rintro e w3 ⟨rfl, hb3⟩
         refine hS9.out _ _ ⟨[v45, _, v9, v10], rfl, _, _, _, _, rfl, ?_⟩
         exact ⟨hJ.a0.keep hb3, hJ.a1.keep hb3, hJ.a2.keep hb3, Nat.le_trans hJ.hB hb3.size, bstep hJ.hb hb3, hJ.c, fun _ => rfl, hJ.p.below hb3, hJ.q.below hb3, hJ.n⟩
       refine free_step rfl ?_ ?_
       · rintro d _ W2 ⟨v45, v50, v9, v10, rfl, hJ⟩ hd hD K9 hS9
         simp only [puts, Act.put, List.setIfInBounds_toArray, List.set_cons_zero, List.set_cons_succ]
         go_simp
         refine hS9.out _ _ ⟨[v45, v50, _, v10], rfl, _, _, _, _, rfl, ?_⟩
         exact ⟨hJ.a0.alloc _, hJ.a1.alloc _, hJ.a2.alloc _, by have := hJ.hB; simp; omega, balloc hJ.hb _, hJ.c, hJ.e, hJ.p.new hd hJ.hB, hJ.q.alloc _, fun _ h => (hJ.q.ne h).symm⟩
       refine free_step rfl ?_ ?_
       · rintro d _ W2 ⟨v45, v50, v9, v10, rfl, hJ⟩ hd hD K9 hS9
         simp only [puts, Act.put, List.setIfInBounds_toArray, List.set_cons_zero, List.set_cons_succ]
         go_simp
         refine hS9.out _ _ ⟨[v45, v50, v9, _], rfl, _, _, _, _, rfl, ?_⟩
         exact ⟨hJ.a0.alloc _, hJ.a1.alloc _, hJ.a2.alloc _, by have := hJ.hB; simp; omega, balloc hJ.hb _, hJ.c, hJ.e, hJ.p.alloc _, hJ.q.new hd hJ.hB, fun h _ => hJ.p.ne h⟩
       refine free_step rfl ?_ ?_
       · rintro d _ W2 ⟨v45, v50, v9, v10, rfl, hJ⟩ hd hD K9 hS9
         simp only [puts, Act.put, List.setIfInBounds_toArray, List.set_cons_zero, List.set_cons_succ]
         obtain ⟨h4, h9, h10, h11, -⟩ := hD
         obtain rfl := hJ.c h4
         obtain rfl := hJ.e h9
         obtain ⟨g, a, b, rfl, hBg, hg⟩ := hJ.p.at_ h10
         have cg := hg.c
         have fg := hg.f
         have lg := hg.lt
         go_simp
         refine hS9.out _ _ ⟨[_, _, _, v10], rfl, _, _, _, _, rfl, ?_⟩
         exact ⟨hJ.a0.other2 (by omega) _ _, hJ.a1.other2 (by omega) _ _, hJ.a2.other2 (by omega) _ _, by simpa [World.setCell] using hJ.hB, bset2 hJ.hb (by omega) _ _, hJ.c, hJ.e, hJ.p.set h10, hJ.q.other (fun h => (hJ.n h10 h).symm), hJ.n⟩
       refine free_step rfl ?_ ?_
       · rintro d _ W2 ⟨v45, v50, v9, v10, rfl, hJ⟩ hd hD K9 hS9
         simp only [puts, Act.put, List.setIfInBounds_toArray, List.set_cons_zero, List.set_cons_succ]
         obtain ⟨h4, h9, h10, h11, h12, -⟩ := hD
         obtain rfl := hJ.c h4
         obtain rfl := hJ.e h9
         obtain ⟨g, a, b, rfl, hBg, hg⟩ := hJ.q.at_ h11
         have cg := hg.c
         have fg := hg.f
         have lg := hg.lt
         go_simp
         refine hS9.out _ _ ⟨[_, _, v9, _], rfl, _, _, _, _, rfl, ?_⟩
         exact ⟨hJ.a0.other2 (by omega) _ _, hJ.a1.other2 (by omega) _ _, hJ.a2.other2 (by omega) _ _, by simpa [World.setCell] using hJ.hB, bset2 hJ.hb (by omega) _ _, hJ.c, hJ.e, hJ.p.other (fun h => hJ.n h h11), hJ.q.set h11, hJ.n⟩
       · exact free_done
       rintro d _ W2 hd ⟨v45, v50, v9, v10, rfl, hJ⟩
       simp only [fsts, allB] at hd
       obtain ⟨h4, h9, h10, h11, h12, h13, -⟩ := hd
       obtain rfl := hJ.c h4
       obtain rfl := hJ.e h9
       obtain ⟨g9, rfl, hB9, B9⟩ := hJ.p.out h10 h12
       obtain ⟨g10, rfl, hB10, B10⟩ := hJ.q.out h11 h13
       simp only [puts, Act.put, List.setIfInBounds_toArray, List.set_cons_zero, List.set_cons_succ]
       go_wp2_with fail
       go_meet
       exact ⟨_, _, rfl, rfl, B9, B10, hJ.a2, by omega, by omega, hJ.hb⟩
    case rest =>
      obtain ⟨g9, g10, rfl, rfl, C9, C10, C2, -, -, hbx⟩ := hcut
      have cC9 := C9.c
      have cC10 := C10.c
      have cC2 := C2.c
      have fC2 := C2.f
      have lC2 := C2.lt
      go_wp2_with fail
      exact bodyPost_ret (v := .agg #[.int .i64 R1, .int .i64 R2]) (by simp [results, Tryd.results82, go_sem, cC2, fC2, lC2]) rfl ⟨rfl, blA⟩
  · have hL : 1000000 * p - z2 = L := by rw [Hlp.out, if_neg hneg]
    clear Hlp
    have hneg : ¬ L < 0 := by omega
    go_enter Tryd.func82, Tryd.ntmps82
    go_wp2_with fail
    (with_reducible refine (k1 _).mono ?_)
    rintro _ w1 ⟨rfl, hb1⟩
    replace B0 : Cs w1 (w.heap.size) #[.int .i64 l, .int .i64 n, .int .i64 p1, .int .i64 p2, .int .i64 s1, .int .i64 s2, .int .i64 t1, .int .i64 t2] := Cs.keep csA hb1
    replace B1 : Cs w1 (w.heap.size + 1) #[.int .i64 p, .int .i64 s, .int .i64 t] := Cs.keep csA hb1
    replace B2 : Cs w1 (w.heap.size + 1 + 1) #[.int .i64 0, .int .i64 0] := Cs.keep csA hb1
    replace hbw : Below w.heap.size w w1 := blA
    replace cB0 := B0.c
    replace fB0 := B0.f
    replace lB0 := B0.lt
    replace cB1 := B1.c
    replace fB1 := B1.f
    replace lB1 := B1.lt
    replace cB2 := B2.c
    replace fB2 := B2.f
    replace lB2 := B2.lt
    clear hb1
    clear k1
    go_wp2_with fail
    (with_reducible refine (k2 _).mono ?_)
    rintro _ w2 ⟨rfl, hb2⟩
    try clear cB0 fB0 lB0
    try clear B0
    try clear cB1 fB1 lB1
    try clear B1
    replace B2 : Cs w2 (w.heap.size + 1 + 1) #[.int .i64 0, .int .i64 0] := Cs.keep csA hb2
    replace B3 : Cs w2 (w1.heap.size) #[.int .i64 kk1, .int .i64 kk2] := Cs.keep csA hb2
    replace hbw : Below w.heap.size w w2 := blA
    replace cB2 := B2.c
    replace fB2 := B2.f
    replace lB2 := B2.lt
    replace cB3 := B3.c
    replace fB3 := B3.f
    replace lB3 := B3.lt
    clear hb2
    clear k2
    go_upto_region 7 with fail
    have B4 : Cs (w2.alloc (.cells #[.int .i64 mm1, .int .i64 mm2] 69)) w2.heap.size #[.int .i64 mm1, .int .i64 mm2] := csA
    replace B2 := B2.alloc (.cells #[.int .i64 mm1, .int .i64 mm2] 69)
    replace B3 := B3.alloc (.cells #[.int .i64 mm1, .int .i64 mm2] 69)
    replace hbw : Below w.heap.size w (w2.alloc (.cells #[.int .i64 mm1, .int .i64 mm2] 69)) := blA
    have n3 : w.heap.size + 1 + 1 ≠ w2.heap.size := by omega
    clear cB2 fB2 lB2 cB3 fB3 lB3
    generalize w2.alloc (.cells #[.int .i64 mm1, .int .i64 mm2] 69) = W at *
    generalize w2.heap.size = g4 at *
    generalize w1.heap.size = g3 at *
    go_cut [9, 10] (fun s9 s10 wx => ∃ g9 g10 : Nat, s9 = .pointer (some ⟨g9, 0, none⟩) ∧ s10 = .pointer (some ⟨g10, 0, none⟩) ∧ Cs wx g9 #[.int .i64 x1, .int .i64 x2] ∧ Cs wx g10 #[.int .i64 y1, .int .i64 y2] ∧ Cs wx (w.heap.size + 1 + 1) #[.int .i64 0, .int .i64 0] ∧ w.heap.size + 1 + 1 ≠ g9 ∧ w.heap.size + 1 + 1 ≠ g10 ∧ Below w.heap.size w wx)
    case first =>
      as_aux_lemma =>
       have q3 := B3.lt
       have q4 := B4.lt
       have qR := B2.lt
       have hsW := hbw.size
       have hS0 : S7 g3 g4 kk1 kk2 mm1 mm2 W := ⟨B3.c 0, B3.c 1, B4.c 0, B4.c 1⟩
       refine wp_region_free (S := S7 g3 g4 kk1 kk2 mm1 mm2) [(0, 1), (1, 3), (2, 7), (3, 15), (5, 47), (6, 111), (7, 239), (8, 495)] 495 [(4, []), (9, [4]), (10, []), (11, []), (12, [4, 9, 10, 11]), (13, [4, 9, 10, 11, 12])] (by kernel_rfl) (by kernel_rfl) (fun c a d v w h => by cases d <;> exact h) hS0 (fun hHeld => ?_)
       clear hHeld hS0
       refine free_take (v := ?_) rfl (by rfl) ?_ ?_
       rotate_left
       · intro w9 hSw; (unfold S7 at hSw); (go_simp <;> with_reducible rfl)
       try simp only [Act.put, List.setIfInBounds_toArray, List.set_cons_zero, List.set_cons_succ]
       refine free_take (v := ?_) rfl (by rfl) ?_ ?_
       rotate_left
       · intro w9 hSw; (unfold S7 at hSw); (go_simp <;> with_reducible rfl)
       try simp only [Act.put, List.setIfInBounds_toArray, List.set_cons_zero, List.set_cons_succ]
       refine free_take (v := ?_) rfl (by rfl) ?_ ?_
       rotate_left
       · intro w9 hSw; (unfold S7 at hSw); (go_simp <;> with_reducible rfl)
       try simp only [Act.put, List.setIfInBounds_toArray, List.set_cons_zero, List.set_cons_succ]
       refine free_take (v := ?_) rfl (by rfl) ?_ ?_
       rotate_left
       · intro w9 hSw; (unfold S7 at hSw); (go_simp <;> with_reducible rfl)
       try simp only [Act.put, List.setIfInBounds_toArray, List.set_cons_zero, List.set_cons_succ]
       refine free_take (v := ?_) rfl (by rfl) ?_ ?_
       rotate_left
       · intro w9 hSw; (unfold S7 at hSw); (go_simp <;> with_reducible rfl)
       try simp only [Act.put, List.setIfInBounds_toArray, List.set_cons_zero, List.set_cons_succ]
       refine free_take (v := ?_) rfl (by rfl) ?_ ?_
       rotate_left
       · intro w9 hSw; (unfold S7 at hSw); (go_simp <;> with_reducible rfl)
       try simp only [Act.put, List.setIfInBounds_toArray, List.set_cons_zero, List.set_cons_succ]
       refine free_take (v := ?_) rfl (by rfl) ?_ ?_
       rotate_left
       · intro w9 hSw; (unfold S7 at hSw); (go_simp <;> with_reducible rfl)
       try simp only [Act.put, List.setIfInBounds_toArray, List.set_cons_zero, List.set_cons_succ]
       refine free_take (v := ?_) rfl (by rfl) ?_ ?_
       rotate_left
       · intro w9 hSw; (unfold S7 at hSw); (go_simp <;> with_reducible rfl)
       try simp only [Act.put, List.setIfInBounds_toArray, List.set_cons_zero, List.set_cons_succ]
       refine free_part [45, 50, 9, 10] (fun d vs V => ∃ v45 v50 v9 v10, vs = [v45, v50, v9, v10] ∧ J7 w W.heap.size g3 g4 (w.heap.size + 1 + 1) kk1 kk2 mm1 mm2 x1 x2 y1 y2 d v45 v50 v9 v10 V) (fun d vs W ⟨_, _, _, _, _, h⟩ => h.s) ?_ ?_ ?_
       · intro d vs hl hd
         obtain ⟨v45, v50, v9, v10, rfl⟩ := len_four' hl
         simp only [fsts, noB] at hd
         obtain ⟨n4, n9, n10, n11, n12, n13, -⟩ := hd
         exact ⟨_, _, _, _, rfl, B3.drew, B4.drew, B2.drew, Nat.le_refl _, hbw.drew, fun h => by simp [n4] at h, fun h => by simp [n9] at h, Mk2.no n10 n12, Mk2.no n11 n13, fun h => by simp [n10] at h⟩
       refine free_step rfl ?_ ?_
       · rintro d _ W2 ⟨v45, v50, v9, v10, rfl, hJ⟩ hd hD K9 hS9
         simp only [puts, Act.put, List.setIfInBounds_toArray, List.set_cons_zero, List.set_cons_succ]
         go_simp
         refine (k3 _).mono ?_
         rintro e w3 ⟨rfl, hb3⟩
         refine hS9.out _ _ ⟨[_, v50, v9, v10], rfl, _, _, _, _, rfl, ?_⟩
         exact ⟨hJ.a0.keep hb3, hJ.a1.keep hb3, hJ.a2.keep hb3, Nat.le_trans hJ.hB hb3.size, bstep hJ.hb hb3, fun _ => rfl, hJ.e, hJ.p.below hb3, hJ.q.below hb3, hJ.n⟩
       refine free_step rfl ?_ ?_
       · rintro d _ W2 ⟨v45, v50, v9, v10, rfl, hJ⟩ hd hD K9 hS9
         simp only [puts, Act.put, List.setIfInBounds_toArray, List.set_cons_zero, List.set_cons_succ]
         go_simp
         refine (k4 _).mono ?_
         rintro e w3 ⟨rfl, hb3⟩
         refine hS9.out _ _ ⟨[v45, _, v9, v10], rfl, _, _, _, _, rfl, ?_⟩
         exact ⟨hJ.a0.keep hb3, hJ.a1.keep hb3, hJ.a2.keep hb3, Nat.le_trans hJ.hB hb3.size, bstep hJ.hb hb3, hJ.c, fun _ => rfl, hJ.p.below hb3, hJ.q.below hb3, hJ.n⟩
       refine free_step rfl ?_ ?_
       · rintro d _ W2 ⟨v45, v50, v9, v10, rfl, hJ⟩ hd hD K9 hS9
         simp only [puts, Act.put, List.setIfInBounds_toArray, List.set_cons_zero, List.set_cons_succ]
         go_simp
         refine hS9.out _ _ ⟨[v45, v50, _, v10], rfl, _, _, _, _, rfl, ?_⟩
         exact ⟨hJ.a0.alloc _, hJ.a1.alloc _, hJ.a2.alloc _, by have := hJ.hB; simp; omega, balloc hJ.hb _, hJ.c, hJ.e, hJ.p.new hd hJ.hB, hJ.q.alloc _, fun _ h => (hJ.q.ne h).symm⟩
       refine free_step rfl ?_ ?_
       · rintro d _ W2 ⟨v45, v50, v9, v10, rfl, hJ⟩ hd hD K9 hS9
         simp only [puts, Act.put, List.setIfInBounds_toArray, List.set_cons_zero, List.set_cons_succ]
         go_simp
         refine hS9.out _ _ ⟨[v45, v50, v9, _], rfl, _, _, _, _, rfl, ?_⟩
         exact ⟨hJ.a0.alloc _, hJ.a1.alloc _, hJ.a2.alloc _, by have := hJ.hB; simp; omega, balloc hJ.hb _, hJ.c, hJ.e, hJ.p.alloc _, hJ.q.new hd hJ.hB, fun h _ => hJ.p.ne h⟩
       refine free_step rfl ?_ ?_
       · rintro d _ W2 ⟨v45, v50, v9, v10, rfl, hJ⟩ hd hD K9 hS9
         simp only [puts, Act.put, List.setIfInBounds_toArray, List.set_cons_zero, List.set_cons_succ]
         obtain ⟨h4, h9, h10, h11, -⟩ := hD
         obtain rfl := hJ.c h4
         obtain rfl := hJ.e h9
         obtain ⟨g, a, b, rfl, hBg, hg⟩ := hJ.p.at_ h10
         have cg := hg.c
         have fg := hg.f
         have lg := hg.lt
         go_simp
         refine hS9.out _ _ ⟨[_, _, _, v10], rfl, _, _, _, _, rfl, ?_⟩
         exact ⟨hJ.a0.other2 (by omega) _ _, hJ.a1.other2 (by omega) _ _, hJ.a2.other2 (by omega) _ _, by simpa [World.setCell] using hJ.hB, bset2 hJ.hb (by omega) _ _, hJ.c, hJ.e, hJ.p.set h10, hJ.q.other (fun h => (hJ.n h10 h).symm), hJ.n⟩
       refine free_step rfl ?_ ?_
       · rintro d _ W2 ⟨v45, v50, v9, v10, rfl, hJ⟩ hd hD K9 hS9
         simp only [puts, Act.put, List.setIfInBounds_toArray, List.set_cons_zero, List.set_cons_succ]
         obtain ⟨h4, h9, h10, h11, h12, -⟩ := hD
         obtain rfl := hJ.c h4
         obtain rfl := hJ.e h9
         obtain ⟨g, a, b, rfl, hBg, hg⟩ := hJ.q.at_ h11
         have cg := hg.c
         have fg := hg.f
         have lg := hg.lt
         go_simp
         refine hS9.out _ _ ⟨[_, _, v9, _], rfl, _, _, _, _, rfl, ?_⟩
         exact ⟨hJ.a0.other2 (by omega) _ _, hJ.a1.other2 (by omega) _ _, hJ.a2.other2 (by omega) _ _, by simpa [World.setCell] using hJ.hB, bset2 hJ.hb (by omega) _ _, hJ.c, hJ.e, hJ.p.other (fun h => hJ.n h h11), hJ.q.set h11, hJ.n⟩
       · exact free_done
       rintro d _ W2 hd ⟨v45, v50, v9, v10, rfl, hJ⟩
       simp only [fsts, allB] at hd
       obtain ⟨h4, h9, h10, h11, h12, h13, -⟩ := hd
       obtain rfl := hJ.c h4
       obtain rfl := hJ.e h9
       obtain ⟨g9, rfl, hB9, B9⟩ := hJ.p.out h10 h12
       obtain ⟨g10, rfl, hB10, B10⟩ := hJ.q.out h11 h13
       simp only [puts, Act.put, List.setIfInBounds_toArray, List.set_cons_zero, List.set_cons_succ]
       go_wp2_with fail
       go_meet
       exact ⟨_, _, rfl, rfl, B9, B10, hJ.a2, by omega, by omega, hJ.hb⟩
    case rest =>
      obtain ⟨g9, g10, rfl, rfl, C9, C10, C2, -, -, hbx⟩ := hcut
      have cC9 := C9.c
      have cC10 := C10.c
      have cC2 := C2.c
      have fC2 := C2.f
      have lC2 := C2.lt
      go_wp2_with fail
      exact bodyPost_ret (v := .agg #[.int .i64 R1, .int .i64 R2]) (by simp [results, Tryd.results82, go_sem, cC2, fC2, lC2]) rfl ⟨rfl, blA⟩

end Go.Proofs.YtmddpjlpbmfbgaaDoor
end

/- Walks of the reference of layer 2: CheckBar, IsTrue, Value, Span. -/
section
namespace Go.Proofs.YtmddpjlpbmfbgaaDoor
open Go.RowKit Go.Shelf
set_option linter.unusedSimpArgs false
set_option linter.unusedVariables false
open Bm (pwr)

theorem barE_1 {l n p1 p2 s1 s2 t1 t2 : Int} (h : out 2 5000 l = true) : barE l n p1 p2 s1 s2 t1 t2 = 2 := by unfold barE; rw [if_pos h]
theorem barE_2 {l n p1 p2 s1 s2 t1 t2 : Int} (h : out 2 5000 l = false) (h2 : out 1 l n = true) : barE l n p1 p2 s1 s2 t1 t2 = 2 := by unfold barE; rw [h, if_neg (by decide), if_pos h2]

set_option maxHeartbeats 8000000 in
theorem rcheckBar_any (l n p1 p2 s1 s2 t1 t2 : Int) (w : World) :
    Calls Tryd.prog 51 #[.agg #[.int .i64 l, .int .i64 n, .int .i64 p1, .int .i64 p2, .int .i64 s1, .int .i64 s2, .int .i64 t1, .int .i64 t2]] w fun e w' => e = .returned (.int .i64 (barE l n p1 p2 s1 s2 t1 t2)) ∧ Below w.heap.size w w' := by
  by_cases c1 : l < 2
  · have hf : Hid (2 = barE l n p1 p2 s1 s2 t1 t2) := Lib.hid (barE_1 (by simp [out]; omega)).symm
    go_enter Tryd.func51, Tryd.ntmps51
    go_wp2_with fail
    go_ret
    exact ⟨ret_int hf.out, blA⟩
  have d1 : decide (l < 2) = false := by simpa using c1
  by_cases c2 : 5000 < l
  · have hf : Hid (2 = barE l n p1 p2 s1 s2 t1 t2) := Lib.hid (barE_1 (by simp [out]; omega)).symm
    clear c1
    go_enter Tryd.func51, Tryd.ntmps51
    go_wp2_with fail
    go_ret
    exact ⟨ret_int hf.out, blA⟩
  have d2 : decide (5000 < l) = false := by simpa using c2
  have ho : out 2 5000 l = false := out_false.2 (by omega)
  by_cases c3 : n < 1
  · have hf : Hid (2 = barE l n p1 p2 s1 s2 t1 t2) := Lib.hid (barE_2 ho (by simp [out]; omega)).symm
    clear c1 c2 ho
    go_enter Tryd.func51, Tryd.ntmps51
    go_wp2_with fail
    go_ret
    exact ⟨ret_int hf.out, blA⟩
  have d3 : decide (n < 1) = false := by simpa using c3
  by_cases c4 : l < n
  · have hf : Hid (2 = barE l n p1 p2 s1 s2 t1 t2) := Lib.hid (barE_2 ho (by simp [out]; omega)).symm
    clear c1 c2 ho c3
    go_enter Tryd.func51, Tryd.ntmps51
    go_wp2_with fail
    go_ret
    exact ⟨ret_int hf.out, blA⟩
  have d4 : decide (l < n) = false := by simpa using c4
  have ho2 : out 1 l n = false := out_false.2 (by omega)
  have k3 := fun W => rvalid_any p1 p2 1 100000 W
  have k4 := fun W => rvalid_any s1 s2 1 (l - 1) W
  have k5 := fun W => rvalid_any t1 t2 0 1000 W
  obtain ⟨R, hR⟩ : ∃ R, barE l n p1 p2 s1 s2 t1 t2 = R := ⟨_, rfl⟩
  rw [hR]
  unfold barE at hR
  rw [ho, ho2, if_neg (by decide), if_neg (by decide)] at hR
  have HR := Lib.hid hR
  have l1 : 2 ≤ l := by omega
  have l2 : l ≤ 5000 := by omega
  have n1 : 1 ≤ n := by omega
  have n2 : n ≤ l := by omega
  have H4 := Lib.hid (fun (h : rgB 1 (l - 1) (s1, s2) = true) => (show 1 ≤ s1 ∧ s1 ≤ s2 ∧ s2 ≤ l - 1 by simp [rgB] at h; omega))
  clear hR ho ho2 c1 c2 c3 c4
  generalize rgB 1 100000 (p1, p2) = b3 at *
  generalize rgB 1 (l - 1) (s1, s2) = b4 at *
  generalize rgB 0 1000 (t1, t2) = b5 at *
  go_enter Tryd.func51, Tryd.ntmps51
  go_wp2_with fail
  refine (k3 _).mono ?_
  rintro e w3 ⟨rfl, hb3⟩
  replace B0 : Cs w3 (w.heap.size) #[.int .i64 l, .int .i64 n, .int .i64 p1, .int .i64 p2, .int .i64 s1, .int .i64 s2, .int .i64 t1, .int .i64 t2] := Cs.keep csA hb3
  replace hbw : Below w.heap.size w w3 := blA
  replace cB0 := B0.c
  replace fB0 := B0.f
  replace lB0 := B0.lt
  clear hb3
  clear k3
  cases b3 with
  | false =>
    have hf : Hid (2 = R) := Lib.hid (by have := HR.out; simpa using this)
    clear HR k4 k5 H4
    go_wp2_with fail
    go_ret
    exact ⟨ret_int hf.out, blA⟩
  | true =>
  go_wp2_with fail
  refine (k4 _).mono ?_
  rintro e w4 ⟨rfl, hb4⟩
  replace B0 : Cs w4 (w.heap.size) #[.int .i64 l, .int .i64 n, .int .i64 p1, .int .i64 p2, .int .i64 s1, .int .i64 s2, .int .i64 t1, .int .i64 t2] := Cs.keep csA hb4
  replace hbw : Below w.heap.size w w4 := blA
  replace cB0 := B0.c
  replace fB0 := B0.f
  replace lB0 := B0.lt
  clear hb4
  clear k4
  cases b4 with
  | false =>
    have hf : Hid (2 = R) := Lib.hid (by have := HR.out; simpa using this)
    clear HR k5 H4
    go_wp2_with fail
    go_ret
    exact ⟨ret_int hf.out, blA⟩
  | true =>
  have s123 := H4.out rfl
  clear H4
  obtain ⟨sa, sb, sc⟩ := s123
  go_wp2_with fail
  refine (k5 _).mono ?_
  rintro e w5 ⟨rfl, hb5⟩
  replace B0 : Cs w5 (w.heap.size) #[.int .i64 l, .int .i64 n, .int .i64 p1, .int .i64 p2, .int .i64 s1, .int .i64 s2, .int .i64 t1, .int .i64 t2] := Cs.keep csA hb5
  replace hbw : Below w.heap.size w w5 := blA
  replace cB0 := B0.c
  replace fB0 := B0.f
  replace lB0 := B0.lt
  clear hb5
  clear k5
  cases b5 with
  | false =>
    have hf : Hid (2 = R) := Lib.hid (by have := HR.out; simpa using this)
    clear HR
    go_wp2_with fail
    go_ret
    exact ⟨ret_int hf.out, blA⟩
  | true =>
  have HR2 : Hid ((if s1 < n then 16 else if l - n < s2 then 16 else 0) = R) := Lib.hid (by have := HR.out; simpa using this)
  clear HR
  by_cases x1 : s1 < n
  · rw [if_pos x1] at HR2
    go_wp2_with fail
    go_ret
    exact ⟨ret_int HR2.out, blA⟩
  · rw [if_neg x1] at HR2
    have d5 : decide (s1 < n) = false := by simpa using x1
    by_cases x2 : l - n < s2
    · rw [if_pos x2] at HR2
      have x3 : l - s2 < n := by omega
      go_wp2_with fail
      go_ret
      exact ⟨ret_int HR2.out, blA⟩
    · rw [if_neg x2] at HR2
      have d6 : decide (l - s2 < n) = false := by simp; omega
      go_wp2_with fail
      go_ret
      exact ⟨ret_int HR2.out, blA⟩

/-- which things are truths, as the reference tells -/
theorem inT_iff {p1 p2 s1 s2 t1 t2 p s t : Int} : inT p1 p2 s1 s2 t1 t2 p s t = true ↔ (p1 ≤ p ∧ p ≤ p2) ∧ (s1 ≤ s ∧ s ≤ s2) ∧ (t1 ≤ t ∧ t ≤ t2) := by
  unfold inT
  rw [Bool.and_eq_true, Bool.and_eq_true, Bool.not_eq_true', Bool.not_eq_true', Bool.not_eq_true', out_false, out_false, out_false]
set_option maxHeartbeats 8000000 in
theorem risTrue_any (l n p1 p2 s1 s2 t1 t2 p s t : Int) (w : World) :
    Calls Tryd.prog 81 #[.agg #[.int .i64 l, .int .i64 n, .int .i64 p1, .int .i64 p2, .int .i64 s1, .int .i64 s2, .int .i64 t1, .int .i64 t2], .agg #[.int .i64 p, .int .i64 s, .int .i64 t]] w fun e w' => e = .returned (.bool (inT p1 p2 s1 s2 t1 t2 p s t)) ∧ Below w.heap.size w w' := by
  obtain ⟨R, hR⟩ : ∃ R, inT p1 p2 s1 s2 t1 t2 p s t = R := ⟨_, rfl⟩
  have hi := inT_iff (p1 := p1) (p2 := p2) (s1 := s1) (s2 := s2) (t1 := t1) (t2 := t2) (p := p) (s := s) (t := t)
  rw [hR] at hi ⊢
  have HI := Lib.hid hi
  clear hi hR
  by_cases c0 : p1 ≤ p
  rotate_left
  · have hf : Hid (false = R) := Lib.hid (by
      cases h : R with
      | false => rfl
      | true => have := HI.out.1 h; omega)
    have d0 : decide (p1 ≤ p) = false := by simpa using c0
    clear HI c0
    go_enter Tryd.func81, Tryd.ntmps81
    go_wp2_with fail
    go_ret
    exact ⟨ret_bool hf.out, blA⟩
  have d0 : decide (p1 ≤ p) = true := by simpa using c0
  by_cases c1 : p ≤ p2
  rotate_left
  · have hf : Hid (false = R) := Lib.hid (by
      cases h : R with
      | false => rfl
      | true => have := HI.out.1 h; omega)
    have d1 : decide (p ≤ p2) = false := by simpa using c1
    clear HI c1
    go_enter Tryd.func81, Tryd.ntmps81
    go_wp2_with fail
    go_ret
    exact ⟨ret_bool hf.out, blA⟩
  have d1 : decide (p ≤ p2) = true := by simpa using c1
  by_cases c2 : s1 ≤ s
  rotate_left
  · have hf : Hid (false = R) := Lib.hid (by
      cases h : R with
      | false => rfl
      | true => have := HI.out.1 h; omega)
    have d2 : decide (s1 ≤ s) = false := by simpa using c2
    clear HI c2
    go_enter Tryd.func81, Tryd.ntmps81
    go_wp2_with fail
    go_ret
    exact ⟨ret_bool hf.out, blA⟩
  have d2 : decide (s1 ≤ s) = true := by simpa using c2
  by_cases c3 : s ≤ s2
  rotate_left
  · have hf : Hid (false = R) := Lib.hid (by
      cases h : R with
      | false => rfl
      | true => have := HI.out.1 h; omega)
    have d3 : decide (s ≤ s2) = false := by simpa using c3
    clear HI c3
    go_enter Tryd.func81, Tryd.ntmps81
    go_wp2_with fail
    go_ret
    exact ⟨ret_bool hf.out, blA⟩
  have d3 : decide (s ≤ s2) = true := by simpa using c3
  by_cases c4 : t1 ≤ t
  rotate_left
  · have hf : Hid (false = R) := Lib.hid (by
      cases h : R with
      | false => rfl
      | true => have := HI.out.1 h; omega)
    have d4 : decide (t1 ≤ t) = false := by simpa using c4
    clear HI c4
    go_enter Tryd.func81, Tryd.ntmps81
    go_wp2_with fail
    go_ret
    exact ⟨ret_bool hf.out, blA⟩
  have d4 : decide (t1 ≤ t) = true := by simpa using c4
  by_cases c5 : t ≤ t2
  rotate_left
  · have hf : Hid (false = R) := Lib.hid (by
      cases h : R with
      | false => rfl
      | true => have := HI.out.1 h; omega)
    have d5 : decide (t ≤ t2) = false := by simpa using c5
    clear HI c5
    go_enter Tryd.func81, Tryd.ntmps81
    go_wp2_with fail
    go_ret
    exact ⟨ret_bool hf.out, blA⟩
  have d5 : decide (t ≤ t2) = true := by simpa using c5
  have hf : Hid (true = R) := Lib.hid (HI.out.2 (by omega)).symm
  clear HI
  go_enter Tryd.func81, Tryd.ntmps81
  go_wp2_with fail
  go_ret
  exact ⟨ret_bool hf.out, blA⟩

set_option maxRecDepth 100000 in
set_option maxHeartbeats 4000000 in
theorem rvalue_any (l n p1 p2 s1 s2 t1 t2 p s t : Int) (w : World) :
    Calls Tryd.prog 47 #[.agg #[.int .i64 l, .int .i64 n, .int .i64 p1, .int .i64 p2, .int .i64 s1, .int .i64 s2, .int .i64 t1, .int .i64 t2], .agg #[.int .i64 p, .int .i64 s, .int .i64 t]] w fun e w' => e = .returned (.tuple #[.agg #[.int .i64 (valE l n p1 p2 s1 s2 t1 t2 p s t).1.1, .int .i64 (valE l n p1 p2 s1 s2 t1 t2 p s t).1.2], .int .i64 (valE l n p1 p2 s1 s2 t1 t2 p s t).2]) ∧ Below w.heap.size w w' := by
  have k1 := fun W => rcheckBar_any l n p1 p2 s1 s2 t1 t2 W
  by_cases h0 : barE l n p1 p2 s1 s2 t1 t2 = 0
  · have hok := bar_ok h0
    have e : valE l n p1 p2 s1 s2 t1 t2 p s t = if inT p1 p2 s1 s2 t1 t2 p s t then (pwr l p s t, 0) else ((0, 0), 3) := by unfold valE; rw [if_neg (by simpa using h0)]
    rw [e]
    rw [h0] at k1
    have k2 := fun W => risTrue_any l n p1 p2 s1 s2 t1 t2 p s t W
    cases hT : inT p1 p2 s1 s2 t1 t2 p s t with
    | false =>
      rw [hT] at k2
      clear h0 hok e hT
      go_enter Tryd.func47, Tryd.ntmps47
      go_wp2_with fail
      refine (k1 _).mono ?_
      rintro e w1 ⟨rfl, hb1⟩
      replace B0 : Cs w1 (w.heap.size) #[.int .i64 l, .int .i64 n, .int .i64 p1, .int .i64 p2, .int .i64 s1, .int .i64 s2, .int .i64 t1, .int .i64 t2] := Cs.keep csA hb1
      replace B1 : Cs w1 (w.heap.size + 1) #[.int .i64 p, .int .i64 s, .int .i64 t] := Cs.keep csA hb1
      replace B2 : Cs w1 (w.heap.size + 1 + 1) #[.int .i64 0, .int .i64 0] := Cs.keep csA hb1
      replace hbw : Below w.heap.size w w1 := blA
      replace cB0 := B0.c
      replace fB0 := B0.f
      replace lB0 := B0.lt
      replace cB1 := B1.c
      replace fB1 := B1.f
      replace lB1 := B1.lt
      replace cB2 := B2.c
      replace fB2 := B2.f
      replace lB2 := B2.lt
      clear hb1
      clear k1
      go_wp2_with fail
      refine (k2 _).mono ?_
      rintro e w2 ⟨rfl, hb2⟩
      try clear cB0 fB0 lB0
      try clear B0
      try clear cB1 fB1 lB1
      try clear B1
      replace B2 : Cs w2 (w.heap.size + 1 + 1) #[.int .i64 0, .int .i64 0] := Cs.keep csA hb2
      replace hbw : Below w.heap.size w w2 := blA
      replace cB2 := B2.c
      replace fB2 := B2.f
      replace lB2 := B2.lt
      clear hb2
      clear k2
      go_wp2_with fail
      exact bodyPost_ret (v := .tuple #[.agg #[.int .i64 0, .int .i64 0], .int .i64 3]) (by simp [results, Tryd.results47, go_sem, cB2, fB2, lB2]) rfl ⟨rfl, blA⟩
    | true =>
      rw [hT] at k2
      have hin := inT_iff.1 hT
      have kp := fun (W : World) => rpower_any l n p1 p2 s1 s2 t1 t2 p s t W (by omega) (by omega) (by omega) (by omega) (by omega) (by omega) (by omega)
      rw [if_pos rfl]
      clear h0 hok e hT hin
      generalize pwr l p s t = r at *
      obtain ⟨r1, r2⟩ := r
      dsimp only at kp
      go_enter Tryd.func47, Tryd.ntmps47
      go_wp2_with fail
      refine (k1 _).mono ?_
      rintro e w1 ⟨rfl, hb1⟩
      replace B0 : Cs w1 (w.heap.size) #[.int .i64 l, .int .i64 n, .int .i64 p1, .int .i64 p2, .int .i64 s1, .int .i64 s2, .int .i64 t1, .int .i64 t2] := Cs.keep csA hb1
      replace B1 : Cs w1 (w.heap.size + 1) #[.int .i64 p, .int .i64 s, .int .i64 t] := Cs.keep csA hb1
      replace B2 : Cs w1 (w.heap.size + 1 + 1) #[.int .i64 0, .int .i64 0] := Cs.keep csA hb1
      replace hbw : Below w.heap.size w w1 := blA
      replace cB0 := B0.c
      replace fB0 := B0.f
      replace lB0 := B0.lt
      replace cB1 := B1.c
      replace fB1 := B1.f
      replace lB1 := B1.lt
      replace cB2 := B2.c
      replace fB2 := B2.f
      replace lB2 := B2.lt
      clear hb1
      clear k1
      go_wp2_with fail
      refine (k2 _).mono ?_
      rintro e w2 ⟨rfl, hb2⟩
      replace B0 : Cs w2 (w.heap.size) #[.int .i64 l, .int .i64 n, .int .i64 p1, .int .i64 p2, .int .i64 s1, .int .i64 s2, .int .i64 t1, .int .i64 t2] := Cs.keep csA hb2
      replace B1 : Cs w2 (w.heap.size + 1) #[.int .i64 p, .int .i64 s, .int .i64 t] := Cs.keep csA hb2
      replace B2 : Cs w2 (w.heap.size + 1 + 1) #[.int .i64 0, .int .i64 0] := Cs.keep csA hb2
      replace hbw : Below w.heap.size w w2 := blA
      replace cB0 := B0.c
      replace fB0 := B0.f
      replace lB0 := B0.lt
      replace cB1 := B1.c
      replace fB1 := B1.f
      replace lB1 := B1.lt
      replace cB2 := B2.c
      replace fB2 := B2.f
      replace lB2 := B2.lt
      clear hb2
      clear k2
      go_wp2_with fail
      refine (kp _).mono ?_
      rintro e w3 ⟨rfl, hb3⟩
      try clear cB0 fB0 lB0
      try clear B0
      try clear cB1 fB1 lB1
      try clear B1
      replace B2 : Cs w3 (w.heap.size + 1 + 1) #[.int .i64 0, .int .i64 0] := Cs.keep csA hb3
      replace hbw : Below w.heap.size w w3 := blA
      replace cB2 := B2.c
      replace fB2 := B2.f
      replace lB2 := B2.lt
      clear hb3
      clear kp
      go_wp2_with fail
      exact bodyPost_ret (v := .tuple #[.agg #[.int .i64 r1, .int .i64 r2], .int .i64 0]) (by simp [results, Tryd.results47, go_sem, cB2, fB2, lB2]) rfl ⟨rfl, blA⟩
  · have e : valE l n p1 p2 s1 s2 t1 t2 p s t = ((0, 0), barE l n p1 p2 s1 s2 t1 t2) := by unfold valE; rw [if_pos h0]
    rw [e]
    generalize barE l n p1 p2 s1 s2 t1 t2 = q at *
    have x1 : (q != 0) = true := by simpa using h0
    have x2 : (q == 0) = false := by simpa using h0
    clear e
    go_enter Tryd.func47, Tryd.ntmps47
    go_wp2_with fail
    refine (k1 _).mono ?_
    rintro e w1 ⟨rfl, hb1⟩
    replace B0 : Cs w1 (w.heap.size) #[.int .i64 l, .int .i64 n, .int .i64 p1, .int .i64 p2, .int .i64 s1, .int .i64 s2, .int .i64 t1, .int .i64 t2] := Cs.keep csA hb1
    replace B2 : Cs w1 (w.heap.size + 1 + 1) #[.int .i64 0, .int .i64 0] := Cs.keep csA hb1
    replace hbw : Below w.heap.size w w1 := blA
    replace cB0 := B0.c
    replace fB0 := B0.f
    replace lB0 := B0.lt
    replace cB2 := B2.c
    replace fB2 := B2.f
    replace lB2 := B2.lt
    clear hb1
    go_wp2_with fail
    refine (k1 _).mono ?_
    rintro e w2 ⟨rfl, hb2⟩
    try clear cB0 fB0 lB0
    try clear B0
    replace B2 : Cs w2 (w.heap.size + 1 + 1) #[.int .i64 0, .int .i64 0] := Cs.keep csA hb2
    replace hbw : Below w.heap.size w w2 := blA
    replace cB2 := B2.c
    replace fB2 := B2.f
    replace lB2 := B2.lt
    clear hb2
    clear k1
    go_wp2_with fail
    exact bodyPost_ret (v := .tuple #[.agg #[.int .i64 0, .int .i64 0], .int .i64 q]) (by simp [results, Tryd.results47, go_sem, cB2, fB2, lB2]) rfl ⟨rfl, blA⟩

set_option maxRecDepth 100000 in
set_option maxHeartbeats 4000000 in
theorem rspan_any (l n p1 p2 s1 s2 t1 t2 : Int) (w : World) :
    Calls Tryd.prog 48 #[.agg #[.int .i64 l, .int .i64 n, .int .i64 p1, .int .i64 p2, .int .i64 s1, .int .i64 s2, .int .i64 t1, .int .i64 t2]] w fun e w' => e = .returned (.tuple #[.agg #[.int .i64 (spaE l n p1 p2 s1 s2 t1 t2).1.1.1, .int .i64 (spaE l n p1 p2 s1 s2 t1 t2).1.1.2, .int .i64 (spaE l n p1 p2 s1 s2 t1 t2).1.2.1, .int .i64 (spaE l n p1 p2 s1 s2 t1 t2).1.2.2], .int .i64 (spaE l n p1 p2 s1 s2 t1 t2).2]) ∧ Below w.heap.size w w' := by
  have k1 := fun W => rcheckBar_any l n p1 p2 s1 s2 t1 t2 W
  by_cases h0 : barE l n p1 p2 s1 s2 t1 t2 = 0
  · have hok := bar_ok h0
    have e : spaE l n p1 p2 s1 s2 t1 t2 = ((pwr l p1 s2 t2, pwr l p2 s1 t1), 0) := by unfold spaE; rw [if_neg (by simpa using h0)]
    rw [e]
    rw [h0] at k1
    have kp := fun (W : World) => rpower_any l n p1 p2 s1 s2 t1 t2 p1 s2 t2 W (by omega) (by omega) (by omega) (by omega) (by omega) (by omega) (by omega)
    have kq := fun (W : World) => rpower_any l n p1 p2 s1 s2 t1 t2 p2 s1 t1 W (by omega) (by omega) (by omega) (by omega) (by omega) (by omega) (by omega)
    clear h0 hok e
    generalize pwr l p1 s2 t2 = r at *
    generalize pwr l p2 s1 t1 = r' at *
    obtain ⟨a, b⟩ := r
    obtain ⟨c, d⟩ := r'
    dsimp only at kp kq
    go_enter Tryd.func48, Tryd.ntmps48
    go_wp2_with fail
    refine (k1 _).mono ?_
    rintro e w1 ⟨rfl, hb1⟩
    replace B0 : Cs w1 (w.heap.size) #[.int .i64 l, .int .i64 n, .int .i64 p1, .int .i64 p2, .int .i64 s1, .int .i64 s2, .int .i64 t1, .int .i64 t2] := Cs.keep csA hb1
    replace B1 : Cs w1 (w.heap.size + 1) #[.int .i64 0, .int .i64 0, .int .i64 0, .int .i64 0] := Cs.keep csA hb1
    replace hbw : Below w.heap.size w w1 := blA
    replace cB0 := B0.c
    replace fB0 := B0.f
    replace lB0 := B0.lt
    replace cB1 := B1.c
    replace fB1 := B1.f
    replace lB1 := B1.lt
    clear hb1
    clear k1
    go_wp2_with fail
    refine (kp _).mono ?_
    rintro _ w2 ⟨rfl, hb2⟩
    replace B0 : Cs w2 (w.heap.size) #[.int .i64 l, .int .i64 n, .int .i64 p1, .int .i64 p2, .int .i64 s1, .int .i64 s2, .int .i64 t1, .int .i64 t2] := Cs.keep csA hb2
    replace B1 : Cs w2 (w.heap.size + 1) #[.int .i64 0, .int .i64 0, .int .i64 0, .int .i64 0] := Cs.keep csA hb2
    replace hbw : Below w.heap.size w w2 := blA
    replace cB0 := B0.c
    replace fB0 := B0.f
    replace lB0 := B0.lt
    replace cB1 := B1.c
    replace fB1 := B1.f
    replace lB1 := B1.lt
    clear hb2
    clear kp
    go_wp2_with fail
    refine (kq _).mono ?_
    rintro _ w3 ⟨rfl, hb3⟩
    replace B0 : Cs w3 (w.heap.size) #[.int .i64 l, .int .i64 n, .int .i64 p1, .int .i64 p2, .int .i64 s1, .int .i64 s2, .int .i64 t1, .int .i64 t2] := Cs.keep csA hb3
    replace B1 : Cs w3 (w.heap.size + 1) #[.int .i64 0, .int .i64 0, .int .i64 0, .int .i64 0] := Cs.keep csA hb3
    replace B2 : Cs w3 (w2.heap.size) #[.int .i64 a, .int .i64 b] := Cs.keep csA hb3
    replace hbw : Below w.heap.size w w3 := blA
    replace cB0 := B0.c
    replace fB0 := B0.f
    replace lB0 := B0.lt
    replace cB1 := B1.c
    replace fB1 := B1.f
    replace lB1 := B1.lt
    replace cB2 := B2.c
    replace fB2 := B2.f
    replace lB2 := B2.lt
    clear hb3
    clear kq
    go_wp2_with fail
    exact bodyPost_ret (v := .tuple #[.agg #[.int .i64 a, .int .i64 b, .int .i64 c, .int .i64 d], .int .i64 0]) (by simp [results, Tryd.results48, go_sem, cB0, fB0, lB0, cB1, fB1, lB1, cB2, fB2, lB2]) rfl ⟨rfl, blA⟩
  · have e : spaE l n p1 p2 s1 s2 t1 t2 = (((0, 0), (0, 0)), barE l n p1 p2 s1 s2 t1 t2) := by unfold spaE; rw [if_pos h0]
    rw [e]
    generalize barE l n p1 p2 s1 s2 t1 t2 = q at *
    have x1 : (q != 0) = true := by simpa using h0
    have x2 : (q == 0) = false := by simpa using h0
    clear e
    go_enter Tryd.func48, Tryd.ntmps48
    go_wp2_with fail
    refine (k1 _).mono ?_
    rintro e w1 ⟨rfl, hb1⟩
    replace B0 : Cs w1 (w.heap.size) #[.int .i64 l, .int .i64 n, .int .i64 p1, .int .i64 p2, .int .i64 s1, .int .i64 s2, .int .i64 t1, .int .i64 t2] := Cs.keep csA hb1
    replace B1 : Cs w1 (w.heap.size + 1) #[.int .i64 0, .int .i64 0, .int .i64 0, .int .i64 0] := Cs.keep csA hb1
    replace hbw : Below w.heap.size w w1 := blA
    replace cB0 := B0.c
    replace fB0 := B0.f
    replace lB0 := B0.lt
    replace cB1 := B1.c
    replace fB1 := B1.f
    replace lB1 := B1.lt
    clear hb1
    go_wp2_with fail
    refine (k1 _).mono ?_
    rintro e w2 ⟨rfl, hb2⟩
    try clear cB0 fB0 lB0
    try clear B0
    replace B1 : Cs w2 (w.heap.size + 1) #[.int .i64 0, .int .i64 0, .int .i64 0, .int .i64 0] := Cs.keep csA hb2
    replace hbw : Below w.heap.size w w2 := blA
    replace cB1 := B1.c
    replace fB1 := B1.f
    replace lB1 := B1.lt
    clear hb2
    clear k1
    go_wp2_with fail
    exact bodyPost_ret (v := .tuple #[.agg #[.int .i64 0, .int .i64 0, .int .i64 0, .int .i64 0], .int .i64 q]) (by simp [results, Tryd.results48, go_sem, cB1, fB1, lB1]) rfl ⟨rfl, blA⟩

end Go.Proofs.YtmddpjlpbmfbgaaDoor
end
