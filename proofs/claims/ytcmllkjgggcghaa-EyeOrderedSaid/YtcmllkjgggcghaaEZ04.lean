/- EA7 EA8 EA9 -/
import Derived.Test.YtcmllkjgggcghaaEZ03
/- Walks of the reference of layer 10: tails and plans. -/
section
namespace Go.Proofs.Ytcmllkjgggcghaa
open Go.RowKit Go.Shelf
set_option linter.unusedSimpArgs false
set_option linter.unusedVariables false
open Em (isCh red cnt ch)

set_option maxRecDepth 10000 in
set_option maxHeartbeats 2000000 in
theorem parts_any (n r : Nat) (N D : Int) (w : World) (hn : n ≤ 12) (hr : r ≤ n) (hN : 0 ≤ N) (hND : N ≤ D) (hD : D ≤ 10) :
    Calls Try.prog 62 #[.agg #[.int .i64 n, .int .i64 r], .agg #[.int .i64 N, .int .i64 D]] w fun e w' => e = .returned (.tuple #[.int .i64 (Em.tail N (D - N) n r), .int .i64 (D ^ n)]) ∧ Below w.heap.size w w' := by
  have hM : 0 ≤ D - N := by omega
  have f0 : IntKind.i64.wrap (D - N) = D - N := IntWalk.i64_in _ (by omega)
  have Ht := Lib.hid (fun k => (⟨Em.tail_nonneg hN hM n k, Int.le_trans (by have := Em.tail_bound hN hM n k; rw [show N + (D - N) = D by omega] at this; exact this) (pow_le (by omega) hD n hn)⟩ : 0 ≤ Em.tail N (D - N) n k ∧ Em.tail N (D - N) n k ≤ 1000000000000))
  have Hc := Lib.hid (fun k (hk : k ≤ n) => (⟨Em.cnt_nonneg hN hM n k, Int.le_trans (by have := Em.cnt_bound hN hM n k; rw [show N + (D - N) = D by omega] at this; exact this) (pow_le (by omega) hD n hn), Em.cnt_choose n k hk⟩ : 0 ≤ cnt N (D - N) n k ∧ cnt N (D - N) n k ≤ 1000000000000 ∧ cnt N (D - N) n k = (ch n k : Int) * N ^ k * (D - N) ^ (n - k)))
  have k3 := fun W => power_same D n W (by omega) hD hn _ rfl
  generalize hT : Em.tail N (D - N) n r = T at *
  have HT := Lib.hid hT
  clear hT
  go_enter Try.func62, Try.ntmps62
  go_wp2_with fail
  go_loopw [6, 7] (fun s6 s7 wr => ∃ (k : Nat) (s : Int) (W : World), k ≤ n + 1 ∧ s7 = .int .i64 k ∧ s6 = .int .i64 s ∧ Hid (r ≤ k) ∧ Hid (W = wr) ∧ Hid (s = T - Em.tail N (D - N) n k) ∧ Cs W w.heap.size #[.int .i64 n, .int .i64 r] ∧ Cs W (w.heap.size + 1) #[.int .i64 N, .int .i64 D] ∧ Below w.heap.size w W) (fun _ s7 _ => (n + 1) - (intOf s7).toNat)
  case atStart => exact ⟨r, 0, _, by omega, rfl, rfl, Lib.hid (Nat.le_refl _), Lib.hid rfl, Lib.hid (by rw [HT.out]; omega), csA, csA, blA⟩
  case round =>
    obtain ⟨k, s, W, hk, rfl, rfl, Hrk, HW, Hs, B0, B1, hbw⟩ := hrel
    obtain rfl := HW.out
    clear HW
    have cB0 := B0.c
    have fB0 := B0.f
    have lB0 := B0.lt
    have cB1 := B1.c
    have fB1 := B1.f
    have lB1 := B1.lt
    by_cases hkn : k < n + 1
    · have hkI : (k : Int) < (n : Int) + 1 := by omega
      obtain ⟨q0, q1, q2⟩ := Hc.out k (by omega)
      have hN10 : N ≤ 10 := by omega
      have kc := fun W => choose_same n k W hn (by omega) _ rfl
      have kp := fun W => power_same N k W hN hN10 (by omega) _ rfl
      have km := fun W => power_same (D - N) (n - k) W hM (by omega) (by omega) _ rfl
      have p0 := Em.pow_nonneg hN k
      have p1 := pow_le hN hN10 k (by omega)
      have hch := (Em.ch_step n (by omega) k (by omega) (by omega)).2
      have e0 : (n : Int) - (k : Int) = ((n - k : Nat) : Int) := by omega
      have f1 : IntKind.i64.wrap ((n : Int) - (k : Int)) = ((n - k : Nat) : Int) := by rw [e0]; exact IntWalk.i64_in _ (by omega)
      have m0 : 0 ≤ (ch n k : Int) * N ^ k := Int.mul_nonneg (by omega) p0
      have m1 : (ch n k : Int) * N ^ k ≤ 924 * 1000000000000 := Int.mul_le_mul (by omega) p1 p0 (by omega)
      have hstep := Em.tail_step (N := N) (M := D - N) n k
      have hb1 := Ht.out k
      have hb2 := Ht.out (k + 1)
      have hbT := Ht.out r
      rw [HT.out] at hbT
      have hs := Hs.out
      generalize (ch n k : Int) = c at *
      generalize N ^ k = x at *
      generalize (D - N) ^ (n - k) = y at *
      have f2 : IntKind.i64.wrap (c * x) = c * x := IntWalk.i64_in _ (by omega)
      have f3 : IntKind.i64.wrap (c * x * y) = c * x * y := by rw [← q2]; exact IntWalk.i64_in _ (by omega)
      have Hs2 : Hid (s + c * x * y = T - Em.tail N (D - N) n (k + 1)) := Lib.hid (by rw [← q2]; omega)
      have f4 : IntKind.i64.wrap (s + c * x * y) = s + c * x * y := by rw [Hs2.out]; exact IntWalk.i64_in _ (by omega)
      clear q0 q1 q2 p0 p1 hch e0 m0 m1 hstep hb1 hb2 hbT hs Hs
      have Hrk2 : Hid (r ≤ k + 1) := Lib.hid (by have := Hrk.out; omega)
      go_wp2_with fail
      go_quiet (first | (go_at_call 79; with_reducible refine Calls.quiet_of_same (kc _)) | (go_at_call 80; with_reducible refine Calls.quiet_of_same (kp _)) | (go_at_call 80; with_reducible refine Calls.quiet_of_same (km _)))
      go_wp2_with fail
      go_roundw
      case rel => exact ⟨k + 1, s + c * x * y, _, by omega, by go_num, rfl, Hrk2, Lib.hid rfl, Hs2, B0.drewN _, B1.drewN _, bdrewN hbw _⟩
      case measure => simp [intOf]; omega
    · obtain rfl : k = n + 1 := by omega
      have Hf : Hid (s = T) := Lib.hid (by rw [Hs.out, Em.tail_above n (n + 1) (by omega)]; omega)
      obtain rfl := Hf.out
      clear Hs Hf
      go_wp2_with fail
      refine (k3 _).mono ?_
      rintro _ w2 ⟨rfl, rfl⟩
      go_wp2_with fail
      go_ret2
      exact ⟨rfl, blA⟩

theorem risPlan_any (P R : Int) (w : World) :
    Calls Try.prog 33 #[.agg #[.int .i64 P, .int .i64 R]] w fun e w' => e = .returned (.bool (decide (1 ≤ P ∧ P ≤ 12 ∧ 0 ≤ R ∧ R ≤ P))) ∧ Below w.heap.size w w' := by
  generalize hb : decide (1 ≤ P ∧ P ≤ 12 ∧ 0 ≤ R ∧ R ≤ P) = b
  have HB := Lib.hid hb
  clear hb
  by_cases h1 : 1 ≤ P
  case neg =>
    have hfin : Hid (false = b) := Lib.hid (by rw [← HB.out]; symm; apply decide_eq_false; omega)
    go_enter Try.func33, Try.ntmps33
    go_wp2_with fail
    go_ret
    exact ⟨ret_bool hfin.out, blA⟩
  case pos =>
  by_cases h2 : P ≤ 12
  case neg =>
    have hfin : Hid (false = b) := Lib.hid (by rw [← HB.out]; symm; apply decide_eq_false; omega)
    go_enter Try.func33, Try.ntmps33
    go_wp2_with fail
    go_ret
    exact ⟨ret_bool hfin.out, blA⟩
  case pos =>
  by_cases h3 : 0 ≤ R
  case neg =>
    have hfin : Hid (false = b) := Lib.hid (by rw [← HB.out]; symm; apply decide_eq_false; omega)
    go_enter Try.func33, Try.ntmps33
    go_wp2_with fail
    go_ret
    exact ⟨ret_bool hfin.out, blA⟩
  case pos =>
  have hfin : Hid (decide (R ≤ P) = b) := Lib.hid (by rw [← HB.out]; simp [h1, h2, h3])
  go_enter Try.func33, Try.ntmps33
  go_wp2_with fail
  go_ret
  exact ⟨ret_bool hfin.out, blA⟩

set_option maxHeartbeats 2000000 in
theorem rtail_any (P R N D : Int) (w : World) :
    Calls Try.prog 23 #[.agg #[.int .i64 P, .int .i64 R], .agg #[.int .i64 N, .int .i64 D]] w fun e w' => e = RetFE (tailP P R N D) ∧ Below w.heap.size w w' := by
  unfold tailP
  have k1 := fun W => risPlan_any P R W
  have k2 := fun W => risChance_any N D 10 W (by omega)
  by_cases hp : 1 ≤ P ∧ P ≤ 12 ∧ 0 ≤ R ∧ R ≤ P
  · rw [decide_eq_true hp] at k1
    cases hc : isCh N D 10 with
    | true =>
      rw [hc] at k2
      rw [if_pos ⟨hp.1, hp.2.1, hp.2.2.1, hp.2.2.2, rfl⟩]
      obtain ⟨h1, h2, h3, h4⟩ := hp
      obtain ⟨n, rfl⟩ : ∃ n : Nat, P = n := ⟨P.toNat, by omega⟩
      obtain ⟨r, rfl⟩ : ∃ r : Nat, R = r := ⟨R.toNat, by omega⟩
      obtain ⟨c1, c2, c3, c4, _⟩ : 1 ≤ D ∧ D ≤ 10 ∧ 0 ≤ N ∧ N ≤ D ∧ Int.gcd N D = 1 := of_decide_eq_true hc
      have k3 := fun W => parts_any n r N D W (by omega) (by omega) c3 c4 c2
      have ht0 := Em.tail_nonneg c3 (show 0 ≤ D - N by omega) n r
      have ht1 := Em.tail_bound c3 (show 0 ≤ D - N by omega) n r
      rw [show N + (D - N) = D by omega] at ht1
      have hp1 := pow_pos c1 n
      have hp2 := pow_le (show 0 ≤ D by omega) c2 n (by omega)
      have k4 := fun W => fraction_any (Em.tail N (D - N) n r) (D ^ n) W ht0 hp1 (by omega) (by omega)
      simp only [Int.toNat_natCast]
      generalize Em.tail N (D - N) n r = T at *
      generalize D ^ n = q at *
      generalize hrd : red T q = rd at *
      unfold RetFE
      clear h1 h2 h3 h4 c1 c2 c3 c4 ht0 ht1 hp1 hp2 hc hrd
      go_enter Try.func23, Try.ntmps23
      go_wp2_with fail
      refine (k1 _).mono ?_
      rintro e w1 ⟨rfl, hb1⟩
      replace B0 : Cs w1 (w.heap.size) #[.int .i64 n, .int .i64 r] := Cs.keep csA hb1
      replace B1 : Cs w1 (w.heap.size + 1) #[.int .i64 N, .int .i64 D] := Cs.keep csA hb1
      replace B2 : Cs w1 (w.heap.size + 1 + 1) #[.int .i64 0, .int .i64 0] := Cs.keep csA hb1
      replace hbw : Below w.heap.size w w1 := blA
      replace cB0 := B0.c
      replace fB0 := B0.f
      replace lB0 := B0.lt
      replace cB1 := B1.c
      replace fB1 := B1.f
      replace lB1 := B1.lt
      replace cB2 := B2.c
      replace fB2 := B2.f
      replace lB2 := B2.lt
      clear hb1
      go_wp2_with fail
      refine (k2 _).mono ?_
      rintro e w2 ⟨rfl, hb2⟩
      replace B0 : Cs w2 (w.heap.size) #[.int .i64 n, .int .i64 r] := Cs.keep csA hb2
      replace B1 : Cs w2 (w.heap.size + 1) #[.int .i64 N, .int .i64 D] := Cs.keep csA hb2
      replace B2 : Cs w2 (w.heap.size + 1 + 1) #[.int .i64 0, .int .i64 0] := Cs.keep csA hb2
      replace hbw : Below w.heap.size w w2 := blA
      replace cB0 := B0.c
      replace fB0 := B0.f
      replace lB0 := B0.lt
      replace cB1 := B1.c
      replace fB1 := B1.f
      replace lB1 := B1.lt
      replace cB2 := B2.c
      replace fB2 := B2.f
      replace lB2 := B2.lt
      clear hb2
      go_wp2_with fail
      refine (k3 _).mono ?_
      rintro e w3 ⟨rfl, hb3⟩
      try clear cB0 fB0 lB0
      try clear B0
      try clear cB1 fB1 lB1
      try clear B1
      replace B2 : Cs w3 (w.heap.size + 1 + 1) #[.int .i64 0, .int .i64 0] := Cs.keep csA hb3
      replace hbw : Below w.heap.size w w3 := blA
      replace cB2 := B2.c
      replace fB2 := B2.f
      replace lB2 := B2.lt
      clear hb3
      go_wp2_with fail
      refine (k4 _).mono ?_
      rintro e w4 ⟨rfl, hb4⟩
      try clear cB0 fB0 lB0
      try clear B0
      try clear cB1 fB1 lB1
      try clear B1
      replace B2 : Cs w4 (w.heap.size + 1 + 1) #[.int .i64 0, .int .i64 0] := Cs.keep csA hb4
      replace hbw : Below w.heap.size w w4 := blA
      replace cB2 := B2.c
      replace fB2 := B2.f
      replace lB2 := B2.lt
      clear hb4
      go_wp2_with fail
      exact bodyPost_ret (v := .tuple #[.agg #[.int .i64 rd.1, .int .i64 rd.2], .int .i64 0]) (by simp [results, Try.results23, go_sem, cB2, fB2, lB2]) rfl ⟨rfl, blA⟩
    | false =>
      rw [hc] at k2
      rw [if_neg (fun h => absurd h.2.2.2.2 (by decide))]
      unfold RetFE
      clear hp hc
      go_enter Try.func23, Try.ntmps23
      go_wp2_with fail
      refine (k1 _).mono ?_
      rintro e w1 ⟨rfl, hb1⟩
      replace B1 : Cs w1 (w.heap.size + 1) #[.int .i64 N, .int .i64 D] := Cs.keep csA hb1
      replace B2 : Cs w1 (w.heap.size + 1 + 1) #[.int .i64 0, .int .i64 0] := Cs.keep csA hb1
      replace hbw : Below w.heap.size w w1 := blA
      replace cB1 := B1.c
      replace fB1 := B1.f
      replace lB1 := B1.lt
      replace cB2 := B2.c
      replace fB2 := B2.f
      replace lB2 := B2.lt
      clear hb1
      go_wp2_with fail
      refine (k2 _).mono ?_
      rintro e w2 ⟨rfl, hb2⟩
      try clear cB1 fB1 lB1
      try clear B1
      replace B2 : Cs w2 (w.heap.size + 1 + 1) #[.int .i64 0, .int .i64 0] := Cs.keep csA hb2
      replace hbw : Below w.heap.size w w2 := blA
      replace cB2 := B2.c
      replace fB2 := B2.f
      replace lB2 := B2.lt
      clear hb2
      go_wp2_with fail
      exact bodyPost_ret (v := .tuple #[.agg #[.int .i64 0, .int .i64 0], .int .i64 2]) (by simp [results, Try.results23, go_sem, cB2, fB2, lB2]) rfl ⟨rfl, blA⟩
  · rw [decide_eq_false hp] at k1
    rw [if_neg (fun h => hp ⟨h.1, h.2.1, h.2.2.1, h.2.2.2.1⟩)]
    unfold RetFE
    clear hp k2
    go_enter Try.func23, Try.ntmps23
    go_wp2_with fail
    refine (k1 _).mono ?_
    rintro e w1 ⟨rfl, hb1⟩
    replace B2 : Cs w1 (w.heap.size + 1 + 1) #[.int .i64 0, .int .i64 0] := Cs.keep csA hb1
    replace hbw : Below w.heap.size w w1 := blA
    replace cB2 := B2.c
    replace fB2 := B2.f
    replace lB2 := B2.lt
    clear hb1
    go_wp2_with fail
    exact bodyPost_ret (v := .tuple #[.agg #[.int .i64 0, .int .i64 0], .int .i64 2]) (by simp [results, Try.results23, go_sem, cB2, fB2, lB2]) rfl ⟨rfl, blA⟩

end Go.Proofs.Ytcmllkjgggcghaa
end

/- Walks of the reference of layer 10: Keeps, Plan. -/
section
namespace Go.Proofs.Ytcmllkjgggcghaa
open Go.RowKit Go.Shelf
set_option linter.unusedSimpArgs false
set_option linter.unusedVariables false
open Em (isCh red cnt ch)

/-- chances and printed odds that a plan can be asked for -/
structure Asked (gN gD sN sD oN oD iN iD : Int) : Prop where
  g1 : 1 ≤ gD
  g2 : gD ≤ 10
  g3 : 0 ≤ gN
  g4 : gN ≤ gD
  s1 : 1 ≤ sD
  s2 : sD ≤ 10
  s3 : 0 ≤ sN
  s4 : sN ≤ sD
  o1 : 1 ≤ oD
  o2 : oD ≤ 1000000
  o3 : 0 ≤ oN
  o4 : oN ≤ oD
  i1 : 1 ≤ iD
  i2 : iD ≤ 1000000
  i3 : 0 ≤ iN
  i4 : iN ≤ iD

set_option maxRecDepth 10000 in
set_option maxHeartbeats 2000000 in
theorem keeps_any (n r : Nat) (gN gD sN sD oN oD iN iD : Int) (w : World) (hn : n ≤ 12) (hr : r ≤ n) (h : Asked gN gD sN sD oN oD iN iD) (b : Bool) (hb : b = planQ gN gD sN sD oN oD iN iD n r) :
    Calls Try.prog 32 #[.agg #[.int .i64 n, .int .i64 r], .agg #[.int .i64 gN, .int .i64 gD], .agg #[.int .i64 sN, .int .i64 sD], .agg #[.int .i64 oN, .int .i64 oD], .agg #[.int .i64 iN, .int .i64 iD]] w fun e w' => e = .returned (.bool b) ∧ Below w.heap.size w w' := by
  obtain ⟨g1, g2, g3, g4, s1, s2, s3, s4, o1, o2, o3, o4, i1, i2, i3, i4⟩ := h
  have k1 := fun W => parts_any n r gN gD W hn hr g3 g4 g2
  have k2 := fun W => parts_any n r sN sD W hn hr s3 s4 s2
  have t0 := Em.tail_nonneg g3 (show 0 ≤ gD - gN by omega) n r
  have t1 := Em.tail_bound g3 (show 0 ≤ gD - gN by omega) n r
  rw [show gN + (gD - gN) = gD by omega] at t1
  have u0 := Em.tail_nonneg s3 (show 0 ≤ sD - sN by omega) n r
  have u1 := Em.tail_bound s3 (show 0 ≤ sD - sN by omega) n r
  rw [show sN + (sD - sN) = sD by omega] at u1
  have p1 := pow_pos g1 n
  have p2 := pow_le (show 0 ≤ gD by omega) g2 n hn
  have q1 := pow_pos s1 n
  have q2 := pow_le (show 0 ≤ sD by omega) s2 n hn
  have hB : b = (decide (Em.tail gN (gD - gN) n r * oD ≤ oN * gD ^ n) && decide ((sD ^ n - Em.tail sN (sD - sN) n r) * iD ≤ iN * sD ^ n)) := by
    rw [hb]
    unfold planQ Em.keeps
    rw [show gN + (gD - gN) = gD by omega, show sN + (sD - sN) = sD by omega]
    have e : sD ^ n - Em.tail sN (sD - sN) n r = Em.head sN (sD - sN) n r := by unfold Em.tail; rw [show sN + (sD - sN) = sD by omega]; omega
    rw [e]
  have HB := Lib.hid hB
  clear hb hB
  generalize Em.tail gN (gD - gN) n r = T at *
  generalize Em.tail sN (sD - sN) n r = U at *
  generalize gD ^ n = P at *
  generalize sD ^ n = Q at *
  have m0 : 0 ≤ T * oD := Int.mul_nonneg t0 (by omega)
  have m1 : T * oD ≤ 1000000000000 * 1000000 := Int.mul_le_mul (by omega) o2 (by omega) (by omega)
  have m2 : 0 ≤ oN * P := Int.mul_nonneg o3 (by omega)
  have m3 : oN * P ≤ 1000000 * 1000000000000 := Int.mul_le_mul (by omega) p2 (by omega) (by omega)
  have m4 : 0 ≤ (Q - U) * iD := Int.mul_nonneg (by omega) (by omega)
  have m5 : (Q - U) * iD ≤ 1000000000000 * 1000000 := Int.mul_le_mul (by omega) i2 (by omega) (by omega)
  have m6 : 0 ≤ iN * Q := Int.mul_nonneg i3 (by omega)
  have m7 : iN * Q ≤ 1000000 * 1000000000000 := Int.mul_le_mul (by omega) q2 (by omega) (by omega)
  have f1 : IntKind.i64.wrap (T * oD) = T * oD := IntWalk.i64_in _ (by omega)
  have f2 : IntKind.i64.wrap (oN * P) = oN * P := IntWalk.i64_in _ (by omega)
  have f3 : IntKind.i64.wrap (Q - U) = Q - U := IntWalk.i64_in _ (by omega)
  have f4 : IntKind.i64.wrap ((Q - U) * iD) = (Q - U) * iD := IntWalk.i64_in _ (by omega)
  have f5 : IntKind.i64.wrap (iN * Q) = iN * Q := IntWalk.i64_in _ (by omega)
  clear m0 m1 m2 m3 m4 m5 m6 m7 t0 t1 u0 u1 p1 p2 q1 q2 g1 g2 g3 g4 s1 s2 s3 s4 o1 o2 o3 o4 i1 i2 i3 i4
  by_cases hc : T * oD ≤ oN * P
  · have HB2 : Hid (decide ((Q - U) * iD ≤ iN * Q) = b) := Lib.hid (by rw [HB.out, decide_eq_true hc]; rfl)
    clear HB
    go_enter Try.func32, Try.ntmps32
    go_wp2_with fail
    refine (k1 _).mono ?_
    rintro e w1 ⟨rfl, hb1⟩
    replace B0 : Cs w1 (w.heap.size) #[.int .i64 n, .int .i64 r] := Cs.keep csA hb1
    replace B2 : Cs w1 (w.heap.size + 1 + 1) #[.int .i64 sN, .int .i64 sD] := Cs.keep csA hb1
    replace B3 : Cs w1 (w.heap.size + 1 + 1 + 1) #[.int .i64 oN, .int .i64 oD] := Cs.keep csA hb1
    replace B4 : Cs w1 (w.heap.size + 1 + 1 + 1 + 1) #[.int .i64 iN, .int .i64 iD] := Cs.keep csA hb1
    replace hbw : Below w.heap.size w w1 := blA
    replace cB0 := B0.c
    replace fB0 := B0.f
    replace lB0 := B0.lt
    replace cB2 := B2.c
    replace fB2 := B2.f
    replace lB2 := B2.lt
    replace cB3 := B3.c
    replace fB3 := B3.f
    replace lB3 := B3.lt
    replace cB4 := B4.c
    replace fB4 := B4.f
    replace lB4 := B4.lt
    clear hb1
    go_wp2_with fail
    refine (k2 _).mono ?_
    rintro e w2 ⟨rfl, hb2⟩
    try clear cB0 fB0 lB0
    try clear B0
    try clear cB2 fB2 lB2
    try clear B2
    replace B3 : Cs w2 (w.heap.size + 1 + 1 + 1) #[.int .i64 oN, .int .i64 oD] := Cs.keep csA hb2
    replace B4 : Cs w2 (w.heap.size + 1 + 1 + 1 + 1) #[.int .i64 iN, .int .i64 iD] := Cs.keep csA hb2
    replace hbw : Below w.heap.size w w2 := blA
    replace cB3 := B3.c
    replace fB3 := B3.f
    replace lB3 := B3.lt
    replace cB4 := B4.c
    replace fB4 := B4.f
    replace lB4 := B4.lt
    clear hb2
    go_wp2_with fail
    go_ret
    exact ⟨ret_bool HB2.out, blA⟩
  · have HB2 : Hid (false = b) := Lib.hid (by rw [HB.out, decide_eq_false hc]; rfl)
    clear HB
    go_enter Try.func32, Try.ntmps32
    go_wp2_with fail
    refine (k1 _).mono ?_
    rintro e w1 ⟨rfl, hb1⟩
    replace B0 : Cs w1 (w.heap.size) #[.int .i64 n, .int .i64 r] := Cs.keep csA hb1
    replace B2 : Cs w1 (w.heap.size + 1 + 1) #[.int .i64 sN, .int .i64 sD] := Cs.keep csA hb1
    replace B3 : Cs w1 (w.heap.size + 1 + 1 + 1) #[.int .i64 oN, .int .i64 oD] := Cs.keep csA hb1
    replace B4 : Cs w1 (w.heap.size + 1 + 1 + 1 + 1) #[.int .i64 iN, .int .i64 iD] := Cs.keep csA hb1
    replace hbw : Below w.heap.size w w1 := blA
    replace cB0 := B0.c
    replace fB0 := B0.f
    replace lB0 := B0.lt
    replace cB2 := B2.c
    replace fB2 := B2.f
    replace lB2 := B2.lt
    replace cB3 := B3.c
    replace fB3 := B3.f
    replace lB3 := B3.lt
    replace cB4 := B4.c
    replace fB4 := B4.f
    replace lB4 := B4.lt
    clear hb1
    go_wp2_with fail
    refine (k2 _).mono ?_
    rintro e w2 ⟨rfl, hb2⟩
    try clear cB0 fB0 lB0
    try clear B0
    try clear cB2 fB2 lB2
    try clear B2
    replace B3 : Cs w2 (w.heap.size + 1 + 1 + 1) #[.int .i64 oN, .int .i64 oD] := Cs.keep csA hb2
    replace B4 : Cs w2 (w.heap.size + 1 + 1 + 1 + 1) #[.int .i64 iN, .int .i64 iD] := Cs.keep csA hb2
    replace hbw : Below w.heap.size w w2 := blA
    replace cB3 := B3.c
    replace fB3 := B3.f
    replace lB3 := B3.lt
    replace cB4 := B4.c
    replace fB4 := B4.f
    replace lB4 := B4.lt
    clear hb2
    go_wp2_with fail
    go_ret
    exact ⟨ret_bool HB2.out, blA⟩

end Go.Proofs.Ytcmllkjgggcghaa
end

/- Walks of the reference of layer 10: Plan; both Plans for every input. -/
section
namespace Go.Proofs.Ytcmllkjgggcghaa
open Go.RowKit Go.Shelf
set_option linter.unusedSimpArgs false
set_option linter.unusedVariables false
open Em (isCh red cnt ch)

set_option maxRecDepth 10000 in
set_option maxHeartbeats 2000000 in
theorem rplan_bad (gN gD sN sD oN oD iN iD : Int) (w : World) (h : ¬ (isCh gN gD 10 = true ∧ isCh sN sD 10 = true ∧ isCh oN oD 1000000 = true ∧ isCh iN iD 1000000 = true)) :
    Calls Try.prog 25 #[.agg #[.int .i64 gN, .int .i64 gD], .agg #[.int .i64 sN, .int .i64 sD], .agg #[.int .i64 oN, .int .i64 oD], .agg #[.int .i64 iN, .int .i64 iD]] w fun e w' => e = RetPL ((0, 0), 2) ∧ Below w.heap.size w w' := by
  unfold RetPL
  have k1 := fun W => risChance_any gN gD 10 W (by omega)
  have k2 := fun W => risChance_any sN sD 10 W (by omega)
  have k3 := fun W => risChance_any oN oD 1000000 W (by omega)
  have k4 := fun W => risChance_any iN iD 1000000 W (by omega)
  generalize isCh gN gD 10 = b1 at *
  generalize isCh sN sD 10 = b2 at *
  generalize isCh oN oD 1000000 = b3 at *
  generalize isCh iN iD 1000000 = b4 at *
  cases b1 with
  | false =>
    clear h
    go_enter Try.func25, Try.ntmps25
    go_wp2_with fail
    refine (k1 _).mono ?_
    rintro e w1 ⟨rfl, hb1⟩
    replace B4 : Cs w1 (w.heap.size + 1 + 1 + 1 + 1) #[.int .i64 0, .int .i64 0] := Cs.keep csA hb1
    replace hbw : Below w.heap.size w w1 := blA
    replace cB4 := B4.c
    replace fB4 := B4.f
    replace lB4 := B4.lt
    clear hb1
    go_wp2_with fail
    exact bodyPost_ret (v := .tuple #[.agg #[.int .i64 0, .int .i64 0], .int .i64 2]) (by simp [results, Try.results25, go_sem, cB4, fB4, lB4]) rfl ⟨rfl, blA⟩
  | true =>
    cases b2 with
    | false =>
      clear h
      go_enter Try.func25, Try.ntmps25
      go_wp2_with fail
      refine (k1 _).mono ?_
      rintro e w1 ⟨rfl, hb1⟩
      replace B1 : Cs w1 (w.heap.size + 1) #[.int .i64 sN, .int .i64 sD] := Cs.keep csA hb1
      replace B4 : Cs w1 (w.heap.size + 1 + 1 + 1 + 1) #[.int .i64 0, .int .i64 0] := Cs.keep csA hb1
      replace hbw : Below w.heap.size w w1 := blA
      replace cB1 := B1.c
      replace fB1 := B1.f
      replace lB1 := B1.lt
      replace cB4 := B4.c
      replace fB4 := B4.f
      replace lB4 := B4.lt
      clear hb1
      go_wp2_with fail
      refine (k2 _).mono ?_
      rintro e w2 ⟨rfl, hb2⟩
      try clear cB1 fB1 lB1
      try clear B1
      replace B4 : Cs w2 (w.heap.size + 1 + 1 + 1 + 1) #[.int .i64 0, .int .i64 0] := Cs.keep csA hb2
      replace hbw : Below w.heap.size w w2 := blA
      replace cB4 := B4.c
      replace fB4 := B4.f
      replace lB4 := B4.lt
      clear hb2
      go_wp2_with fail
      exact bodyPost_ret (v := .tuple #[.agg #[.int .i64 0, .int .i64 0], .int .i64 2]) (by simp [results, Try.results25, go_sem, cB4, fB4, lB4]) rfl ⟨rfl, blA⟩
    | true =>
      cases b3 with
      | false =>
        clear h
        go_enter Try.func25, Try.ntmps25
        go_wp2_with fail
        refine (k1 _).mono ?_
        rintro e w1 ⟨rfl, hb1⟩
        replace B1 : Cs w1 (w.heap.size + 1) #[.int .i64 sN, .int .i64 sD] := Cs.keep csA hb1
        replace B2 : Cs w1 (w.heap.size + 1 + 1) #[.int .i64 oN, .int .i64 oD] := Cs.keep csA hb1
        replace B4 : Cs w1 (w.heap.size + 1 + 1 + 1 + 1) #[.int .i64 0, .int .i64 0] := Cs.keep csA hb1
        replace hbw : Below w.heap.size w w1 := blA
        replace cB1 := B1.c
        replace fB1 := B1.f
        replace lB1 := B1.lt
        replace cB2 := B2.c
        replace fB2 := B2.f
        replace lB2 := B2.lt
        replace cB4 := B4.c
        replace fB4 := B4.f
        replace lB4 := B4.lt
        clear hb1
        go_wp2_with fail
        refine (k2 _).mono ?_
        rintro e w2 ⟨rfl, hb2⟩
        try clear cB1 fB1 lB1
        try clear B1
        replace B2 : Cs w2 (w.heap.size + 1 + 1) #[.int .i64 oN, .int .i64 oD] := Cs.keep csA hb2
        replace B4 : Cs w2 (w.heap.size + 1 + 1 + 1 + 1) #[.int .i64 0, .int .i64 0] := Cs.keep csA hb2
        replace hbw : Below w.heap.size w w2 := blA
        replace cB2 := B2.c
        replace fB2 := B2.f
        replace lB2 := B2.lt
        replace cB4 := B4.c
        replace fB4 := B4.f
        replace lB4 := B4.lt
        clear hb2
        go_wp2_with fail
        refine (k3 _).mono ?_
        rintro e w3 ⟨rfl, hb3⟩
        try clear cB1 fB1 lB1
        try clear B1
        try clear cB2 fB2 lB2
        try clear B2
        replace B4 : Cs w3 (w.heap.size + 1 + 1 + 1 + 1) #[.int .i64 0, .int .i64 0] := Cs.keep csA hb3
        replace hbw : Below w.heap.size w w3 := blA
        replace cB4 := B4.c
        replace fB4 := B4.f
        replace lB4 := B4.lt
        clear hb3
        go_wp2_with fail
        exact bodyPost_ret (v := .tuple #[.agg #[.int .i64 0, .int .i64 0], .int .i64 2]) (by simp [results, Try.results25, go_sem, cB4, fB4, lB4]) rfl ⟨rfl, blA⟩
      | true =>
        cases b4 with
        | true => exact absurd ⟨rfl, rfl, rfl, rfl⟩ h
        | false =>
          clear h
          go_enter Try.func25, Try.ntmps25
          go_wp2_with fail
          refine (k1 _).mono ?_
          rintro e w1 ⟨rfl, hb1⟩
          replace B1 : Cs w1 (w.heap.size + 1) #[.int .i64 sN, .int .i64 sD] := Cs.keep csA hb1
          replace B2 : Cs w1 (w.heap.size + 1 + 1) #[.int .i64 oN, .int .i64 oD] := Cs.keep csA hb1
          replace B3 : Cs w1 (w.heap.size + 1 + 1 + 1) #[.int .i64 iN, .int .i64 iD] := Cs.keep csA hb1
          replace B4 : Cs w1 (w.heap.size + 1 + 1 + 1 + 1) #[.int .i64 0, .int .i64 0] := Cs.keep csA hb1
          replace hbw : Below w.heap.size w w1 := blA
          replace cB1 := B1.c
          replace fB1 := B1.f
          replace lB1 := B1.lt
          replace cB2 := B2.c
          replace fB2 := B2.f
          replace lB2 := B2.lt
          replace cB3 := B3.c
          replace fB3 := B3.f
          replace lB3 := B3.lt
          replace cB4 := B4.c
          replace fB4 := B4.f
          replace lB4 := B4.lt
          clear hb1
          go_wp2_with fail
          refine (k2 _).mono ?_
          rintro e w2 ⟨rfl, hb2⟩
          try clear cB1 fB1 lB1
          try clear B1
          replace B2 : Cs w2 (w.heap.size + 1 + 1) #[.int .i64 oN, .int .i64 oD] := Cs.keep csA hb2
          replace B3 : Cs w2 (w.heap.size + 1 + 1 + 1) #[.int .i64 iN, .int .i64 iD] := Cs.keep csA hb2
          replace B4 : Cs w2 (w.heap.size + 1 + 1 + 1 + 1) #[.int .i64 0, .int .i64 0] := Cs.keep csA hb2
          replace hbw : Below w.heap.size w w2 := blA
          replace cB2 := B2.c
          replace fB2 := B2.f
          replace lB2 := B2.lt
          replace cB3 := B3.c
          replace fB3 := B3.f
          replace lB3 := B3.lt
          replace cB4 := B4.c
          replace fB4 := B4.f
          replace lB4 := B4.lt
          clear hb2
          go_wp2_with fail
          refine (k3 _).mono ?_
          rintro e w3 ⟨rfl, hb3⟩
          try clear cB1 fB1 lB1
          try clear B1
          try clear cB2 fB2 lB2
          try clear B2
          replace B3 : Cs w3 (w.heap.size + 1 + 1 + 1) #[.int .i64 iN, .int .i64 iD] := Cs.keep csA hb3
          replace B4 : Cs w3 (w.heap.size + 1 + 1 + 1 + 1) #[.int .i64 0, .int .i64 0] := Cs.keep csA hb3
          replace hbw : Below w.heap.size w w3 := blA
          replace cB3 := B3.c
          replace fB3 := B3.f
          replace lB3 := B3.lt
          replace cB4 := B4.c
          replace fB4 := B4.f
          replace lB4 := B4.lt
          clear hb3
          go_wp2_with fail
          refine (k4 _).mono ?_
          rintro e w4 ⟨rfl, hb4⟩
          try clear cB1 fB1 lB1
          try clear B1
          try clear cB2 fB2 lB2
          try clear B2
          try clear cB3 fB3 lB3
          try clear B3
          replace B4 : Cs w4 (w.heap.size + 1 + 1 + 1 + 1) #[.int .i64 0, .int .i64 0] := Cs.keep csA hb4
          replace hbw : Below w.heap.size w w4 := blA
          replace cB4 := B4.c
          replace fB4 := B4.f
          replace lB4 := B4.lt
          clear hb4
          go_wp2_with fail
          exact bodyPost_ret (v := .tuple #[.agg #[.int .i64 0, .int .i64 0], .int .i64 2]) (by simp [results, Try.results25, go_sem, cB4, fB4, lB4]) rfl ⟨rfl, blA⟩


theorem asked_of {gN gD sN sD oN oD iN iD : Int} (h1 : isCh gN gD 10 = true) (h2 : isCh sN sD 10 = true) (h3 : isCh oN oD 1000000 = true) (h4 : isCh iN iD 1000000 = true) : Asked gN gD sN sD oN oD iN iD := by
  obtain ⟨a1, a2, a3, a4, _⟩ : 1 ≤ gD ∧ gD ≤ 10 ∧ 0 ≤ gN ∧ gN ≤ gD ∧ Int.gcd gN gD = 1 := of_decide_eq_true h1
  obtain ⟨b1, b2, b3, b4, _⟩ : 1 ≤ sD ∧ sD ≤ 10 ∧ 0 ≤ sN ∧ sN ≤ sD ∧ Int.gcd sN sD = 1 := of_decide_eq_true h2
  obtain ⟨c1, c2, c3, c4, _⟩ : 1 ≤ oD ∧ oD ≤ 1000000 ∧ 0 ≤ oN ∧ oN ≤ oD ∧ Int.gcd oN oD = 1 := of_decide_eq_true h3
  obtain ⟨d1, d2, d3, d4, _⟩ : 1 ≤ iD ∧ iD ≤ 1000000 ∧ 0 ≤ iN ∧ iN ≤ iD ∧ Int.gcd iN iD = 1 := of_decide_eq_true h4
  exact ⟨a1, a2, a3, a4, b1, b2, b3, b4, c1, c2, c3, c4, d1, d2, d3, d4⟩

set_option maxRecDepth 10000 in
set_option maxHeartbeats 8000000 in
theorem rplan_ok (gN gD sN sD oN oD iN iD : Int) (w : World) (h1 : isCh gN gD 10 = true) (h2 : isCh sN sD 10 = true) (h3 : isCh oN oD 1000000 = true) (h4 : isCh iN iD 1000000 = true) :
    Calls Try.prog 25 #[.agg #[.int .i64 gN, .int .i64 gD], .agg #[.int .i64 sN, .int .i64 sD], .agg #[.int .i64 oN, .int .i64 oD], .agg #[.int .i64 iN, .int .i64 iD]] w fun e w' => e = RetPL (planP gN gD sN sD oN oD iN iD) ∧ Below w.heap.size w w' := by
  unfold RetPL
  have k1 := fun W => risChance_any gN gD 10 W (by omega)
  have k2 := fun W => risChance_any sN sD 10 W (by omega)
  have k3 := fun W => risChance_any oN oD 1000000 W (by omega)
  have k4 := fun W => risChance_any iN iD 1000000 W (by omega)
  have HA := Lib.hid (asked_of h1 h2 h3 h4)
  rw [h1] at k1
  rw [h2] at k2
  rw [h3] at k3
  rw [h4] at k4
  generalize hR : planP gN gD sN sD oN oD iN iD = R
  have HR := Lib.hid hR
  clear h1 h2 h3 h4 hR
  go_enter Try.func25, Try.ntmps25
  go_wp2_with fail
  refine (k1 _).mono ?_
  rintro e w1 ⟨rfl, hb1⟩
  replace B0 : Cs w1 (w.heap.size) #[.int .i64 gN, .int .i64 gD] := Cs.keep csA hb1
  replace B1 : Cs w1 (w.heap.size + 1) #[.int .i64 sN, .int .i64 sD] := Cs.keep csA hb1
  replace B2 : Cs w1 (w.heap.size + 1 + 1) #[.int .i64 oN, .int .i64 oD] := Cs.keep csA hb1
  replace B3 : Cs w1 (w.heap.size + 1 + 1 + 1) #[.int .i64 iN, .int .i64 iD] := Cs.keep csA hb1
  replace B4 : Cs w1 (w.heap.size + 1 + 1 + 1 + 1) #[.int .i64 0, .int .i64 0] := Cs.keep csA hb1
  replace hbw : Below w.heap.size w w1 := blA
  replace cB0 := B0.c
  replace fB0 := B0.f
  replace lB0 := B0.lt
  replace cB1 := B1.c
  replace fB1 := B1.f
  replace lB1 := B1.lt
  replace cB2 := B2.c
  replace fB2 := B2.f
  replace lB2 := B2.lt
  replace cB3 := B3.c
  replace fB3 := B3.f
  replace lB3 := B3.lt
  replace cB4 := B4.c
  replace fB4 := B4.f
  replace lB4 := B4.lt
  clear hb1
  go_wp2_with fail
  refine (k2 _).mono ?_
  rintro e w2 ⟨rfl, hb2⟩
  replace B0 : Cs w2 (w.heap.size) #[.int .i64 gN, .int .i64 gD] := Cs.keep csA hb2
  replace B1 : Cs w2 (w.heap.size + 1) #[.int .i64 sN, .int .i64 sD] := Cs.keep csA hb2
  replace B2 : Cs w2 (w.heap.size + 1 + 1) #[.int .i64 oN, .int .i64 oD] := Cs.keep csA hb2
  replace B3 : Cs w2 (w.heap.size + 1 + 1 + 1) #[.int .i64 iN, .int .i64 iD] := Cs.keep csA hb2
  replace B4 : Cs w2 (w.heap.size + 1 + 1 + 1 + 1) #[.int .i64 0, .int .i64 0] := Cs.keep csA hb2
  replace hbw : Below w.heap.size w w2 := blA
  replace cB0 := B0.c
  replace fB0 := B0.f
  replace lB0 := B0.lt
  replace cB1 := B1.c
  replace fB1 := B1.f
  replace lB1 := B1.lt
  replace cB2 := B2.c
  replace fB2 := B2.f
  replace lB2 := B2.lt
  replace cB3 := B3.c
  replace fB3 := B3.f
  replace lB3 := B3.lt
  replace cB4 := B4.c
  replace fB4 := B4.f
  replace lB4 := B4.lt
  clear hb2
  go_wp2_with fail
  refine (k3 _).mono ?_
  rintro e w3 ⟨rfl, hb3⟩
  replace B0 : Cs w3 (w.heap.size) #[.int .i64 gN, .int .i64 gD] := Cs.keep csA hb3
  replace B1 : Cs w3 (w.heap.size + 1) #[.int .i64 sN, .int .i64 sD] := Cs.keep csA hb3
  replace B2 : Cs w3 (w.heap.size + 1 + 1) #[.int .i64 oN, .int .i64 oD] := Cs.keep csA hb3
  replace B3 : Cs w3 (w.heap.size + 1 + 1 + 1) #[.int .i64 iN, .int .i64 iD] := Cs.keep csA hb3
  replace B4 : Cs w3 (w.heap.size + 1 + 1 + 1 + 1) #[.int .i64 0, .int .i64 0] := Cs.keep csA hb3
  replace hbw : Below w.heap.size w w3 := blA
  replace cB0 := B0.c
  replace fB0 := B0.f
  replace lB0 := B0.lt
  replace cB1 := B1.c
  replace fB1 := B1.f
  replace lB1 := B1.lt
  replace cB2 := B2.c
  replace fB2 := B2.f
  replace lB2 := B2.lt
  replace cB3 := B3.c
  replace fB3 := B3.f
  replace lB3 := B3.lt
  replace cB4 := B4.c
  replace fB4 := B4.f
  replace lB4 := B4.lt
  clear hb3
  go_wp2_with fail
  refine (k4 _).mono ?_
  rintro e w4 ⟨rfl, hb4⟩
  replace B0 : Cs w4 (w.heap.size) #[.int .i64 gN, .int .i64 gD] := Cs.keep csA hb4
  replace B1 : Cs w4 (w.heap.size + 1) #[.int .i64 sN, .int .i64 sD] := Cs.keep csA hb4
  replace B2 : Cs w4 (w.heap.size + 1 + 1) #[.int .i64 oN, .int .i64 oD] := Cs.keep csA hb4
  replace B3 : Cs w4 (w.heap.size + 1 + 1 + 1) #[.int .i64 iN, .int .i64 iD] := Cs.keep csA hb4
  replace B4 : Cs w4 (w.heap.size + 1 + 1 + 1 + 1) #[.int .i64 0, .int .i64 0] := Cs.keep csA hb4
  replace hbw : Below w.heap.size w w4 := blA
  replace cB0 := B0.c
  replace fB0 := B0.f
  replace lB0 := B0.lt
  replace cB1 := B1.c
  replace fB1 := B1.f
  replace lB1 := B1.lt
  replace cB2 := B2.c
  replace fB2 := B2.f
  replace lB2 := B2.lt
  replace cB3 := B3.c
  replace fB3 := B3.f
  replace lB3 := B3.lt
  replace cB4 := B4.c
  replace fB4 := B4.f
  replace lB4 := B4.lt
  clear hb4
  clear k1 k2 k3 k4
  go_wp2_with fail
  go_loopw [10] (fun s10 wr => ∃ p : Nat, 1 ≤ p ∧ p ≤ 13 ∧ s10 = .int .i64 p ∧ Hid (Em.planFrom (planQ gN gD sN sD oN oD iN iD) 1 12 = Em.planFrom (planQ gN gD sN sD oN oD iN iD) p (13 - p)) ∧
      Cs wr w.heap.size #[.int .i64 gN, .int .i64 gD] ∧ Cs wr (w.heap.size + 1) #[.int .i64 sN, .int .i64 sD] ∧ Cs wr (w.heap.size + 1 + 1) #[.int .i64 oN, .int .i64 oD] ∧ Cs wr (w.heap.size + 1 + 1 + 1) #[.int .i64 iN, .int .i64 iD] ∧ Cs wr (w.heap.size + 1 + 1 + 1 + 1) #[.int .i64 0, .int .i64 0] ∧ Below w.heap.size w wr) (fun s10 _ => 13 - (intOf s10).toNat)
  case atStart => exact ⟨1, by omega, by omega, rfl, Lib.hid rfl, B0, B1, B2, B3, B4, hbw⟩
  case round =>
    clear B0 B1 B2 B3 B4 hbw cB0 fB0 lB0 cB1 fB1 lB1 cB2 fB2 lB2 cB3 fB3 lB3 cB4 fB4 lB4
    obtain ⟨p, hp1, hp2, rfl, Hpl, B0, B1, B2, B3, B4, hbw⟩ := hrel
    by_cases hp : p ≤ 12
    · have hpI : (p : Int) ≤ 12 := by omega
      go_wp2_with fail
      go_loopw [11] (fun s11 wx => ∃ (r : Nat) (W : World), r ≤ p + 1 ∧ s11 = .int .i64 r ∧ Hid (W = wx) ∧ Hid (∀ y, y < r → planQ gN gD sN sD oN oD iN iD p y = false) ∧
          Cs W w.heap.size #[.int .i64 gN, .int .i64 gD] ∧ Cs W (w.heap.size + 1) #[.int .i64 sN, .int .i64 sD] ∧ Cs W (w.heap.size + 1 + 1) #[.int .i64 oN, .int .i64 oD] ∧ Cs W (w.heap.size + 1 + 1 + 1) #[.int .i64 iN, .int .i64 iD] ∧ Cs W (w.heap.size + 1 + 1 + 1 + 1) #[.int .i64 0, .int .i64 0] ∧ Below w.heap.size w W) (fun s11 _ => (p + 1) - (intOf s11).toNat)
      case atStart => exact ⟨0, _, by omega, rfl, Lib.hid rfl, Lib.hid (fun y hy => absurd hy (by omega)), B0, B1, B2, B3, B4, hbw⟩
      case round =>
        clear B0 B1 B2 B3 B4 hbw
        obtain ⟨r, W, hr, rfl, HW, Hno, B0, B1, B2, B3, B4, hbw⟩ := hrel
        obtain rfl := HW.out
        clear HW
        by_cases hrp : r < p + 1
        · have hrI : (r : Int) ≤ (p : Int) := by omega
          have kk := fun W => keeps_any p r gN gD sN sD oN oD iN iD W hp (by omega) HA.out _ rfl
          cases hq : planQ gN gD sN sD oN oD iN iD p r with
          | true =>
            rw [hq] at kk
            have hfin : R = (((p : Int), (r : Int)), 0) := by
              rw [← HR.out]
              unfold planP
              have e : Em.rightFrom (planQ gN gD sN sD oN oD iN iD p) 0 (p + 1) = some r := Em.rf_some hrp hq (fun y hy => Hno.out y hy)
              rw [Hpl.out, show 13 - p = (12 - p) + 1 by omega, Em.planFrom, e]
            subst hfin
            clear hq HR Hpl Hno
            have cB0 := B0.c
            have fB0 := B0.f
            have lB0 := B0.lt
            have cB1 := B1.c
            have fB1 := B1.f
            have lB1 := B1.lt
            have cB2 := B2.c
            have fB2 := B2.f
            have lB2 := B2.lt
            have cB3 := B3.c
            have fB3 := B3.f
            have lB3 := B3.lt
            go_wp2_with fail
            refine (kk _).mono ?_
            rintro e w5 ⟨rfl, hb5⟩
            try clear cB0 fB0 lB0
            try clear B0
            try clear cB1 fB1 lB1
            try clear B1
            try clear cB2 fB2 lB2
            try clear B2
            try clear cB3 fB3 lB3
            try clear B3
            replace B4 : Cs w5 (w.heap.size + 1 + 1 + 1 + 1) #[.int .i64 0, .int .i64 0] := Cs.keep csA hb5
            replace Bx : Cs w5 (W.heap.size) #[.int .i64 p, .int .i64 r] := Cs.keep csA hb5
            replace hbw : Below w.heap.size w w5 := blA
            replace cB4 := B4.c
            replace fB4 := B4.f
            replace lB4 := B4.lt
            replace cBx := Bx.c
            replace fBx := Bx.f
            replace lBx := Bx.lt
            clear hb5
            go_wp2_with fail
            exact bodyPost_ret (v := .tuple #[.agg #[.int .i64 (p : Int), .int .i64 (r : Int)], .int .i64 0]) (by simp [results, Try.results25, go_sem, cB4, fB4, lB4, cBx, fBx, lBx]) rfl ⟨rfl, blA⟩
          | false =>
            rw [hq] at kk
            have Hno2 : Hid (∀ y, y < r + 1 → planQ gN gD sN sD oN oD iN iD p y = false) := Lib.hid (fun y hy => by
              by_cases e : y = r
              · rw [e]; exact hq
              · exact Hno.out y (by omega))
            clear hq Hno
            have cB0 := B0.c
            have fB0 := B0.f
            have lB0 := B0.lt
            have cB1 := B1.c
            have fB1 := B1.f
            have lB1 := B1.lt
            have cB2 := B2.c
            have fB2 := B2.f
            have lB2 := B2.lt
            have cB3 := B3.c
            have fB3 := B3.f
            have lB3 := B3.lt
            go_wp2_with fail
            refine (kk _).mono ?_
            rintro e w5 ⟨rfl, hb5⟩
            try clear cBx fBx lBx
            try clear Bx
            replace B0 : Cs w5 (w.heap.size) #[.int .i64 gN, .int .i64 gD] := Cs.keep csA hb5
            replace B1 : Cs w5 (w.heap.size + 1) #[.int .i64 sN, .int .i64 sD] := Cs.keep csA hb5
            replace B2 : Cs w5 (w.heap.size + 1 + 1) #[.int .i64 oN, .int .i64 oD] := Cs.keep csA hb5
            replace B3 : Cs w5 (w.heap.size + 1 + 1 + 1) #[.int .i64 iN, .int .i64 iD] := Cs.keep csA hb5
            replace B4 : Cs w5 (w.heap.size + 1 + 1 + 1 + 1) #[.int .i64 0, .int .i64 0] := Cs.keep csA hb5
            replace hbw : Below w.heap.size w w5 := blA
            replace cB0 := B0.c
            replace fB0 := B0.f
            replace lB0 := B0.lt
            replace cB1 := B1.c
            replace fB1 := B1.f
            replace lB1 := B1.lt
            replace cB2 := B2.c
            replace fB2 := B2.f
            replace lB2 := B2.lt
            replace cB3 := B3.c
            replace fB3 := B3.f
            replace lB3 := B3.lt
            replace cB4 := B4.c
            replace fB4 := B4.f
            replace lB4 := B4.lt
            clear hb5
            go_wp2_with fail
            go_roundw
            case rel => exact ⟨r + 1, _, by omega, by go_num, Lib.hid rfl, Hno2, B0, B1, B2, B3, B4, hbw⟩
            case measure => simp [intOf]; omega
        · obtain rfl : r = p + 1 := by omega
          have Hpl2 : Hid (Em.planFrom (planQ gN gD sN sD oN oD iN iD) 1 12 = Em.planFrom (planQ gN gD sN sD oN oD iN iD) (p + 1) (13 - (p + 1))) := Lib.hid (by
            have e : Em.rightFrom (planQ gN gD sN sD oN oD iN iD p) 0 (p + 1) = none := Em.rf_none (fun y hy => Hno.out y hy)
            rw [Hpl.out, show 13 - p = (13 - (p + 1)) + 1 by omega, Em.planFrom, e])
          clear Hpl Hno
          have f5 : ((p + 1 : Nat) : Int) = (p : Int) + 1 := by omega
          go_wp2_with fail
          go_roundw
          case rel => exact ⟨p + 1, by omega, by omega, by go_num, Hpl2, B0, B1, B2, B3, B4, hbw⟩
          case measure => simp [intOf]; omega
    · obtain rfl : p = 13 := by omega
      have hfin : R = ((0, 0), 22) := by
        rw [← HR.out]
        unfold planP
        rw [Hpl.out]
        rfl
      subst hfin
      clear HR Hpl
      have cB4 := B4.c
      have fB4 := B4.f
      have lB4 := B4.lt
      go_wp2_with fail
      exact bodyPost_ret (v := .tuple #[.agg #[.int .i64 0, .int .i64 0], .int .i64 22]) (by simp [results, Try.results25, go_sem, cB4, fB4, lB4]) rfl ⟨rfl, blA⟩

/-- the plan and the error -/
def planE (gN gD sN sD oN oD iN iD : Int) : (Int × Int) × Int :=
  if isCh gN gD 10 = true ∧ isCh sN sD 10 = true ∧ isCh oN oD 1000000 = true ∧ isCh iN iD 1000000 = true then planP gN gD sN sD oN oD iN iD else ((0, 0), 2)

theorem plan_any (gN gD sN sD oN oD iN iD : Int) (w : World) :
    Calls Try.prog 24 #[.agg #[.int .i64 gN, .int .i64 gD], .agg #[.int .i64 sN, .int .i64 sD], .agg #[.int .i64 oN, .int .i64 oD], .agg #[.int .i64 iN, .int .i64 iD]] w fun e w' => e = RetPL (planE gN gD sN sD oN oD iN iD) ∧ Below w.heap.size w w' := by
  unfold planE
  by_cases h : isCh gN gD 10 = true ∧ isCh sN sD 10 = true ∧ isCh oN oD 1000000 = true ∧ isCh iN iD 1000000 = true
  · rw [if_pos h]; exact plan_ok gN gD sN sD oN oD iN iD w h.1 h.2.1 h.2.2.1 h.2.2.2
  · rw [if_neg h]; exact plan_bad gN gD sN sD oN oD iN iD w h
theorem rplan_any (gN gD sN sD oN oD iN iD : Int) (w : World) :
    Calls Try.prog 25 #[.agg #[.int .i64 gN, .int .i64 gD], .agg #[.int .i64 sN, .int .i64 sD], .agg #[.int .i64 oN, .int .i64 oD], .agg #[.int .i64 iN, .int .i64 iD]] w fun e w' => e = RetPL (planE gN gD sN sD oN oD iN iD) ∧ Below w.heap.size w w' := by
  unfold planE
  by_cases h : isCh gN gD 10 = true ∧ isCh sN sD 10 = true ∧ isCh oN oD 1000000 = true ∧ isCh iN iD 1000000 = true
  · rw [if_pos h]; exact rplan_ok gN gD sN sD oN oD iN iD w h.1 h.2.1 h.2.2.1 h.2.2.2
  · rw [if_neg h]; exact rplan_bad gN gD sN sD oN oD iN iD w h

end Go.Proofs.Ytcmllkjgggcghaa
end
