/- Walks of the reference of layer 10: tails and plans. -/
import Derived.Test.YtcmllkjgggcghaaEA6
namespace Go.Proofs.Ytcmllkjgggcghaa
open Go.RowKit Go.Shelf
set_option linter.unusedSimpArgs false
set_option linter.unusedVariables false
open Em (isCh red cnt ch)

set_option maxRecDepth 10000 in
set_option maxHeartbeats 2000000 in
theorem parts_any (n r : Nat) (N D : Int) (w : World) (hn : n ≤ 12) (hr : r ≤ n) (hN : 0 ≤ N) (hND : N ≤ D) (hD : D ≤ 10) :
    Calls Try.prog 62 #[.agg #[.int .i64 n, .int .i64 r], .agg #[.int .i64 N, .int .i64 D]] w fun e w' => e = .returned (.tuple #[.int .i64 (Em.tail N (D - N) n r), .int .i64 (D ^ n)]) ∧ Below w.heap.size w w' := by
  have hM : 0 ≤ D - N := by omega
  have f0 : IntKind.i64.wrap (D - N) = D - N := IntWalk.i64_in _ (by omega)
  have Ht := Lib.hid (fun k => (⟨Em.tail_nonneg hN hM n k, Int.le_trans (by have := Em.tail_bound hN hM n k; rw [show N + (D - N) = D by omega] at this; exact this) (pow_le (by omega) hD n hn)⟩ : 0 ≤ Em.tail N (D - N) n k ∧ Em.tail N (D - N) n k ≤ 1000000000000))
  have Hc := Lib.hid (fun k (hk : k ≤ n) => (⟨Em.cnt_nonneg hN hM n k, Int.le_trans (by have := Em.cnt_bound hN hM n k; rw [show N + (D - N) = D by omega] at this; exact this) (pow_le (by omega) hD n hn), Em.cnt_choose n k hk⟩ : 0 ≤ cnt N (D - N) n k ∧ cnt N (D - N) n k ≤ 1000000000000 ∧ cnt N (D - N) n k = (ch n k : Int) * N ^ k * (D - N) ^ (n - k)))
  have k3 := fun W => power_same D n W (by omega) hD hn _ rfl
  generalize hT : Em.tail N (D - N) n r = T at *
  have HT := Lib.hid hT
  clear hT
  go_enter Try.func62, Try.ntmps62
  go_wp2_with fail
  go_loopw [6, 7] (fun s6 s7 wr => ∃ (k : Nat) (s : Int) (W : World), k ≤ n + 1 ∧ s7 = .int .i64 k ∧ s6 = .int .i64 s ∧ Hid (r ≤ k) ∧ Hid (W = wr) ∧ Hid (s = T - Em.tail N (D - N) n k) ∧ Cs W w.heap.size #[.int .i64 n, .int .i64 r] ∧ Cs W (w.heap.size + 1) #[.int .i64 N, .int .i64 D] ∧ Below w.heap.size w W) (fun _ s7 _ => (n + 1) - (intOf s7).toNat)
  case atStart => exact ⟨r, 0, _, by omega, rfl, rfl, Lib.hid (Nat.le_refl _), Lib.hid rfl, Lib.hid (by rw [HT.out]; omega), (by repeat (first | with_reducible assumption | (with_reducible refine Cs.new _ _ _ _ ?_; first | rfl | (simp; done)) | with_reducible refine Cs.alloc ?_ _ | with_reducible refine Cs.drewN ?_ _ | with_reducible refine Cs.drew ?_ | with_reducible refine Cs.set4 ?_ _ _ _ _ | (with_reducible refine Cs.other4 ?_ ?_ _ _ _ _; rotate_left; focus (first | assumption | omega | (simp; done) | (simp; omega))) | with_reducible refine Cs.set2 ?_ _ _ | (with_reducible refine Cs.other2 ?_ ?_ _ _; rotate_left; focus (first | assumption | omega | (simp; done) | (simp; omega))) | (with_reducible refine Cs.other ?_ ?_ _; rotate_left; focus (first | assumption | omega | (simp; done) | (simp; omega))) | with_reducible refine Cs.keep ?_ (by assumption) | assumption)), (by repeat (first | with_reducible assumption | (with_reducible refine Cs.new _ _ _ _ ?_; first | rfl | (simp; done)) | with_reducible refine Cs.alloc ?_ _ | with_reducible refine Cs.drewN ?_ _ | with_reducible refine Cs.drew ?_ | with_reducible refine Cs.set4 ?_ _ _ _ _ | (with_reducible refine Cs.other4 ?_ ?_ _ _ _ _; rotate_left; focus (first | assumption | omega | (simp; done) | (simp; omega))) | with_reducible refine Cs.set2 ?_ _ _ | (with_reducible refine Cs.other2 ?_ ?_ _ _; rotate_left; focus (first | assumption | omega | (simp; done) | (simp; omega))) | (with_reducible refine Cs.other ?_ ?_ _; rotate_left; focus (first | assumption | omega | (simp; done) | (simp; omega))) | with_reducible refine Cs.keep ?_ (by assumption) | assumption)), (by repeat (first | with_reducible exact Below.refl _ _ | with_reducible assumption | with_reducible refine balloc ?_ _ | with_reducible refine bdrewN ?_ _ | with_reducible refine Below.drew ?_ | (with_reducible refine bset ?_ ?_ _; rotate_left; focus (first | assumption | omega | (simp; done) | (simp; omega))) | with_reducible refine bstep ?_ (by assumption) | assumption))⟩
  case round =>
    obtain ⟨k, s, W, hk, rfl, rfl, Hrk, HW, Hs, B0, B1, hbw⟩ := hrel
    obtain rfl := HW.out
    clear HW
    have cB0 := B0.c
    have fB0 := B0.f
    have lB0 := B0.lt
    have cB1 := B1.c
    have fB1 := B1.f
    have lB1 := B1.lt
    by_cases hkn : k < n + 1
    · have hkI : (k : Int) < (n : Int) + 1 := by omega
      obtain ⟨q0, q1, q2⟩ := Hc.out k (by omega)
      have hN10 : N ≤ 10 := by omega
      have kc := fun W => choose_same n k W hn (by omega) _ rfl
      have kp := fun W => power_same N k W hN hN10 (by omega) _ rfl
      have km := fun W => power_same (D - N) (n - k) W hM (by omega) (by omega) _ rfl
      have p0 := Em.pow_nonneg hN k
      have p1 := pow_le hN hN10 k (by omega)
      have hch := (Em.ch_step n (by omega) k (by omega) (by omega)).2
      have e0 : (n : Int) - (k : Int) = ((n - k : Nat) : Int) := by omega
      have f1 : IntKind.i64.wrap ((n : Int) - (k : Int)) = ((n - k : Nat) : Int) := by rw [e0]; exact IntWalk.i64_in _ (by omega)
      have m0 : 0 ≤ (ch n k : Int) * N ^ k := Int.mul_nonneg (by omega) p0
      have m1 : (ch n k : Int) * N ^ k ≤ 924 * 1000000000000 := Int.mul_le_mul (by omega) p1 p0 (by omega)
      have hstep := Em.tail_step (N := N) (M := D - N) n k
      have hb1 := Ht.out k
      have hb2 := Ht.out (k + 1)
      have hbT := Ht.out r
      rw [HT.out] at hbT
      have hs := Hs.out
      generalize (ch n k : Int) = c at *
      generalize N ^ k = x at *
      generalize (D - N) ^ (n - k) = y at *
      have f2 : IntKind.i64.wrap (c * x) = c * x := IntWalk.i64_in _ (by omega)
      have f3 : IntKind.i64.wrap (c * x * y) = c * x * y := by rw [← q2]; exact IntWalk.i64_in _ (by omega)
      have Hs2 : Hid (s + c * x * y = T - Em.tail N (D - N) n (k + 1)) := Lib.hid (by rw [← q2]; omega)
      have f4 : IntKind.i64.wrap (s + c * x * y) = s + c * x * y := by rw [Hs2.out]; exact IntWalk.i64_in _ (by omega)
      clear q0 q1 q2 p0 p1 hch e0 m0 m1 hstep hb1 hb2 hbT hs Hs
      have Hrk2 : Hid (r ≤ k + 1) := Lib.hid (by have := Hrk.out; omega)
      go_wp2_with fail
      go_quiet (first | (go_at_call 79; with_reducible refine Calls.quiet_of_same (kc _)) | (go_at_call 80; with_reducible refine Calls.quiet_of_same (kp _)) | (go_at_call 80; with_reducible refine Calls.quiet_of_same (km _)))
      go_wp2_with fail
      go_roundw
      case rel => exact ⟨k + 1, s + c * x * y, _, by omega, by go_num, rfl, Hrk2, Lib.hid rfl, Hs2, B0.drewN _, B1.drewN _, bdrewN hbw _⟩
      case measure => simp [intOf]; omega
    · obtain rfl : k = n + 1 := by omega
      have Hf : Hid (s = T) := Lib.hid (by rw [Hs.out, Em.tail_above n (n + 1) (by omega)]; omega)
      obtain rfl := Hf.out
      clear Hs Hf
      go_wp2_with fail
      refine (k3 _).mono ?_
      rintro _ w2 ⟨rfl, rfl⟩
      go_wp2_with fail
      go_ret2
      exact ⟨rfl, (by repeat (first | with_reducible exact Below.refl _ _ | with_reducible assumption | with_reducible refine balloc ?_ _ | with_reducible refine bdrewN ?_ _ | with_reducible refine Below.drew ?_ | (with_reducible refine bset ?_ ?_ _; rotate_left; focus (first | assumption | omega | (simp; done) | (simp; omega))) | with_reducible refine bstep ?_ (by assumption) | assumption))⟩

theorem risPlan_any (P R : Int) (w : World) :
    Calls Try.prog 33 #[.agg #[.int .i64 P, .int .i64 R]] w fun e w' => e = .returned (.bool (decide (1 ≤ P ∧ P ≤ 12 ∧ 0 ≤ R ∧ R ≤ P))) ∧ Below w.heap.size w w' := by
  generalize hb : decide (1 ≤ P ∧ P ≤ 12 ∧ 0 ≤ R ∧ R ≤ P) = b
  have HB := Lib.hid hb
  clear hb
  by_cases h1 : 1 ≤ P
  case neg =>
    have hfin : Hid (false = b) := Lib.hid (by rw [← HB.out]; symm; apply decide_eq_false; omega)
    go_enter Try.func33, Try.ntmps33
    go_wp2_with fail
    go_ret
    exact ⟨ret_bool hfin.out, (by repeat (first | with_reducible exact Below.refl _ _ | with_reducible assumption | with_reducible refine balloc ?_ _ | with_reducible refine bdrewN ?_ _ | with_reducible refine Below.drew ?_ | (with_reducible refine bset ?_ ?_ _; rotate_left; focus (first | assumption | omega | (simp; done) | (simp; omega))) | with_reducible refine bstep ?_ (by assumption) | assumption))⟩
  case pos =>
  by_cases h2 : P ≤ 12
  case neg =>
    have hfin : Hid (false = b) := Lib.hid (by rw [← HB.out]; symm; apply decide_eq_false; omega)
    go_enter Try.func33, Try.ntmps33
    go_wp2_with fail
    go_ret
    exact ⟨ret_bool hfin.out, (by repeat (first | with_reducible exact Below.refl _ _ | with_reducible assumption | with_reducible refine balloc ?_ _ | with_reducible refine bdrewN ?_ _ | with_reducible refine Below.drew ?_ | (with_reducible refine bset ?_ ?_ _; rotate_left; focus (first | assumption | omega | (simp; done) | (simp; omega))) | with_reducible refine bstep ?_ (by assumption) | assumption))⟩
  case pos =>
  by_cases h3 : 0 ≤ R
  case neg =>
    have hfin : Hid (false = b) := Lib.hid (by rw [← HB.out]; symm; apply decide_eq_false; omega)
    go_enter Try.func33, Try.ntmps33
    go_wp2_with fail
    go_ret
    exact ⟨ret_bool hfin.out, (by repeat (first | with_reducible exact Below.refl _ _ | with_reducible assumption | with_reducible refine balloc ?_ _ | with_reducible refine bdrewN ?_ _ | with_reducible refine Below.drew ?_ | (with_reducible refine bset ?_ ?_ _; rotate_left; focus (first | assumption | omega | (simp; done) | (simp; omega))) | with_reducible refine bstep ?_ (by assumption) | assumption))⟩
  case pos =>
  have hfin : Hid (decide (R ≤ P) = b) := Lib.hid (by rw [← HB.out]; simp [h1, h2, h3])
  go_enter Try.func33, Try.ntmps33
  go_wp2_with fail
  go_ret
  exact ⟨ret_bool hfin.out, (by repeat (first | with_reducible exact Below.refl _ _ | with_reducible assumption | with_reducible refine balloc ?_ _ | with_reducible refine bdrewN ?_ _ | with_reducible refine Below.drew ?_ | (with_reducible refine bset ?_ ?_ _; rotate_left; focus (first | assumption | omega | (simp; done) | (simp; omega))) | with_reducible refine bstep ?_ (by assumption) | assumption))⟩

set_option maxHeartbeats 2000000 in
theorem rtail_any (P R N D : Int) (w : World) :
    Calls Try.prog 23 #[.agg #[.int .i64 P, .int .i64 R], .agg #[.int .i64 N, .int .i64 D]] w fun e w' => e = RetFE (tailP P R N D) ∧ Below w.heap.size w w' := by
  unfold tailP
  have k1 := fun W => risPlan_any P R W
  have k2 := fun W => risChance_any N D 10 W (by omega)
  by_cases hp : 1 ≤ P ∧ P ≤ 12 ∧ 0 ≤ R ∧ R ≤ P
  · rw [decide_eq_true hp] at k1
    cases hc : isCh N D 10 with
    | true =>
      rw [hc] at k2
      rw [if_pos ⟨hp.1, hp.2.1, hp.2.2.1, hp.2.2.2, rfl⟩]
      obtain ⟨h1, h2, h3, h4⟩ := hp
      obtain ⟨n, rfl⟩ : ∃ n : Nat, P = n := ⟨P.toNat, by omega⟩
      obtain ⟨r, rfl⟩ : ∃ r : Nat, R = r := ⟨R.toNat, by omega⟩
      obtain ⟨c1, c2, c3, c4, _⟩ : 1 ≤ D ∧ D ≤ 10 ∧ 0 ≤ N ∧ N ≤ D ∧ Int.gcd N D = 1 := of_decide_eq_true hc
      have k3 := fun W => parts_any n r N D W (by omega) (by omega) c3 c4 c2
      have ht0 := Em.tail_nonneg c3 (show 0 ≤ D - N by omega) n r
      have ht1 := Em.tail_bound c3 (show 0 ≤ D - N by omega) n r
      rw [show N + (D - N) = D by omega] at ht1
      have hp1 := pow_pos c1 n
      have hp2 := pow_le (show 0 ≤ D by omega) c2 n (by omega)
      have k4 := fun W => fraction_any (Em.tail N (D - N) n r) (D ^ n) W ht0 hp1 (by omega) (by omega)
      simp only [Int.toNat_natCast]
      generalize Em.tail N (D - N) n r = T at *
      generalize D ^ n = q at *
      generalize hrd : red T q = rd at *
      unfold RetFE
      clear h1 h2 h3 h4 c1 c2 c3 c4 ht0 ht1 hp1 hp2 hc hrd
      go_enter Try.func23, Try.ntmps23
      go_wp2_with fail
      refine (k1 _).mono ?_
      rintro e w1 ⟨rfl, hb1⟩
      replace B0 : Cs w1 (w.heap.size) #[.int .i64 n, .int .i64 r] := Cs.keep (by repeat (first | with_reducible assumption | (with_reducible refine Cs.new _ _ _ _ ?_; first | rfl | (simp; done)) | with_reducible refine Cs.alloc ?_ _ | with_reducible refine Cs.drewN ?_ _ | with_reducible refine Cs.drew ?_ | with_reducible refine Cs.set4 ?_ _ _ _ _ | (with_reducible refine Cs.other4 ?_ ?_ _ _ _ _; rotate_left; focus (first | assumption | omega | (simp; done) | (simp; omega))) | with_reducible refine Cs.set2 ?_ _ _ | (with_reducible refine Cs.other2 ?_ ?_ _ _; rotate_left; focus (first | assumption | omega | (simp; done) | (simp; omega))) | (with_reducible refine Cs.other ?_ ?_ _; rotate_left; focus (first | assumption | omega | (simp; done) | (simp; omega))) | with_reducible refine Cs.keep ?_ (by assumption) | assumption)) hb1
      replace B1 : Cs w1 (w.heap.size + 1) #[.int .i64 N, .int .i64 D] := Cs.keep (by repeat (first | with_reducible assumption | (with_reducible refine Cs.new _ _ _ _ ?_; first | rfl | (simp; done)) | with_reducible refine Cs.alloc ?_ _ | with_reducible refine Cs.drewN ?_ _ | with_reducible refine Cs.drew ?_ | with_reducible refine Cs.set4 ?_ _ _ _ _ | (with_reducible refine Cs.other4 ?_ ?_ _ _ _ _; rotate_left; focus (first | assumption | omega | (simp; done) | (simp; omega))) | with_reducible refine Cs.set2 ?_ _ _ | (with_reducible refine Cs.other2 ?_ ?_ _ _; rotate_left; focus (first | assumption | omega | (simp; done) | (simp; omega))) | (with_reducible refine Cs.other ?_ ?_ _; rotate_left; focus (first | assumption | omega | (simp; done) | (simp; omega))) | with_reducible refine Cs.keep ?_ (by assumption) | assumption)) hb1
      replace B2 : Cs w1 (w.heap.size + 1 + 1) #[.int .i64 0, .int .i64 0] := Cs.keep (by repeat (first | with_reducible assumption | (with_reducible refine Cs.new _ _ _ _ ?_; first | rfl | (simp; done)) | with_reducible refine Cs.alloc ?_ _ | with_reducible refine Cs.drewN ?_ _ | with_reducible refine Cs.drew ?_ | with_reducible refine Cs.set4 ?_ _ _ _ _ | (with_reducible refine Cs.other4 ?_ ?_ _ _ _ _; rotate_left; focus (first | assumption | omega | (simp; done) | (simp; omega))) | with_reducible refine Cs.set2 ?_ _ _ | (with_reducible refine Cs.other2 ?_ ?_ _ _; rotate_left; focus (first | assumption | omega | (simp; done) | (simp; omega))) | (with_reducible refine Cs.other ?_ ?_ _; rotate_left; focus (first | assumption | omega | (simp; done) | (simp; omega))) | with_reducible refine Cs.keep ?_ (by assumption) | assumption)) hb1
      replace hbw : Below w.heap.size w w1 := (by repeat (first | with_reducible exact Below.refl _ _ | with_reducible assumption | with_reducible refine balloc ?_ _ | with_reducible refine bdrewN ?_ _ | with_reducible refine Below.drew ?_ | (with_reducible refine bset ?_ ?_ _; rotate_left; focus (first | assumption | omega | (simp; done) | (simp; omega))) | with_reducible refine bstep ?_ (by assumption) | assumption))
      replace cB0 := B0.c
      replace fB0 := B0.f
      replace lB0 := B0.lt
      replace cB1 := B1.c
      replace fB1 := B1.f
      replace lB1 := B1.lt
      replace cB2 := B2.c
      replace fB2 := B2.f
      replace lB2 := B2.lt
      clear hb1
      go_wp2_with fail
      refine (k2 _).mono ?_
      rintro e w2 ⟨rfl, hb2⟩
      replace B0 : Cs w2 (w.heap.size) #[.int .i64 n, .int .i64 r] := Cs.keep (by repeat (first | with_reducible assumption | (with_reducible refine Cs.new _ _ _ _ ?_; first | rfl | (simp; done)) | with_reducible refine Cs.alloc ?_ _ | with_reducible refine Cs.drewN ?_ _ | with_reducible refine Cs.drew ?_ | with_reducible refine Cs.set4 ?_ _ _ _ _ | (with_reducible refine Cs.other4 ?_ ?_ _ _ _ _; rotate_left; focus (first | assumption | omega | (simp; done) | (simp; omega))) | with_reducible refine Cs.set2 ?_ _ _ | (with_reducible refine Cs.other2 ?_ ?_ _ _; rotate_left; focus (first | assumption | omega | (simp; done) | (simp; omega))) | (with_reducible refine Cs.other ?_ ?_ _; rotate_left; focus (first | assumption | omega | (simp; done) | (simp; omega))) | with_reducible refine Cs.keep ?_ (by assumption) | assumption)) hb2
      replace B1 : Cs w2 (w.heap.size + 1) #[.int .i64 N, .int .i64 D] := Cs.keep (by repeat (first | with_reducible assumption | (with_reducible refine Cs.new _ _ _ _ ?_; first | rfl | (simp; done)) | with_reducible refine Cs.alloc ?_ _ | with_reducible refine Cs.drewN ?_ _ | with_reducible refine Cs.drew ?_ | with_reducible refine Cs.set4 ?_ _ _ _ _ | (with_reducible refine Cs.other4 ?_ ?_ _ _ _ _; rotate_left; focus (first | assumption | omega | (simp; done) | (simp; omega))) | with_reducible refine Cs.set2 ?_ _ _ | (with_reducible refine Cs.other2 ?_ ?_ _ _; rotate_left; focus (first | assumption | omega | (simp; done) | (simp; omega))) | (with_reducible refine Cs.other ?_ ?_ _; rotate_left; focus (first | assumption | omega | (simp; done) | (simp; omega))) | with_reducible refine Cs.keep ?_ (by assumption) | assumption)) hb2
      replace B2 : Cs w2 (w.heap.size + 1 + 1) #[.int .i64 0, .int .i64 0] := Cs.keep (by repeat (first | with_reducible assumption | (with_reducible refine Cs.new _ _ _ _ ?_; first | rfl | (simp; done)) | with_reducible refine Cs.alloc ?_ _ | with_reducible refine Cs.drewN ?_ _ | with_reducible refine Cs.drew ?_ | with_reducible refine Cs.set4 ?_ _ _ _ _ | (with_reducible refine Cs.other4 ?_ ?_ _ _ _ _; rotate_left; focus (first | assumption | omega | (simp; done) | (simp; omega))) | with_reducible refine Cs.set2 ?_ _ _ | (with_reducible refine Cs.other2 ?_ ?_ _ _; rotate_left; focus (first | assumption | omega | (simp; done) | (simp; omega))) | (with_reducible refine Cs.other ?_ ?_ _; rotate_left; focus (first | assumption | omega | (simp; done) | (simp; omega))) | with_reducible refine Cs.keep ?_ (by assumption) | assumption)) hb2
      replace hbw : Below w.heap.size w w2 := (by repeat (first | with_reducible exact Below.refl _ _ | with_reducible assumption | with_reducible refine balloc ?_ _ | with_reducible refine bdrewN ?_ _ | with_reducible refine Below.drew ?_ | (with_reducible refine bset ?_ ?_ _; rotate_left; focus (first | assumption | omega | (simp; done) | (simp; omega))) | with_reducible refine bstep ?_ (by assumption) | assumption))
      replace cB0 := B0.c
      replace fB0 := B0.f
      replace lB0 := B0.lt
      replace cB1 := B1.c
      replace fB1 := B1.f
      replace lB1 := B1.lt
      replace cB2 := B2.c
      replace fB2 := B2.f
      replace lB2 := B2.lt
      clear hb2
      go_wp2_with fail
      refine (k3 _).mono ?_
      rintro e w3 ⟨rfl, hb3⟩
      try clear cB0 fB0 lB0
      try clear B0
      try clear cB1 fB1 lB1
      try clear B1
      replace B2 : Cs w3 (w.heap.size + 1 + 1) #[.int .i64 0, .int .i64 0] := Cs.keep (by repeat (first | with_reducible assumption | (with_reducible refine Cs.new _ _ _ _ ?_; first | rfl | (simp; done)) | with_reducible refine Cs.alloc ?_ _ | with_reducible refine Cs.drewN ?_ _ | with_reducible refine Cs.drew ?_ | with_reducible refine Cs.set4 ?_ _ _ _ _ | (with_reducible refine Cs.other4 ?_ ?_ _ _ _ _; rotate_left; focus (first | assumption | omega | (simp; done) | (simp; omega))) | with_reducible refine Cs.set2 ?_ _ _ | (with_reducible refine Cs.other2 ?_ ?_ _ _; rotate_left; focus (first | assumption | omega | (simp; done) | (simp; omega))) | (with_reducible refine Cs.other ?_ ?_ _; rotate_left; focus (first | assumption | omega | (simp; done) | (simp; omega))) | with_reducible refine Cs.keep ?_ (by assumption) | assumption)) hb3
      replace hbw : Below w.heap.size w w3 := (by repeat (first | with_reducible exact Below.refl _ _ | with_reducible assumption | with_reducible refine balloc ?_ _ | with_reducible refine bdrewN ?_ _ | with_reducible refine Below.drew ?_ | (with_reducible refine bset ?_ ?_ _; rotate_left; focus (first | assumption | omega | (simp; done) | (simp; omega))) | with_reducible refine bstep ?_ (by assumption) | assumption))
      replace cB2 := B2.c
      replace fB2 := B2.f
      replace lB2 := B2.lt
      clear hb3
      go_wp2_with fail
      refine (k4 _).mono ?_
      rintro e w4 ⟨rfl, hb4⟩
      try clear cB0 fB0 lB0
      try clear B0
      try clear cB1 fB1 lB1
      try clear B1
      replace B2 : Cs w4 (w.heap.size + 1 + 1) #[.int .i64 0, .int .i64 0] := Cs.keep (by repeat (first | with_reducible assumption | (with_reducible refine Cs.new _ _ _ _ ?_; first | rfl | (simp; done)) | with_reducible refine Cs.alloc ?_ _ | with_reducible refine Cs.drewN ?_ _ | with_reducible refine Cs.drew ?_ | with_reducible refine Cs.set4 ?_ _ _ _ _ | (with_reducible refine Cs.other4 ?_ ?_ _ _ _ _; rotate_left; focus (first | assumption | omega | (simp; done) | (simp; omega))) | with_reducible refine Cs.set2 ?_ _ _ | (with_reducible refine Cs.other2 ?_ ?_ _ _; rotate_left; focus (first | assumption | omega | (simp; done) | (simp; omega))) | (with_reducible refine Cs.other ?_ ?_ _; rotate_left; focus (first | assumption | omega | (simp; done) | (simp; omega))) | with_reducible refine Cs.keep ?_ (by assumption) | assumption)) hb4
      replace hbw : Below w.heap.size w w4 := (by repeat (first | with_reducible exact Below.refl _ _ | with_reducible assumption | with_reducible refine balloc ?_ _ | with_reducible refine bdrewN ?_ _ | with_reducible refine Below.drew ?_ | (with_reducible refine bset ?_ ?_ _; rotate_left; focus (first | assumption | omega | (simp; done) | (simp; omega))) | with_reducible refine bstep ?_ (by assumption) | assumption))
      replace cB2 := B2.c
      replace fB2 := B2.f
      replace lB2 := B2.lt
      clear hb4
      go_wp2_with fail
      exact bodyPost_ret (v := .tuple #[.agg #[.int .i64 rd.1, .int .i64 rd.2], .int .i64 0]) (by simp [results, Try.results23, go_sem, cB2, fB2, lB2]) rfl ⟨rfl, (by repeat (first | with_reducible exact Below.refl _ _ | with_reducible assumption | with_reducible refine balloc ?_ _ | with_reducible refine bdrewN ?_ _ | with_reducible refine Below.drew ?_ | (with_reducible refine bset ?_ ?_ _; rotate_left; focus (first | assumption | omega | (simp; done) | (simp; omega))) | with_reducible refine bstep ?_ (by assumption) | assumption))⟩
    | false =>
      rw [hc] at k2
      rw [if_neg (fun h => absurd h.2.2.2.2 (by decide))]
      unfold RetFE
      clear hp hc
      go_enter Try.func23, Try.ntmps23
      go_wp2_with fail
      refine (k1 _).mono ?_
      rintro e w1 ⟨rfl, hb1⟩
      replace B1 : Cs w1 (w.heap.size + 1) #[.int .i64 N, .int .i64 D] := Cs.keep (by repeat (first | with_reducible assumption | (with_reducible refine Cs.new _ _ _ _ ?_; first | rfl | (simp; done)) | with_reducible refine Cs.alloc ?_ _ | with_reducible refine Cs.drewN ?_ _ | with_reducible refine Cs.drew ?_ | with_reducible refine Cs.set4 ?_ _ _ _ _ | (with_reducible refine Cs.other4 ?_ ?_ _ _ _ _; rotate_left; focus (first | assumption | omega | (simp; done) | (simp; omega))) | with_reducible refine Cs.set2 ?_ _ _ | (with_reducible refine Cs.other2 ?_ ?_ _ _; rotate_left; focus (first | assumption | omega | (simp; done) | (simp; omega))) | (with_reducible refine Cs.other ?_ ?_ _; rotate_left; focus (first | assumption | omega | (simp; done) | (simp; omega))) | with_reducible refine Cs.keep ?_ (by assumption) | assumption)) hb1
      replace B2 : Cs w1 (w.heap.size + 1 + 1) #[.int .i64 0, .int .i64 0] := Cs.keep (by repeat (first | with_reducible assumption | (with_reducible refine Cs.new _ _ _ _ ?_; first | rfl | (simp; done)) | with_reducible refine Cs.alloc ?_ _ | with_reducible refine Cs.drewN ?_ _ | with_reducible refine Cs.drew ?_ | with_reducible refine Cs.set4 ?_ _ _ _ _ | (with_reducible refine Cs.other4 ?_ ?_ _ _ _ _; rotate_left; focus (first | assumption | omega | (simp; done) | (simp; omega))) | with_reducible refine Cs.set2 ?_ _ _ | (with_reducible refine Cs.other2 ?_ ?_ _ _; rotate_left; focus (first | assumption | omega | (simp; done) | (simp; omega))) | (with_reducible refine Cs.other ?_ ?_ _; rotate_left; focus (first | assumption | omega | (simp; done) | (simp; omega))) | with_reducible refine Cs.keep ?_ (by assumption) | assumption)) hb1
      replace hbw : Below w.heap.size w w1 := (by repeat (first | with_reducible exact Below.refl _ _ | with_reducible assumption | with_reducible refine balloc ?_ _ | with_reducible refine bdrewN ?_ _ | with_reducible refine Below.drew ?_ | (with_reducible refine bset ?_ ?_ _; rotate_left; focus (first | assumption | omega | (simp; done) | (simp; omega))) | with_reducible refine bstep ?_ (by assumption) | assumption))
      replace cB1 := B1.c
      replace fB1 := B1.f
      replace lB1 := B1.lt
      replace cB2 := B2.c
      replace fB2 := B2.f
      replace lB2 := B2.lt
      clear hb1
      go_wp2_with fail
      refine (k2 _).mono ?_
      rintro e w2 ⟨rfl, hb2⟩
      try clear cB1 fB1 lB1
      try clear B1
      replace B2 : Cs w2 (w.heap.size + 1 + 1) #[.int .i64 0, .int .i64 0] := Cs.keep (by repeat (first | with_reducible assumption | (with_reducible refine Cs.new _ _ _ _ ?_; first | rfl | (simp; done)) | with_reducible refine Cs.alloc ?_ _ | with_reducible refine Cs.drewN ?_ _ | with_reducible refine Cs.drew ?_ | with_reducible refine Cs.set4 ?_ _ _ _ _ | (with_reducible refine Cs.other4 ?_ ?_ _ _ _ _; rotate_left; focus (first | assumption | omega | (simp; done) | (simp; omega))) | with_reducible refine Cs.set2 ?_ _ _ | (with_reducible refine Cs.other2 ?_ ?_ _ _; rotate_left; focus (first | assumption | omega | (simp; done) | (simp; omega))) | (with_reducible refine Cs.other ?_ ?_ _; rotate_left; focus (first | assumption | omega | (simp; done) | (simp; omega))) | with_reducible refine Cs.keep ?_ (by assumption) | assumption)) hb2
      replace hbw : Below w.heap.size w w2 := (by repeat (first | with_reducible exact Below.refl _ _ | with_reducible assumption | with_reducible refine balloc ?_ _ | with_reducible refine bdrewN ?_ _ | with_reducible refine Below.drew ?_ | (with_reducible refine bset ?_ ?_ _; rotate_left; focus (first | assumption | omega | (simp; done) | (simp; omega))) | with_reducible refine bstep ?_ (by assumption) | assumption))
      replace cB2 := B2.c
      replace fB2 := B2.f
      replace lB2 := B2.lt
      clear hb2
      go_wp2_with fail
      exact bodyPost_ret (v := .tuple #[.agg #[.int .i64 0, .int .i64 0], .int .i64 2]) (by simp [results, Try.results23, go_sem, cB2, fB2, lB2]) rfl ⟨rfl, (by repeat (first | with_reducible exact Below.refl _ _ | with_reducible assumption | with_reducible refine balloc ?_ _ | with_reducible refine bdrewN ?_ _ | with_reducible refine Below.drew ?_ | (with_reducible refine bset ?_ ?_ _; rotate_left; focus (first | assumption | omega | (simp; done) | (simp; omega))) | with_reducible refine bstep ?_ (by assumption) | assumption))⟩
  · rw [decide_eq_false hp] at k1
    rw [if_neg (fun h => hp ⟨h.1, h.2.1, h.2.2.1, h.2.2.2.1⟩)]
    unfold RetFE
    clear hp k2
    go_enter Try.func23, Try.ntmps23
    go_wp2_with fail
    refine (k1 _).mono ?_
    rintro e w1 ⟨rfl, hb1⟩
    replace B2 : Cs w1 (w.heap.size + 1 + 1) #[.int .i64 0, .int .i64 0] := Cs.keep (by repeat (first | with_reducible assumption | (with_reducible refine Cs.new _ _ _ _ ?_; first | rfl | (simp; done)) | with_reducible refine Cs.alloc ?_ _ | with_reducible refine Cs.drewN ?_ _ | with_reducible refine Cs.drew ?_ | with_reducible refine Cs.set4 ?_ _ _ _ _ | (with_reducible refine Cs.other4 ?_ ?_ _ _ _ _; rotate_left; focus (first | assumption | omega | (simp; done) | (simp; omega))) | with_reducible refine Cs.set2 ?_ _ _ | (with_reducible refine Cs.other2 ?_ ?_ _ _; rotate_left; focus (first | assumption | omega | (simp; done) | (simp; omega))) | (with_reducible refine Cs.other ?_ ?_ _; rotate_left; focus (first | assumption | omega | (simp; done) | (simp; omega))) | with_reducible refine Cs.keep ?_ (by assumption) | assumption)) hb1
    replace hbw : Below w.heap.size w w1 := (by repeat (first | with_reducible exact Below.refl _ _ | with_reducible assumption | with_reducible refine balloc ?_ _ | with_reducible refine bdrewN ?_ _ | with_reducible refine Below.drew ?_ | (with_reducible refine bset ?_ ?_ _; rotate_left; focus (first | assumption | omega | (simp; done) | (simp; omega))) | with_reducible refine bstep ?_ (by assumption) | assumption))
    replace cB2 := B2.c
    replace fB2 := B2.f
    replace lB2 := B2.lt
    clear hb1
    go_wp2_with fail
    exact bodyPost_ret (v := .tuple #[.agg #[.int .i64 0, .int .i64 0], .int .i64 2]) (by simp [results, Try.results23, go_sem, cB2, fB2, lB2]) rfl ⟨rfl, (by repeat (first | with_reducible exact Below.refl _ _ | with_reducible assumption | with_reducible refine balloc ?_ _ | with_reducible refine bdrewN ?_ _ | with_reducible refine Below.drew ?_ | (with_reducible refine bset ?_ ?_ _; rotate_left; focus (first | assumption | omega | (simp; done) | (simp; omega))) | with_reducible refine bstep ?_ (by assumption) | assumption))⟩

end Go.Proofs.Ytcmllkjgggcghaa
