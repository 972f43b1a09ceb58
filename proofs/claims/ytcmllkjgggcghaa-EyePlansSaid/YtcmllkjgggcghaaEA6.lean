/- Walks of the reference of layer 10: plans. -/
import Derived.Test.YtcmllkjgggcghaaEA5
namespace Go.Proofs.Ytcmllkjgggcghaa
open Go.RowKit Go.Shelf
set_option linter.unusedSimpArgs false
set_option linter.unusedVariables false
open Em (isCh red cnt ch)

set_option maxHeartbeats 400000 in
theorem rcommon_any (a b : Int) (w : World) (ha : 0 ≤ a) (hb : 0 ≤ b) (hA : a ≤ 9223372036854775807) (hB : b ≤ 9223372036854775807) :
    Calls Try.prog 63 #[.int .i64 a, .int .i64 b] w fun e w' => e = .returned (.int .i64 (Int.gcd a b)) ∧ Below w.heap.size w w' := by
  go_enter Try.func63, Try.ntmps63
  go_wp2
  go_loopw [0, 1] (fun x y wr => ∃ p q : Int, 0 ≤ p ∧ 0 ≤ q ∧ p ≤ 9223372036854775807 ∧ q ≤ 9223372036854775807 ∧ x = .int .i64 p ∧ y = .int .i64 q ∧ Hid (Int.gcd p q = Int.gcd a b) ∧ Below w.heap.size w wr) (fun _ y _ => (intOf y).toNat)
  case atStart => exact ⟨a, b, ha, hb, hA, hB, rfl, rfl, rfl, Below.refl _ _⟩
  case round =>
    obtain ⟨p, q, hp, hq, hP, hQ, rfl, rfl, hg, hbl⟩ := hrel
    by_cases h0 : q = 0
    · subst h0
      go_wp2
      go_ret
      refine ⟨?_, hbl⟩
      have := hg.out
      rw [← this]
      simp
      omega
    · have hm0 := Int.emod_nonneg p (b := q) h0
      have hm1 := Int.emod_lt_of_pos p (b := q) (by omega)
      have h1 : 1 ≤ q := by omega
      have hgc : Hid (Int.gcd q (p % q) = Int.gcd a b) := by
        rw [← hg.out]; show Int.gcd q (p % q) = Int.gcd p q
        exact Um.gcd_step p q hp (by omega)
      clear h0
      go_wp2
      go_quiet (fail)
      go_wp2
      go_roundw
      case rel => exact ⟨q, p % q, by omega, by omega, by omega, by omega, rfl, rfl, hgc, by first | exact hbl.drew | exact bdrewN hbl _⟩
      case measure => simp [intOf]; omega

set_option maxHeartbeats 1000000 in
theorem fraction_any (n d : Int) (w : World) (hn : 0 ≤ n) (hd : 1 ≤ d) (hN : n ≤ 9223372036854775807) (hD : d ≤ 9223372036854775807) :
    Calls Try.prog 30 #[.int .i64 n, .int .i64 d] w fun e w' => e = .returned (.agg #[.int .i64 (red n d).1, .int .i64 (red n d).2]) ∧ Below w.heap.size w w' := by
  have hg : 1 ≤ (Int.gcd n d : Int) := by
    have : 0 < Int.gcd n d := Int.gcd_pos_of_ne_zero_right _ (by omega)
    omega
  have k1 := fun W => rcommon_any n d W (by omega) (by omega) hN hD
  unfold red
  dsimp only
  generalize (Int.gcd n d : Int) = g at *
  have l1 : 0 ≤ n / g := Int.ediv_nonneg (by omega) (by omega)
  have l2 : 0 ≤ d / g := Int.ediv_nonneg (by omega) (by omega)
  have l3 : n / g ≤ n := Int.ediv_le_self _ (by omega)
  have l4 : d / g ≤ d := Int.ediv_le_self _ (by omega)
  have f1 : n.tdiv g = n / g := Int.tdiv_eq_ediv_of_nonneg (by omega)
  have f2 : d.tdiv g = d / g := Int.tdiv_eq_ediv_of_nonneg (by omega)
  have e1 : IntKind.i64.wrap (n / g) = n / g := IntWalk.i64_in _ (by omega)
  have e2 : IntKind.i64.wrap (d / g) = d / g := IntWalk.i64_in _ (by omega)
  have g0 : (g == 0) = false := by simp; omega
  go_enter Try.func30, Try.ntmps30
  go_wp2_with fail
  refine (k1 _).mono ?_
  rintro e w1 ⟨rfl, hb1⟩
  replace B1 : Cs w1 (w.heap.size) #[.int .i64 0, .int .i64 0] := Cs.keep (by repeat (first | with_reducible assumption | (with_reducible refine Cs.new _ _ _ _ ?_; first | rfl | (simp; done)) | with_reducible refine Cs.alloc ?_ _ | with_reducible refine Cs.drewN ?_ _ | with_reducible refine Cs.drew ?_ | with_reducible refine Cs.set4 ?_ _ _ _ _ | (with_reducible refine Cs.other4 ?_ ?_ _ _ _ _; rotate_left; focus (first | assumption | omega | (simp; done) | (simp; omega))) | with_reducible refine Cs.set2 ?_ _ _ | (with_reducible refine Cs.other2 ?_ ?_ _ _; rotate_left; focus (first | assumption | omega | (simp; done) | (simp; omega))) | (with_reducible refine Cs.other ?_ ?_ _; rotate_left; focus (first | assumption | omega | (simp; done) | (simp; omega))) | with_reducible refine Cs.keep ?_ (by assumption) | assumption)) hb1
  replace hbw : Below w.heap.size w w1 := (by repeat (first | with_reducible exact Below.refl _ _ | with_reducible assumption | with_reducible refine balloc ?_ _ | with_reducible refine bdrewN ?_ _ | with_reducible refine Below.drew ?_ | (with_reducible refine bset ?_ ?_ _; rotate_left; focus (first | assumption | omega | (simp; done) | (simp; omega))) | with_reducible refine bstep ?_ (by assumption) | assumption))
  replace cB1 := B1.c
  replace fB1 := B1.f
  replace lB1 := B1.lt
  clear hb1
  go_wp2_with fail
  go_region
  go_wp2_with fail
  exact bodyPost_ret (v := .agg #[.int .i64 (n / g), .int .i64 (d / g)]) (by simp [results, Try.results30, go_sem, cB1, fB1, lB1]) rfl ⟨rfl, (by repeat (first | with_reducible exact Below.refl _ _ | with_reducible assumption | with_reducible refine balloc ?_ _ | with_reducible refine bdrewN ?_ _ | with_reducible refine Below.drew ?_ | (with_reducible refine bset ?_ ?_ _; rotate_left; focus (first | assumption | omega | (simp; done) | (simp; omega))) | with_reducible refine bstep ?_ (by assumption) | assumption))⟩

set_option maxHeartbeats 1000000 in
theorem risChance_any (n d m : Int) (w : World) (hm : m ≤ 1000000000) :
    Calls Try.prog 61 #[.agg #[.int .i64 n, .int .i64 d], .int .i64 m] w fun e w' => e = .returned (.bool (isCh n d m)) ∧ Below w.heap.size w w' := by
  by_cases h1 : 1 ≤ d
  case neg =>
    have hfin : Hid (false = isCh n d m) := Lib.hid (by symm; simp [isCh]; omega)
    go_enter Try.func61, Try.ntmps61
    go_wp2_with fail
    go_ret
    exact ⟨ret_bool hfin.out, (by repeat (first | with_reducible exact Below.refl _ _ | with_reducible assumption | with_reducible refine balloc ?_ _ | with_reducible refine bdrewN ?_ _ | with_reducible refine Below.drew ?_ | (with_reducible refine bset ?_ ?_ _; rotate_left; focus (first | assumption | omega | (simp; done) | (simp; omega))) | with_reducible refine bstep ?_ (by assumption) | assumption))⟩
  case pos =>
  by_cases h2 : d ≤ m
  case neg =>
    have hfin : Hid (false = isCh n d m) := Lib.hid (by symm; simp [isCh]; omega)
    go_enter Try.func61, Try.ntmps61
    go_wp2_with fail
    go_ret
    exact ⟨ret_bool hfin.out, (by repeat (first | with_reducible exact Below.refl _ _ | with_reducible assumption | with_reducible refine balloc ?_ _ | with_reducible refine bdrewN ?_ _ | with_reducible refine Below.drew ?_ | (with_reducible refine bset ?_ ?_ _; rotate_left; focus (first | assumption | omega | (simp; done) | (simp; omega))) | with_reducible refine bstep ?_ (by assumption) | assumption))⟩
  case pos =>
  by_cases h3 : 0 ≤ n
  case neg =>
    have hfin : Hid (false = isCh n d m) := Lib.hid (by symm; simp [isCh]; omega)
    go_enter Try.func61, Try.ntmps61
    go_wp2_with fail
    go_ret
    exact ⟨ret_bool hfin.out, (by repeat (first | with_reducible exact Below.refl _ _ | with_reducible assumption | with_reducible refine balloc ?_ _ | with_reducible refine bdrewN ?_ _ | with_reducible refine Below.drew ?_ | (with_reducible refine bset ?_ ?_ _; rotate_left; focus (first | assumption | omega | (simp; done) | (simp; omega))) | with_reducible refine bstep ?_ (by assumption) | assumption))⟩
  case pos =>
  by_cases h4 : n ≤ d
  case neg =>
    have hfin : Hid (false = isCh n d m) := Lib.hid (by symm; simp [isCh]; omega)
    go_enter Try.func61, Try.ntmps61
    go_wp2_with fail
    go_ret
    exact ⟨ret_bool hfin.out, (by repeat (first | with_reducible exact Below.refl _ _ | with_reducible assumption | with_reducible refine balloc ?_ _ | with_reducible refine bdrewN ?_ _ | with_reducible refine Below.drew ?_ | (with_reducible refine bset ?_ ?_ _; rotate_left; focus (first | assumption | omega | (simp; done) | (simp; omega))) | with_reducible refine bstep ?_ (by assumption) | assumption))⟩
  case pos =>
  have k3 := fun W => rcommon_any n d W (by omega) (by omega) (by omega) (by omega)
  have hfin : Hid (((Int.gcd n d : Int) == 1) = isCh n d m) := Lib.hid (by rw [Bool.eq_iff_iff]; simp [isCh, h1, h2, h3, h4]; omega)
  generalize (Int.gcd n d : Int) = g at *
  go_enter Try.func61, Try.ntmps61
  go_wp2_with fail
  refine (k3 _).mono ?_
  rintro e w1 ⟨rfl, hb1⟩
  replace hbw : Below w.heap.size w w1 := (by repeat (first | with_reducible exact Below.refl _ _ | with_reducible assumption | with_reducible refine balloc ?_ _ | with_reducible refine bdrewN ?_ _ | with_reducible refine Below.drew ?_ | (with_reducible refine bset ?_ ?_ _; rotate_left; focus (first | assumption | omega | (simp; done) | (simp; omega))) | with_reducible refine bstep ?_ (by assumption) | assumption))
  clear hb1
  go_wp2_with fail
  go_ret
  exact ⟨ret_bool hfin.out, (by repeat (first | with_reducible exact Below.refl _ _ | with_reducible assumption | with_reducible refine balloc ?_ _ | with_reducible refine bdrewN ?_ _ | with_reducible refine Below.drew ?_ | (with_reducible refine bset ?_ ?_ _; rotate_left; focus (first | assumption | omega | (simp; done) | (simp; omega))) | with_reducible refine bstep ?_ (by assumption) | assumption))⟩

set_option maxHeartbeats 1000000 in
theorem power_same (n : Int) (t : Nat) (w : World) (h0 : 0 ≤ n) (h1 : n ≤ 10) (ht : t ≤ 12) (q : Int) (hq : q = n ^ t) :
    Calls Try.prog 80 #[.int .i64 n, .int .i64 t] w fun e w' => e = .returned (.int .i64 q) ∧ w' = w := by
  have Hq := Lib.hid hq
  have Hb := Lib.hid (fun k hk => (⟨Em.pow_nonneg h0 k, pow_le h0 h1 k hk⟩ : 0 ≤ n ^ k ∧ n ^ k ≤ 1000000000000))
  clear hq
  go_enter Try.func80, Try.ntmps80
  go_wp2_with fail
  go_loopw [5, 6] (fun s5 s6 wr => ∃ (k : Nat) (x : Int), k ≤ t ∧ s6 = .int .i64 k ∧ s5 = .int .i64 x ∧ Hid (x = n ^ k) ∧ wr = w) (fun _ s6 _ => t - (intOf s6).toNat)
  case atStart => exact ⟨0, 1, Nat.zero_le _, rfl, rfl, Lib.hid (by simp), rfl⟩
  case round =>
    obtain ⟨k, x, hk, rfl, rfl, Hx, rfl⟩ := hrel
    by_cases hkt : k < t
    · have hkI : (k : Int) < (t : Int) := by omega
      have Hx2 : Hid (x * n = n ^ (k + 1)) := Lib.hid (by rw [Hx.out, Int.pow_succ])
      have hb := Hb.out (k + 1) (by omega)
      have f1 : IntKind.i64.wrap (x * n) = x * n := by rw [Hx2.out]; exact IntWalk.i64_in _ ⟨Int.le_trans (by decide) hb.1, Int.le_trans hb.2 (by decide)⟩
      clear hb Hx
      go_wp2_with fail
      go_roundw
      case rel => exact ⟨k + 1, x * n, by omega, by go_num, rfl, Hx2, by trivial⟩
      case measure => simp [intOf]; omega
    · obtain rfl : k = t := by omega
      have Hf : Hid (x = q) := Lib.hid (by rw [Hx.out, Hq.out])
      clear Hx
      go_wp2_with fail
      go_ret
      exact ⟨ret_int Hf.out, rfl⟩

set_option maxHeartbeats 1000000 in
theorem choose_same (n t : Nat) (w : World) (hn : n ≤ 12) (ht : t ≤ n) (q : Int) (hq : q = (ch n t : Int)) :
    Calls Try.prog 79 #[.int .i64 n, .int .i64 t] w fun e w' => e = .returned (.int .i64 q) ∧ w' = w := by
  have Hq := Lib.hid hq
  have Hs := Lib.hid (fun k (hk : k < t) => Em.ch_step n (by omega) k (by omega) (by omega))
  clear hq
  go_enter Try.func79, Try.ntmps79
  go_wp2_with fail
  go_loopw [5, 6] (fun s5 s6 wr => ∃ (k c : Nat), k ≤ t ∧ s6 = .int .i64 k ∧ s5 = .int .i64 c ∧ Hid (c = ch n k) ∧ wr = w) (fun _ s6 _ => t - (intOf s6).toNat)
  case atStart => exact ⟨0, 1, Nat.zero_le _, rfl, rfl, Lib.hid (by cases n <;> rfl), rfl⟩
  case round =>
    obtain ⟨k, c, hk, rfl, rfl, Hc, rfl⟩ := hrel
    by_cases hkt : k < t
    · have hkI : (k : Int) < (t : Int) := by omega
      obtain ⟨s1, s2⟩ := Hs.out k hkt
      rw [← Hc.out] at s1 s2
      have hm1 : c * (n - k) ≤ 924 * 12 := Nat.mul_le_mul s2 (by omega)
      have e1 : (n : Int) - (k : Int) = ((n - k : Nat) : Int) := by omega
      have e2 : (c : Int) * ((n - k : Nat) : Int) = ((c * (n - k) : Nat) : Int) := by rw [Int.natCast_mul]
      have f1 : IntKind.i64.wrap ((n : Int) - (k : Int)) = ((n - k : Nat) : Int) := by rw [e1]; exact IntWalk.i64_in _ (by omega)
      have f2 : IntKind.i64.wrap ((c : Int) * ((n - k : Nat) : Int)) = (c : Int) * ((n - k : Nat) : Int) := by rw [e2]; exact IntWalk.i64_in _ (by omega)
      have f3 : IntKind.i64.wrap ((k : Int) + 1) = (k : Int) + 1 := IntWalk.i64_in _ (by omega)
      have f4 : ((c : Int) * ((n - k : Nat) : Int)).tdiv ((k : Int) + 1) = ((ch n (k + 1) : Nat) : Int) := by
        rw [e2, ← s1, show (k : Int) + 1 = ((k + 1 : Nat) : Int) by omega, Int.tdiv_eq_ediv_of_nonneg (Int.natCast_nonneg _)]
        exact (Int.natCast_ediv _ _).symm
      have f5 : IntKind.i64.wrap ((ch n (k + 1) : Nat) : Int) = ((ch n (k + 1) : Nat) : Int) := IntWalk.i64_in _ (by
        have : ch n (k + 1) ≤ c * (n - k) := by rw [← s1]; exact Nat.div_le_self _ _
        omega)
      have z1 : ((k : Int) + 1 == 0) = false := by simp; omega
      have z2 : ¬ ((k : Int) + 1 = 0) := by omega
      clear s1 s2 hm1 e1 e2 Hc
      go_wp2_with fail
      go_roundw
      case rel => exact ⟨k + 1, ch n (k + 1), by omega, by go_num, rfl, Lib.hid rfl, by trivial⟩
      case measure => simp [intOf]; omega
    · obtain rfl : k = t := by omega
      have Hf : Hid ((c : Int) = q) := Lib.hid (by rw [Hc.out, Hq.out])
      clear Hc
      go_wp2_with fail
      go_ret
      exact ⟨ret_int Hf.out, rfl⟩

end Go.Proofs.Ytcmllkjgggcghaa
