/- Walks of the reference of units: fractions and spans. -/
import Derived.Test.YtkjoamindolonaaDoorUMath2
import Derived.Test.YtkjoamindolonaaDoorUBase
namespace Go.Proofs.YtkjoamindolonaaDoor
open Go.RowKit Go.Shelf
set_option linter.unusedSimpArgs false
set_option linter.unusedVariables false
open Um (frac S4 spanB spanE)

set_option maxHeartbeats 400000 in
theorem rgcd_any (a b : Int) (w : World) (ha : 0 ≤ a) (hb : 0 ≤ b) (hA : a ≤ 9223372036854775807) (hB : b ≤ 9223372036854775807) :
    Calls Tryd.prog 57 #[.int .i64 a, .int .i64 b] w fun e w' => e = .returned (.int .i64 (Int.gcd a b)) ∧ Below w.heap.size w w' := by
  go_enter Tryd.func57, Tryd.ntmps57
  go_wp2
  go_loopw [0, 1] (fun x y wr => ∃ p q : Int, 0 ≤ p ∧ 0 ≤ q ∧ p ≤ 9223372036854775807 ∧ q ≤ 9223372036854775807 ∧ x = .int .i64 p ∧ y = .int .i64 q ∧ Hid (Int.gcd p q = Int.gcd a b) ∧ Below w.heap.size w wr) (fun _ y _ => (intOf y).toNat)
  case atStart => exact ⟨a, b, ha, hb, hA, hB, rfl, rfl, rfl, Below.refl _ _⟩
  case round =>
    obtain ⟨p, q, hp, hq, hP, hQ, rfl, rfl, hg, hbl⟩ := hrel
    by_cases h0 : q = 0
    · subst h0
      go_wp2
      go_ret
      refine ⟨?_, hbl⟩
      have := hg.out
      rw [← this]
      simp
      omega
    · have hm0 := Int.emod_nonneg p (b := q) h0
      have hm1 := Int.emod_lt_of_pos p (b := q) (by omega)
      have h1 : 1 ≤ q := by omega
      have hgc : Hid (Int.gcd q (p % q) = Int.gcd a b) := by
        rw [← hg.out]; show Int.gcd q (p % q) = Int.gcd p q
        exact Um.gcd_step p q hp (by omega)
      clear h0
      go_wp2
      go_quiet (fail)
      go_wp2
      go_roundw
      case rel => exact ⟨q, p % q, by omega, by omega, by omega, by omega, rfl, rfl, hgc, by first | exact hbl.drew | exact bdrewN hbl _⟩
      case measure => simp [intOf]; omega

set_option maxHeartbeats 400000 in
theorem rless_any (a b c d : Int) (w : World) (ha : 0 ≤ a) (hb : 0 ≤ b) (hc : 0 ≤ c) (hd : 0 ≤ d) (hA : a ≤ 2000000000) (hB : b ≤ 2000000000) (hC : c ≤ 2000000000) (hD : d ≤ 2000000000) :
    Calls Tryd.prog 38 #[.agg #[.int .i64 a, .int .i64 b], .agg #[.int .i64 c, .int .i64 d]] w fun e w' => e = .returned (.bool (decide (a * d < c * b))) ∧ Below w.heap.size w w' := by
  have h1 : 0 ≤ a * d := Int.mul_nonneg ha hd
  have h2 : 0 ≤ c * b := Int.mul_nonneg hc hb
  have h3 : a * d ≤ 4000000000000000000 := Int.le_trans (Int.mul_le_mul hA hD hd (by omega)) (by omega)
  have h4 : c * b ≤ 4000000000000000000 := Int.le_trans (Int.mul_le_mul hC hB hb (by omega)) (by omega)
  go_enter Tryd.func38, Tryd.ntmps38
  go_wp2
  go_ret
  exact ⟨rfl, ((Below.refl _ _).alloc (Nat.le_refl _) _).alloc (by simp) _⟩

set_option maxHeartbeats 400000 in
theorem rwithin_any (n lo hi : Int) (w : World) :
    Calls Tryd.prog 56 #[.int .i64 n, .int .i64 lo, .int .i64 hi] w fun e w' => e = .returned (.bool (decide (lo ≤ n) && decide (n ≤ hi))) ∧ Below w.heap.size w w' := by
  by_cases h : lo ≤ n
  · go_enter Tryd.func56, Tryd.ntmps56
    go_wp2
    go_ret
    exact ⟨ret_bool (by simp [h]), Below.refl _ _⟩
  · have hn' : decide (lo ≤ n) = false := by simp; omega
    have Hn := Lib.hid hn'
    clear hn'
    go_enter Tryd.func56, Tryd.ntmps56
    go_wp2
    go_ret
    exact ⟨ret_bool (by rw [Hn.out]; simp), Below.refl _ _⟩

set_option maxHeartbeats 400000 in
theorem risFraction_any (n d : Int) (w : World) :
    Calls Tryd.prog 24 #[.agg #[.int .i64 n, .int .i64 d]] w fun e w' => e = .returned (.bool (frac n d)) ∧ Below w.heap.size w w' := by
  have h1 := fun W => rwithin_any n 1 1000000000 W
  have h2 := fun W => rwithin_any d 1 1000000000 W
  cases hi1 : (decide (1 ≤ n) && decide (n ≤ 1000000000)) with
  | false =>
    have hfin : Hid (false = frac n d) := by show _ = _; simp at hi1; simp [frac]; omega
    rw [hi1] at h1
    clear hi1 h2
    go_enter Tryd.func24, Tryd.ntmps24
    go_wp2_with fail
    refine (h1 _).mono ?_
    rintro e w1 ⟨rfl, hb1⟩
    go_wp2_with fail
    go_ret
    exact ⟨ret_bool hfin.out, bstep (balloc (Below.refl _ _) _) hb1⟩
  | true =>
    cases hi2 : (decide (1 ≤ d) && decide (d ≤ 1000000000)) with
    | false =>
      have hfin : Hid (false = frac n d) := by show _ = _; simp at hi2; simp [frac]; omega
      rw [hi1] at h1
      rw [hi2] at h2
      clear hi1 hi2
      go_enter Tryd.func24, Tryd.ntmps24
      go_wp2_with fail
      refine (h1 _).mono ?_
      rintro e w1 ⟨rfl, hb1⟩
      have B0 := (Cs.new w _ #[.int .i64 n, .int .i64 d] 23 rfl).keep hb1
      have c0 := B0.c
      go_wp2_with fail
      refine (h2 _).mono ?_
      rintro e w2 ⟨rfl, hb2⟩
      go_wp2_with fail
      go_ret
      exact ⟨ret_bool hfin.out, bstep (bstep (balloc (Below.refl _ _) _) hb1) hb2⟩
    | true =>
      have hfin : Hid (((Int.gcd n d : Int) == 1) = frac n d) := by
        show _ = _
        simp at hi1 hi2
        rw [Bool.eq_iff_iff]; simp [frac, hi1, hi2]; omega
      have h3 := fun W => rgcd_any n d W (by simp at hi1; omega) (by simp at hi2; omega) (by simp at hi1; omega) (by simp at hi2; omega)
      rw [hi1] at h1
      rw [hi2] at h2
      clear hi1 hi2
      go_enter Tryd.func24, Tryd.ntmps24
      go_wp2_with fail
      refine (h1 _).mono ?_
      rintro e w1 ⟨rfl, hb1⟩
      have B0 := (Cs.new w _ #[.int .i64 n, .int .i64 d] 23 rfl).keep hb1
      have c0 := B0.c
      go_wp2_with fail
      refine (h2 _).mono ?_
      rintro e w2 ⟨rfl, hb2⟩
      have c0' := (B0.keep hb2).c
      clear c0
      go_wp2_with fail
      refine (h3 _).mono ?_
      rintro e w3 ⟨rfl, hb3⟩
      go_wp2_with fail
      go_ret
      exact ⟨ret_bool hfin.out, bstep (bstep (bstep (balloc (Below.refl _ _) _) hb1) hb2) hb3⟩

set_option maxHeartbeats 400000 in
theorem rturned_any (n d : Int) (w : World) :
    Calls Tryd.prog 63 #[.agg #[.int .i64 n, .int .i64 d]] w fun e w' => e = .returned (.agg #[.int .i64 d, .int .i64 n]) ∧ Below w.heap.size w w' := by
  go_enter Tryd.func63, Tryd.ntmps63
  go_wp2_with fail
  exact bodyPost_ret (v := .agg #[.int .i64 d, .int .i64 n]) (by simp [results, Tryd.results63, go_sem]) rfl ⟨rfl, balloc (balloc (Below.refl _ _) _) _⟩

set_option maxHeartbeats 1000000 in
theorem rcheckSpan_any (a b c d : Int) (w : World) :
    Calls Tryd.prog 21 #[.agg #[.int .i64 a, .int .i64 b, .int .i64 c, .int .i64 d]] w fun e w' => e = .returned (.int .i64 (spanE (a, b, c, d))) ∧ Below w.heap.size w w' := by
  have h1 := fun W => risFraction_any a b W
  have h2 := fun W => risFraction_any c d W
  cases hf1 : frac a b with
  | false =>
    have hfin : Hid (2 = spanE (a, b, c, d)) := by show _ = _; simp [spanE, spanB, hf1]
    rw [hf1] at h1
    clear hf1 h2
    go_enter Tryd.func21, Tryd.ntmps21
    go_wp2_with fail
    refine (h1 _).mono ?_
    rintro e w1 ⟨rfl, hb1⟩
    go_wp2_with fail
    go_ret
    exact ⟨ret_int hfin.out, bstep (balloc (Below.refl _ _) _) hb1⟩
  | true =>
    cases hf2 : frac c d with
    | false =>
      have hfin : Hid (2 = spanE (a, b, c, d)) := by show _ = _; simp [spanE, spanB, hf1, hf2]
      rw [hf1] at h1
      rw [hf2] at h2
      clear hf1 hf2
      go_enter Tryd.func21, Tryd.ntmps21
      go_wp2_with fail
      refine (h1 _).mono ?_
      rintro e w1 ⟨rfl, hb1⟩
      have B0 := (Cs.new w _ #[.int .i64 a, .int .i64 b, .int .i64 c, .int .i64 d] 25 rfl).keep hb1
      have c0 := B0.c
      go_wp2_with fail
      refine (h2 _).mono ?_
      rintro e w2 ⟨rfl, hb2⟩
      go_wp2_with fail
      go_ret
      exact ⟨ret_int hfin.out, bstep (bstep (balloc (Below.refl _ _) _) hb1) hb2⟩
    | true =>
      obtain ⟨a1, a2, b1, b2⟩ := Um.frac_bd hf1
      obtain ⟨c1, c2, d1, d2⟩ := Um.frac_bd hf2
      have h3 := fun W => rless_any c d a b W (by omega) (by omega) (by omega) (by omega) (by omega) (by omega) (by omega) (by omega)
      cases hl : decide (c * b < a * d) with
      | true =>
        have hfin : Hid (2 = spanE (a, b, c, d)) := by
          show _ = _
          have : ¬ a * d ≤ c * b := by simp at hl; omega
          simp [spanE, spanB, hf1, hf2, this]
        rw [hf1] at h1
        rw [hf2] at h2
        rw [hl] at h3
        clear hf1 hf2 hl
        go_enter Tryd.func21, Tryd.ntmps21
        go_wp2_with fail
        refine (h1 _).mono ?_
        rintro e w1 ⟨rfl, hb1⟩
        have B0 := (Cs.new w _ #[.int .i64 a, .int .i64 b, .int .i64 c, .int .i64 d] 25 rfl).keep hb1
        have c0 := B0.c
        go_wp2_with fail
        refine (h2 _).mono ?_
        rintro e w2 ⟨rfl, hb2⟩
        have c0' := (B0.keep hb2).c
        clear c0
        go_wp2_with fail
        refine (h3 _).mono ?_
        rintro e w3 ⟨rfl, hb3⟩
        go_wp2_with fail
        go_ret
        exact ⟨ret_int hfin.out, bstep (bstep (bstep (balloc (Below.refl _ _) _) hb1) hb2) hb3⟩
      | false =>
        have hfin : Hid (0 = spanE (a, b, c, d)) := by
          show _ = _
          have : a * d ≤ c * b := by simp at hl; omega
          simp [spanE, spanB, hf1, hf2, this]
        rw [hf1] at h1
        rw [hf2] at h2
        rw [hl] at h3
        clear hf1 hf2 hl
        go_enter Tryd.func21, Tryd.ntmps21
        go_wp2_with fail
        refine (h1 _).mono ?_
        rintro e w1 ⟨rfl, hb1⟩
        have B0 := (Cs.new w _ #[.int .i64 a, .int .i64 b, .int .i64 c, .int .i64 d] 25 rfl).keep hb1
        have c0 := B0.c
        go_wp2_with fail
        refine (h2 _).mono ?_
        rintro e w2 ⟨rfl, hb2⟩
        have c0' := (B0.keep hb2).c
        clear c0
        go_wp2_with fail
        refine (h3 _).mono ?_
        rintro e w3 ⟨rfl, hb3⟩
        go_wp2_with fail
        go_ret
        exact ⟨ret_int hfin.out, bstep (bstep (bstep (balloc (Below.refl _ _) _) hb1) hb2) hb3⟩

theorem rcheckSpan_ok (a b c d : Int) (w : World) (h : spanB (a, b, c, d) = true) :
    Calls Tryd.prog 21 #[.agg #[.int .i64 a, .int .i64 b, .int .i64 c, .int .i64 d]] w fun e w' => e = .returned (.int .i64 0) ∧ Below w.heap.size w w' := by
  have := rcheckSpan_any a b c d w
  rwa [spanE, if_pos h] at this
theorem rcheckSpan_bad (a b c d : Int) (w : World) (h : spanB (a, b, c, d) = false) :
    Calls Tryd.prog 21 #[.agg #[.int .i64 a, .int .i64 b, .int .i64 c, .int .i64 d]] w fun e w' => e = .returned (.int .i64 2) ∧ Below w.heap.size w w' := by
  have := rcheckSpan_any a b c d w
  rwa [spanE, if_neg (by rw [h]; decide)] at this

end Go.Proofs.YtkjoamindolonaaDoor
