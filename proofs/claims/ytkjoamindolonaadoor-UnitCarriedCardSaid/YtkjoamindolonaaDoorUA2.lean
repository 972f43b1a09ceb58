/- Walks of package unit: isFraction, turned, CheckSpan. -/
import Derived.Test.YtkjoamindolonaaDoorUMath2
import Derived.Test.YtkjoamindolonaaDoorUA1
namespace Go.Proofs.YtkjoamindolonaaDoor
open Go.RowKit Go.Shelf
set_option linter.unusedSimpArgs false
set_option linter.unusedVariables false
open Um (frac S4 spanB spanE)
set_option maxHeartbeats 400000 in
theorem isFraction_any (n d : Int) (w : World) :
    Calls Tryd.prog 51 #[.agg #[.int .i64 n, .int .i64 d]] w fun e w' => e = .returned (.bool (frac n d)) ∧ Below w.heap.size w w' := by
  have h1 := fun W hz => within_any 1 1000000000 (some ⟨w.heap.size + 1, 0, none⟩) 2 2 [n, d] W hz (by omega)
  by_cases hin : 1 ≤ n ∧ n ≤ 1000000000 ∧ 1 ≤ d ∧ d ≤ 1000000000
  · have hv : ([n, d].all fun x => !out 1 1000000000 x) = true := by simp [out]; omega
    rw [hv] at h1
    obtain ⟨b1, b2, b3, b4⟩ := hin
    have hfin : Hid (((Int.gcd n d : Int) == 1) = frac n d) := by show _ = _; rw [Bool.eq_iff_iff]; simp [frac, b1, b2, b3, b4]; omega
    have h2 := fun W => common_any n d W (by omega) (by omega) (by omega) (by omega)
    clear hv
    go_enter Tryd.func51, Tryd.ntmps51
    go_wp2_with fail
    refine (h1 _ (Ints.new (w.alloc _) _ [n, d] _ (by simp))).mono ?_
    rintro e w1 ⟨rfl, hb1⟩
    have B0 := ((Cs.new w _ #[.int .i64 n, .int .i64 d] 23 rfl).alloc _).keep hb1
    have c0 := B0.c
    go_wp2_with fail
    refine (h2 _).mono ?_
    rintro e w2 ⟨rfl, hb2⟩
    go_wp2_with fail
    go_ret
    exact ⟨ret_bool hfin.out, bstep (bstep (balloc (balloc (Below.refl _ _) _) _) hb1) hb2⟩
  · have hv : ([n, d].all fun x => !out 1 1000000000 x) = false := by
      simp only [out, List.all_cons, List.all_nil]
      by_cases a1 : n < 1 <;> by_cases a2 : 1000000000 < n <;> by_cases a3 : d < 1 <;> by_cases a4 : 1000000000 < d <;> simp [a1, a2, a3, a4]
      omega
    rw [hv] at h1
    have hfin : Hid (false = frac n d) := by show _ = _; simp [frac]; omega
    clear hv hin
    go_enter Tryd.func51, Tryd.ntmps51
    go_wp2_with fail
    refine (h1 _ (Ints.new (w.alloc _) _ [n, d] _ (by simp))).mono ?_
    rintro e w1 ⟨rfl, hb1⟩
    go_wp2_with fail
    go_ret
    exact ⟨ret_bool hfin.out, bstep (balloc (balloc (Below.refl _ _) _) _) hb1⟩




set_option maxHeartbeats 400000 in
theorem turned_any (n d : Int) (w : World) :
    Calls Tryd.prog 50 #[.agg #[.int .i64 n, .int .i64 d]] w fun e w' => e = .returned (.agg #[.int .i64 d, .int .i64 n]) ∧ Below w.heap.size w w' := by
  go_enter Tryd.func50, Tryd.ntmps50
  go_wp2_with fail
  exact bodyPost_ret (v := .agg #[.int .i64 d, .int .i64 n]) (by simp [results, Tryd.results50, go_sem]) rfl ⟨rfl, balloc (balloc (Below.refl _ _) _) _⟩

set_option maxHeartbeats 1000000 in
theorem checkSpan_any (a b c d : Int) (w : World) :
    Calls Tryd.prog 20 #[.agg #[.int .i64 a, .int .i64 b, .int .i64 c, .int .i64 d]] w fun e w' => e = .returned (.int .i64 (spanE (a, b, c, d))) ∧ Below w.heap.size w w' := by
  have h1 := fun W => isFraction_any a b W
  have h2 := fun W => isFraction_any c d W
  cases hf1 : frac a b with
  | false =>
    have hfin : Hid (2 = spanE (a, b, c, d)) := by show _ = _; simp [spanE, spanB, hf1]
    rw [hf1] at h1
    clear hf1 h2
    go_enter Tryd.func20, Tryd.ntmps20
    go_wp2_with fail
    refine (h1 _).mono ?_
    rintro e w1 ⟨rfl, hb1⟩
    go_wp2_with fail
    go_ret
    exact ⟨ret_int hfin.out, bstep (balloc (Below.refl _ _) _) hb1⟩
  | true =>
    cases hf2 : frac c d with
    | false =>
      have hfin : Hid (2 = spanE (a, b, c, d)) := by show _ = _; simp [spanE, spanB, hf1, hf2]
      rw [hf1] at h1
      rw [hf2] at h2
      clear hf1 hf2
      go_enter Tryd.func20, Tryd.ntmps20
      go_wp2_with fail
      refine (h1 _).mono ?_
      rintro e w1 ⟨rfl, hb1⟩
      have B0 := (Cs.new w _ #[.int .i64 a, .int .i64 b, .int .i64 c, .int .i64 d] 25 rfl).keep hb1
      have c0 := B0.c
      go_wp2_with fail
      refine (h2 _).mono ?_
      rintro e w2 ⟨rfl, hb2⟩
      go_wp2_with fail
      go_ret
      exact ⟨ret_int hfin.out, bstep (bstep (balloc (Below.refl _ _) _) hb1) hb2⟩
    | true =>
      obtain ⟨a1, a2, b1, b2⟩ := Um.frac_bd hf1
      obtain ⟨c1, c2, d1, d2⟩ := Um.frac_bd hf2
      have h3 := fun W => less_any c d a b W (by omega) (by omega) (by omega) (by omega) (by omega) (by omega) (by omega) (by omega)
      cases hl : decide (c * b < a * d) with
      | true =>
        have hfin : Hid (2 = spanE (a, b, c, d)) := by
          show _ = _
          have : ¬ a * d ≤ c * b := by simp at hl; omega
          simp [spanE, spanB, hf1, hf2, this]
        rw [hf1] at h1
        rw [hf2] at h2
        rw [hl] at h3
        clear hf1 hf2 hl
        go_enter Tryd.func20, Tryd.ntmps20
        go_wp2_with fail
        refine (h1 _).mono ?_
        rintro e w1 ⟨rfl, hb1⟩
        have B0 := (Cs.new w _ #[.int .i64 a, .int .i64 b, .int .i64 c, .int .i64 d] 25 rfl).keep hb1
        have c0 := B0.c
        go_wp2_with fail
        refine (h2 _).mono ?_
        rintro e w2 ⟨rfl, hb2⟩
        have c0' := (B0.keep hb2).c
        clear c0
        go_wp2_with fail
        refine (h3 _).mono ?_
        rintro e w3 ⟨rfl, hb3⟩
        go_wp2_with fail
        go_ret
        exact ⟨ret_int hfin.out, bstep (bstep (bstep (balloc (Below.refl _ _) _) hb1) hb2) hb3⟩
      | false =>
        have hfin : Hid (0 = spanE (a, b, c, d)) := by
          show _ = _
          have : a * d ≤ c * b := by simp at hl; omega
          simp [spanE, spanB, hf1, hf2, this]
        rw [hf1] at h1
        rw [hf2] at h2
        rw [hl] at h3
        clear hf1 hf2 hl
        go_enter Tryd.func20, Tryd.ntmps20
        go_wp2_with fail
        refine (h1 _).mono ?_
        rintro e w1 ⟨rfl, hb1⟩
        have B0 := (Cs.new w _ #[.int .i64 a, .int .i64 b, .int .i64 c, .int .i64 d] 25 rfl).keep hb1
        have c0 := B0.c
        go_wp2_with fail
        refine (h2 _).mono ?_
        rintro e w2 ⟨rfl, hb2⟩
        have c0' := (B0.keep hb2).c
        clear c0
        go_wp2_with fail
        refine (h3 _).mono ?_
        rintro e w3 ⟨rfl, hb3⟩
        go_wp2_with fail
        go_ret
        exact ⟨ret_int hfin.out, bstep (bstep (bstep (balloc (Below.refl _ _) _) hb1) hb2) hb3⟩

theorem checkSpan_ok (a b c d : Int) (w : World) (h : spanB (a, b, c, d) = true) :
    Calls Tryd.prog 20 #[.agg #[.int .i64 a, .int .i64 b, .int .i64 c, .int .i64 d]] w fun e w' => e = .returned (.int .i64 0) ∧ Below w.heap.size w w' := by
  have := checkSpan_any a b c d w
  rwa [spanE, if_pos h] at this
theorem checkSpan_bad (a b c d : Int) (w : World) (h : spanB (a, b, c, d) = false) :
    Calls Tryd.prog 20 #[.agg #[.int .i64 a, .int .i64 b, .int .i64 c, .int .i64 d]] w fun e w' => e = .returned (.int .i64 2) ∧ Below w.heap.size w w' := by
  have := checkSpan_any a b c d w
  rwa [spanE, if_neg (by rw [h]; decide)] at this

end Go.Proofs.YtkjoamindolonaaDoor
