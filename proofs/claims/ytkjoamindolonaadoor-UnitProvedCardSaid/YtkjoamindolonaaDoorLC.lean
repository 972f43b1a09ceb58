/- What a proof that is returned is. -/
import Derived.Test.YtkjoamindolonaaDoorLB
namespace Go.Proofs.YtkjoamindolonaaDoor
open Go.RowKit Go.Shelf
set_option linter.unusedSimpArgs false
set_option linter.unusedVariables false
open Um (frac S4 spanB spanE Simp turn4)

theorem parts_check {s : S4} (h : spanB s = true) : Um.checkP s (Um.parts (Um.fw Um.first (Um.best s))) = ((Um.ev (Um.best s)).2, 0) := by
  have hB := Um.best_ok s h
  have hb1 := best1 h
  have hdet := Um.det_first (Um.best s)
  obtain ⟨h1, h2, h3⟩ := (Um.spanB_iff s).1 h
  obtain ⟨a1, a2, b1, b2⟩ := Um.frac_bd h1
  obtain ⟨c1, c2, d1, d2⟩ := Um.frac_bd h2
  have e0 := hB.x0
  have e1 := hB.x1
  have p0 := hB.p0
  have p1 := hB.p1
  have q0 := hB.q0
  have q1 := hB.q1
  have n2 := hb1.n2
  have m2 := hb1.m2
  have hs := hb1.simp
  rw [← e0, ← e1] at hs
  rw [← e0] at n2
  rw [← e1] at m2 ⊢
  generalize Um.fw Um.first (Um.best s) = x at *
  obtain ⟨x1, x2, x3, x4⟩ := x
  dsimp only at *
  have hd : x1 * x4 - x3 * x2 = 1 ∨ x1 * x4 - x3 * x2 = -1 := hdet
  have r1 : (x1 - x3) * x4 = x1 * x4 - x3 * x4 := by rw [Int.sub_mul]
  have r2 : x3 * (x2 - x4) = x3 * x2 - x3 * x4 := by rw [Int.mul_sub]
  have key : ∀ l1 l2 r1 r2 : Int, 0 ≤ l1 → 0 ≤ l2 → 0 ≤ r1 → 0 ≤ r2 → l1 + r1 = x1 → l2 + r2 = x2 → l2 * r1 - l1 * r2 = 1 → Um.checkP s (l1, l2, r1, r2) = (x2, 0) := by
    intro l1 l2 r1 r2 k1 k2 k3 k4 k5 k6 k7
    obtain ⟨u1, u2, u3, u4, u5, u6, u7⟩ := Um.parts_proof hs (by omega) (by omega) (by omega) (by omega) k1 k2 k3 k4 k5 k6 k7
    unfold Um.checkP
    rw [if_neg (by rw [h]; decide), if_neg (fun k => k ⟨by show 0 ≤ l1; omega, by show l1 ≤ 1000000000; omega, by show 0 ≤ r2; omega, by show r2 ≤ 1000000000; omega, by show 1 ≤ l2; omega, by show l2 ≤ 1000000000; omega, by show 1 ≤ r1; omega, by show r1 ≤ 1000000000; omega⟩),
      if_neg (fun k => k ⟨u5, u6, u7⟩)]
    show (l2 + r2, (0 : Int)) = _
    rw [k6]
  unfold Um.parts
  by_cases hlt : (x1 - x3) * x4 < x3 * (x2 - x4)
  · rw [if_pos hlt]
    refine key (x1 - x3) (x2 - x4) x3 x4 (by omega) (by omega) (by omega) (by omega) (by omega) (by omega) ?_
    have g1 : (x2 - x4) * x3 = x3 * x2 - x3 * x4 := by rw [Int.mul_comm, Int.mul_sub]
    show (x2 - x4) * x3 - (x1 - x3) * x4 = 1
    omega
  · rw [if_neg hlt]
    refine key x3 x4 (x1 - x3) (x2 - x4) (by omega) (by omega) (by omega) (by omega) (by omega) (by omega) ?_
    have g1 : x4 * (x1 - x3) = x1 * x4 - x3 * x4 := by rw [Int.mul_comm, Int.sub_mul]
    show x4 * (x1 - x3) - x3 * (x2 - x4) = 1
    omega

/-- the simplest fraction and the proof of a valid span, by letters -/
theorem proof_let (a b c d : Int) (h : spanB (a, b, c, d) = true) : ∃ n m p q r t : Int, Best1 (a, b, c, d) n m ∧ Um.checkP (a, b, c, d) (p, q, r, t) = (m, 0) ∧
    (∀ w, FirstAt w → Calls Tryd.prog 22 #[.agg #[.int .i64 a, .int .i64 b, .int .i64 c, .int .i64 d]] w fun e w' => e = .returned (.tuple #[.agg #[.int .i64 n, .int .i64 m], .int .i64 0]) ∧ Below w.heap.size w w') ∧
    (∀ w, FirstAt w → Calls Tryd.prog 42 #[.agg #[.int .i64 a, .int .i64 b, .int .i64 c, .int .i64 d]] w fun e w' => e = .returned (.tuple #[.agg #[.int .i64 p, .int .i64 q, .int .i64 r, .int .i64 t], .int .i64 0]) ∧ Below w.heap.size w w') :=
  ⟨_, _, _, _, _, _, best1 h, parts_check h, fun w hf => simplestE_ok a b c d w h hf, fun w hf => proofE_ok a b c d w h hf⟩

/-- no right proof has a greater bound than the simplest Den -/
theorem checkP_bound {s p : S4} {n m : Int} (h : spanB s = true) (hB : Best1 s n m) (h0 : (Um.checkP s p).2 = 0) : (Um.checkP s p).1 ≤ m := by
  unfold Um.checkP at h0 ⊢
  obtain ⟨h1, h2, h3⟩ := (Um.spanB_iff s).1 h
  obtain ⟨a1, a2, b1, b2⟩ := Um.frac_bd h1
  obtain ⟨c1, c2, d1, d2⟩ := Um.frac_bd h2
  rw [if_neg (by rw [h]; decide)] at h0 ⊢
  split at h0
  · exact absurd h0 (by decide)
  · rename_i hr
    rw [if_neg hr]
    split at h0
    · exact absurd h0 (by decide)
    · rename_i hc
      rw [if_neg hc]
      have hr' := Classical.not_not.1 hr
      have hc' := Classical.not_not.1 hc
      exact Um.proof_bound (n := n) ⟨hr'.1, hr'.2.2.2.2.1, hr'.2.2.2.2.2.2.1, hr'.2.2.1, hc'.1, hc'.2.1, hc'.2.2⟩ (by omega) (by omega) hB.simp.n0 hB.simp.m0 hB.lo hB.hi

end Go.Proofs.YtkjoamindolonaaDoor
