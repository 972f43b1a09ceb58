/- Walks of the reference of layer 1: Found. -/
import Derived.Test.YtkjoamindolonaaDoorRA4
namespace Go.Proofs.YtkjoamindolonaaDoor
open Go.RowKit Go.Shelf
set_option linter.unusedSimpArgs false
set_option linter.unusedVariables false
open Um (frac S4 spanB spanE Simp)

/-- the least Num for a Den -/
def ceilN (a b d : Int) : Int := (a * d + b - 1) / b

theorem ceil_spec (a b d : Int) (hb : 0 < b) : a * d ≤ ceilN a b d * b ∧ (ceilN a b d - 1) * b < a * d := by
  unfold ceilN
  have h1 := Int.mul_ediv_add_emod (a * d + b - 1) b
  have h2 := Int.emod_nonneg (a * d + b - 1) (b := b) (by omega)
  have h3 := Int.emod_lt_of_pos (a * d + b - 1) hb
  have e1 : (a * d + b - 1) / b * b = b * ((a * d + b - 1) / b) := Int.mul_comm _ _
  rw [Int.sub_mul, e1]
  omega

/-- what is tried up to the simplest Den -/
theorem ceil_try {a b c e n m d : Int} (h : Simp a b c e n m) (ha : 0 < a) (hb : 0 < b) (hc : 0 < c) (he : 0 < e) (h1 : 1 ≤ d) (hd : d ≤ m) :
    1 ≤ ceilN a b d ∧ ceilN a b d ≤ n ∧ (d < m → c * d < ceilN a b d * e) ∧ (d = m → ceilN a b d = n ∧ ceilN a b d * e ≤ c * d) := by
  obtain ⟨q1, q2⟩ := ceil_spec a b d hb
  generalize ceilN a b d = q at *
  have had : 0 < a * d := Int.mul_pos ha (by omega)
  have hq : 1 ≤ q := by
    rcases Int.lt_or_le 0 q with h0 | h0
    · omega
    · have : q * b ≤ 0 := Int.mul_nonpos_of_nonpos_of_nonneg h0 (by omega)
      omega
  have hle : q ≤ n := by
    have k1 : a * d ≤ a * m := Int.mul_le_mul_of_nonneg_left hd (by omega)
    have k2 := h.lo
    have k3 : (q - 1) * b < n * b := by omega
    have := Um.lt_of_mul_lt hb k3
    omega
  refine ⟨hq, hle, fun hlt => ?_, fun heq => ?_⟩
  · rcases Int.lt_or_le (c * d) (q * e) with h0 | h0
    · exact h0
    · have := h.min q d (by omega) (by omega) q1 h0
      omega
  · subst heq
    have k1 : q * e ≤ n * e := Int.mul_le_mul_of_nonneg_right hle (by omega)
    have k2 := h.hi
    have k3 : q * e ≤ c * d := by omega
    have := h.min q d (by omega) (by omega) q1 k3
    omega

set_option maxHeartbeats 1000000 in
theorem found_any (a b c e n m : Int) (most : Nat) (w : World) (hs : Simp a b c e n m) (ha : 0 < a) (hb : 0 < b) (hc : 0 < c) (he : 0 < e) (hA : a ≤ 1000000000) (hB : b ≤ 1000000000) (hC : c ≤ 1000000000) (hE : e ≤ 1000000000) (hn : n ≤ 1000000000) (hmost : most ≤ 3000) (yes : Bool) (hyes : yes = decide (m ≤ most)) :
    Calls Tryd.prog 23 #[.agg #[.int .i64 a, .int .i64 b, .int .i64 c, .int .i64 e], .int .i64 most] w fun ed w' => ed = .returned (.tuple #[.agg #[.int .i64 (if yes = true then n else 0), .int .i64 (if yes = true then m else 0)], .bool yes]) ∧ Below w.heap.size w w' := by
  generalize hx : (if yes = true then n else 0) = x
  generalize hy : (if yes = true then m else 0) = y
  have Hx := Lib.hid hx
  have Hy := Lib.hid hy
  have Hyes := Lib.hid hyes
  clear hx hy hyes
  go_enter Tryd.func23, Tryd.ntmps23
  go_wp2_with fail
  have B0 : Cs ((w.alloc (.cells #[.int .i64 a, .int .i64 b, .int .i64 c, .int .i64 e] 25)).alloc (.cells #[.int .i64 0, .int .i64 0] 23)) w.heap.size #[.int .i64 a, .int .i64 b, .int .i64 c, .int .i64 e] := (by repeat (first | with_reducible assumption | (with_reducible refine Cs.new _ _ _ _ ?_; first | rfl | (simp; done)) | with_reducible refine Cs.alloc ?_ _ | with_reducible refine Cs.drewN ?_ _ | with_reducible refine Cs.drew ?_ | with_reducible refine Cs.set4 ?_ _ _ _ _ | (with_reducible refine Cs.other4 ?_ ?_ _ _ _ _; rotate_left; focus (first | assumption | omega | (simp; done) | (simp; omega))) | with_reducible refine Cs.set2 ?_ _ _ | (with_reducible refine Cs.other2 ?_ ?_ _ _; rotate_left; focus (first | assumption | omega | (simp; done) | (simp; omega))) | (with_reducible refine Cs.other ?_ ?_ _; rotate_left; focus (first | assumption | omega | (simp; done) | (simp; omega))) | with_reducible refine Cs.keep ?_ (by assumption) | assumption))
  have B1 : Cs ((w.alloc (.cells #[.int .i64 a, .int .i64 b, .int .i64 c, .int .i64 e] 25)).alloc (.cells #[.int .i64 0, .int .i64 0] 23)) (w.heap.size + 1) #[.int .i64 0, .int .i64 0] := (by repeat (first | with_reducible assumption | (with_reducible refine Cs.new _ _ _ _ ?_; first | rfl | (simp; done)) | with_reducible refine Cs.alloc ?_ _ | with_reducible refine Cs.drewN ?_ _ | with_reducible refine Cs.drew ?_ | with_reducible refine Cs.set4 ?_ _ _ _ _ | (with_reducible refine Cs.other4 ?_ ?_ _ _ _ _; rotate_left; focus (first | assumption | omega | (simp; done) | (simp; omega))) | with_reducible refine Cs.set2 ?_ _ _ | (with_reducible refine Cs.other2 ?_ ?_ _ _; rotate_left; focus (first | assumption | omega | (simp; done) | (simp; omega))) | (with_reducible refine Cs.other ?_ ?_ _; rotate_left; focus (first | assumption | omega | (simp; done) | (simp; omega))) | with_reducible refine Cs.keep ?_ (by assumption) | assumption))
  have hbw : Below w.heap.size w ((w.alloc (.cells #[.int .i64 a, .int .i64 b, .int .i64 c, .int .i64 e] 25)).alloc (.cells #[.int .i64 0, .int .i64 0] 23)) := (by repeat (first | with_reducible exact Below.refl _ _ | with_reducible assumption | with_reducible refine balloc ?_ _ | with_reducible refine bdrewN ?_ _ | with_reducible refine Below.drew ?_ | (with_reducible refine bset ?_ ?_ _; rotate_left; focus (first | assumption | omega | (simp; done) | (simp; omega))) | with_reducible refine bstep ?_ (by assumption) | assumption))
  have hm0 := hs.m0
  go_loopw [6] (fun dv wr => ∃ d : Nat, 1 ≤ d ∧ d ≤ most + 1 ∧ (d : Int) ≤ m ∧ dv = .int .i64 d ∧ Cs wr w.heap.size #[.int .i64 a, .int .i64 b, .int .i64 c, .int .i64 e] ∧ Cs wr (w.heap.size + 1) #[.int .i64 0, .int .i64 0] ∧ Below w.heap.size w wr) (fun dv _ => most + 1 - (intOf dv).toNat)
  case atStart => exact ⟨1, Nat.le_refl _, by omega, by omega, rfl, B0, B1, hbw⟩
  case round =>
    clear B0 B1 hbw
    obtain ⟨d, hd1, hd2, hdm, rfl, B0, B1, hbw⟩ := hrel
    have cB0 := B0.c
    have fB0 := B0.f
    have lB0 := B0.lt
    have cB1 := B1.c
    have fB1 := B1.f
    have lB1 := B1.lt
    by_cases hlt : d ≤ most
    · obtain ⟨q1, q2, q3, q4⟩ := ceil_try hs ha hb hc he (by omega) hdm
      have m1 : 0 ≤ a * (d : Int) := Int.mul_nonneg (by omega) (by omega)
      have m2 : a * (d : Int) ≤ 1000000000 * 3000 := Int.mul_le_mul hA (by omega) (by omega) (by omega)
      have m3 : 0 ≤ c * (d : Int) := Int.mul_nonneg (by omega) (by omega)
      have m4 : c * (d : Int) ≤ 1000000000 * 3000 := Int.mul_le_mul hC (by omega) (by omega) (by omega)
      have f1 : IntKind.i64.wrap (a * (d : Int)) = a * (d : Int) := IntWalk.i64_in _ (by omega)
      have f2 : IntKind.i64.wrap (a * (d : Int) + b) = a * (d : Int) + b := IntWalk.i64_in _ (by omega)
      have f3 : IntKind.i64.wrap (a * (d : Int) + b - 1) = a * (d : Int) + b - 1 := IntWalk.i64_in _ (by omega)
      have f4 : (a * (d : Int) + b - 1).tdiv b = ceilN a b d := Int.tdiv_eq_ediv_of_nonneg (by omega)
      have f5 : IntKind.i64.wrap (ceilN a b d) = ceilN a b d := IntWalk.i64_in _ (by omega)
      have f5' : (a * (d : Int) + b - 1) / b = ceilN a b d := rfl
      have m5 : 0 ≤ ceilN a b d * e := Int.mul_nonneg (by omega) (by omega)
      have m6 : ceilN a b d * e ≤ 1000000000 * 1000000000 := Int.mul_le_mul (by omega) hE (by omega) (by omega)
      have f6 : IntKind.i64.wrap (ceilN a b d * e) = ceilN a b d * e := IntWalk.i64_in _ (by omega)
      have f7 : IntKind.i64.wrap (c * (d : Int)) = c * (d : Int) := IntWalk.i64_in _ (by omega)
      have g0 : (b == 0) = false := by simp; omega
      have g1 : (b = 0) = False := by simp; omega
      have g2 : (d : Int) ≤ (most : Int) := by omega
      have g3 : IntKind.i64.wrap ((d : Int) + 1) = (d : Int) + 1 := IntWalk.i64_in _ (by omega)
      by_cases heq : (d : Int) = m
      · obtain ⟨r1, r2⟩ := q4 heq
        have hyes : Hid (yes = true ∧ x = ceilN a b d ∧ y = d) := Lib.hid (by
          have e1 : yes = true := by rw [Hyes.out]; simp; omega
          refine ⟨e1, ?_, ?_⟩
          · rw [← Hx.out, if_pos e1, r1]
          · rw [← Hy.out, if_pos e1, heq])
        clear heq q3 q4 r1 m1 m2 m3 m4 m5 m6 Hx Hy Hyes hs
        generalize ceilN a b d = q at *
        obtain ⟨rfl, rfl, rfl⟩ := hyes.out
        clear hyes
        go_wp2_with fail
        exact bodyPost_ret (v := .tuple #[.agg #[.int .i64 x, .int .i64 (d : Int)], .bool true]) (by simp [results, Tryd.results23, go_sem, cB1, fB1, lB1]) rfl ⟨rfl, (by repeat (first | with_reducible exact Below.refl _ _ | with_reducible assumption | with_reducible refine balloc ?_ _ | with_reducible refine bdrewN ?_ _ | with_reducible refine Below.drew ?_ | (with_reducible refine bset ?_ ?_ _; rotate_left; focus (first | assumption | omega | (simp; done) | (simp; omega))) | with_reducible refine bstep ?_ (by assumption) | assumption))⟩
      · have r1 := q3 (by omega)
        have hdm2 : ((d + 1 : Nat) : Int) ≤ m := by omega
        have r2 : ¬ ceilN a b d * e ≤ c * (d : Int) := by omega
        clear heq q3 q4 m1 m2 m3 m4 m5 m6
        generalize ceilN a b d = q at *
        go_wp2_with fail
        go_roundw
        case rel => exact ⟨d + 1, by omega, by omega, hdm2, by go_num, B0, B1, hbw⟩
        case measure => simp [intOf]; omega
    · have g2 : ¬ (d : Int) ≤ (most : Int) := by omega
      have hyes : Hid (yes = false ∧ x = 0 ∧ y = 0) := Lib.hid (by
        have e1 : yes = false := by rw [Hyes.out]; simp; omega
        refine ⟨e1, ?_, ?_⟩
        · rw [← Hx.out, if_neg (by rw [e1]; decide)]
        · rw [← Hy.out, if_neg (by rw [e1]; decide)])
      clear Hx Hy Hyes
      obtain ⟨rfl, rfl, rfl⟩ := hyes.out
      clear hyes
      go_wp2_with fail
      exact bodyPost_ret (v := .tuple #[.agg #[.int .i64 0, .int .i64 0], .bool false]) (by simp [results, Tryd.results23, go_sem, cB1, fB1, lB1]) rfl ⟨rfl, (by repeat (first | with_reducible exact Below.refl _ _ | with_reducible assumption | with_reducible refine balloc ?_ _ | with_reducible refine bdrewN ?_ _ | with_reducible refine Below.drew ?_ | (with_reducible refine bset ?_ ?_ _; rotate_left; focus (first | assumption | omega | (simp; done) | (simp; omega))) | with_reducible refine bstep ?_ (by assumption) | assumption))⟩

end Go.Proofs.YtkjoamindolonaaDoor
