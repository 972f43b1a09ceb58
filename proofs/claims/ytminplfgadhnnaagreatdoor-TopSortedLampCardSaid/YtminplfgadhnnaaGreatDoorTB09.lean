/- BA9 BA10 BA11 -/
import Derived.Test.YtminplfgadhnnaaGreatDoorTB08
/- Walks of package bench: CheckBar. -/
section
namespace Go.Proofs.YtminplfgadhnnaaGreatDoor
open Go.RowKit Go.Shelf
set_option linter.unusedSimpArgs false
set_option linter.unusedVariables false

/-- the error of a bar -/
def barE (l n p1 p2 s1 s2 t1 t2 : Int) : Int :=
  if out 2 5000 l = true then 2 else if out 1 l n = true then 2 else if rgB 1 100000 (p1, p2) = false then 2 else if rgB 1 (l - 1) (s1, s2) = false then 2 else if rgB 0 1000 (t1, t2) = false then 2
  else if s1 < n then 16 else if l - n < s2 then 16 else 0
theorem out_false {lo hi x : Int} : out lo hi x = false ↔ lo ≤ x ∧ x ≤ hi := by unfold out; rw [Bool.or_eq_false_iff, decide_eq_false_iff_not, decide_eq_false_iff_not]; omega
theorem all_one (lo hi x : Int) : ([x].all fun z => !out lo hi z) = !out lo hi x := by simp

set_option maxHeartbeats 4000000 in
theorem checkBar_any (l n p1 p2 s1 s2 t1 t2 : Int) (w : World) :
    Calls Tryz.prog 54 #[.agg #[.int .i64 l, .int .i64 n, .int .i64 p1, .int .i64 p2, .int .i64 s1, .int .i64 s2, .int .i64 t1, .int .i64 t2]] w fun e w' => e = .returned (.int .i64 (barE l n p1 p2 s1 s2 t1 t2)) ∧ Below w.heap.size w w' := by
  have k1 := fun A c W hz => within_any 2 5000 A 1 c [l] W hz (by omega)
  have k2 := fun A c W hz => within_any 1 l A 1 c [n] W hz (by omega)
  have k3 := fun W => isRange_any p1 p2 1 100000 W
  have k4 := fun W => isRange_any s1 s2 1 (l - 1) W
  have k5 := fun W => isRange_any t1 t2 0 1000 W
  rw [all_one] at k1 k2
  obtain ⟨R, hR⟩ : ∃ R, barE l n p1 p2 s1 s2 t1 t2 = R := ⟨_, rfl⟩
  rw [hR]
  unfold barE at hR
  have HR := Lib.hid hR
  have g1 := Lib.hid (out_false (lo := 2) (hi := 5000) (x := l))
  have g2 := Lib.hid (out_false (lo := 1) (hi := l) (x := n))
  clear hR
  generalize out 2 5000 l = b1 at *
  generalize out 1 l n = b2 at *
  generalize rgB 1 100000 (p1, p2) = b3 at *
  generalize rgB 1 (l - 1) (s1, s2) = b4 at *
  generalize rgB 0 1000 (t1, t2) = b5 at *
  go_enter Tryz.func54, Tryz.ntmps54
  go_wp2_with fail
  refine (k1 _ _ _ (Ints.new1 _ _ _ _ (by simp))).mono ?_
  rintro _ w1 ⟨rfl, hb1⟩
  replace B0 : Cs w1 (w.heap.size) #[.int .i64 l, .int .i64 n, .int .i64 p1, .int .i64 p2, .int .i64 s1, .int .i64 s2, .int .i64 t1, .int .i64 t2] := Cs.keep csA hb1
  replace hbw : Below w.heap.size w w1 := blA
  replace cB0 := B0.c
  replace fB0 := B0.f
  replace lB0 := B0.lt
  clear hb1
  clear k1
  cases b1 with
  | true =>
    have hf : Hid (2 = R) := Lib.hid (by have := HR.out; simpa using this)
    clear HR k2 k3 k4 k5
    go_wp2_with fail
    go_ret
    exact ⟨ret_int hf.out, blA⟩
  | false =>
  obtain ⟨l1, l2⟩ := g1.out.1 rfl
  have hl1 : IntKind.i64.wrap (l - 1) = l - 1 := IntWalk.i64_in _ (by omega)
  go_wp2_with fail
  refine (k2 _ _ _ (Ints.new1 _ _ _ _ (by simp))).mono ?_
  rintro _ w2 ⟨rfl, hb2⟩
  replace B0 : Cs w2 (w.heap.size) #[.int .i64 l, .int .i64 n, .int .i64 p1, .int .i64 p2, .int .i64 s1, .int .i64 s2, .int .i64 t1, .int .i64 t2] := Cs.keep csA hb2
  replace hbw : Below w.heap.size w w2 := blA
  replace cB0 := B0.c
  replace fB0 := B0.f
  replace lB0 := B0.lt
  clear hb2
  clear k2
  cases b2 with
  | true =>
    have hf : Hid (2 = R) := Lib.hid (by have := HR.out; simpa using this)
    clear HR k3 k4 k5
    go_wp2_with fail
    go_ret
    exact ⟨ret_int hf.out, blA⟩
  | false =>
  obtain ⟨n1, n2⟩ := g2.out.1 rfl
  have hln : IntKind.i64.wrap (l - n) = l - n := IntWalk.i64_in _ (by omega)
  go_wp2_with fail
  refine (k3 _).mono ?_
  rintro e w3 ⟨rfl, hb3⟩
  replace B0 : Cs w3 (w.heap.size) #[.int .i64 l, .int .i64 n, .int .i64 p1, .int .i64 p2, .int .i64 s1, .int .i64 s2, .int .i64 t1, .int .i64 t2] := Cs.keep csA hb3
  replace hbw : Below w.heap.size w w3 := blA
  replace cB0 := B0.c
  replace fB0 := B0.f
  replace lB0 := B0.lt
  clear hb3
  clear k3
  cases b3 with
  | false =>
    have hf : Hid (2 = R) := Lib.hid (by have := HR.out; simpa using this)
    clear HR k4 k5
    go_wp2_with fail
    go_ret
    exact ⟨ret_int hf.out, blA⟩
  | true =>
  go_wp2_with fail
  refine (k4 _).mono ?_
  rintro e w4 ⟨rfl, hb4⟩
  replace B0 : Cs w4 (w.heap.size) #[.int .i64 l, .int .i64 n, .int .i64 p1, .int .i64 p2, .int .i64 s1, .int .i64 s2, .int .i64 t1, .int .i64 t2] := Cs.keep csA hb4
  replace hbw : Below w.heap.size w w4 := blA
  replace cB0 := B0.c
  replace fB0 := B0.f
  replace lB0 := B0.lt
  clear hb4
  clear k4
  cases b4 with
  | false =>
    have hf : Hid (2 = R) := Lib.hid (by have := HR.out; simpa using this)
    clear HR k5
    go_wp2_with fail
    go_ret
    exact ⟨ret_int hf.out, blA⟩
  | true =>
  go_wp2_with fail
  refine (k5 _).mono ?_
  rintro e w5 ⟨rfl, hb5⟩
  replace B0 : Cs w5 (w.heap.size) #[.int .i64 l, .int .i64 n, .int .i64 p1, .int .i64 p2, .int .i64 s1, .int .i64 s2, .int .i64 t1, .int .i64 t2] := Cs.keep csA hb5
  replace hbw : Below w.heap.size w w5 := blA
  replace cB0 := B0.c
  replace fB0 := B0.f
  replace lB0 := B0.lt
  clear hb5
  clear k5
  cases b5 with
  | false =>
    have hf : Hid (2 = R) := Lib.hid (by have := HR.out; simpa using this)
    clear HR
    go_wp2_with fail
    go_ret
    exact ⟨ret_int hf.out, blA⟩
  | true =>
  have HR2 : Hid ((if s1 < n then 16 else if l - n < s2 then 16 else 0) = R) := Lib.hid (by have := HR.out; simpa using this)
  clear HR
  by_cases x1 : s1 < n
  · rw [if_pos x1] at HR2
    go_wp2_with fail
    go_ret
    exact ⟨ret_int HR2.out, blA⟩
  · rw [if_neg x1] at HR2
    have d1 : decide (s1 < n) = false := by simpa using x1
    by_cases x2 : l - n < s2
    · rw [if_pos x2] at HR2
      go_wp2_with fail
      go_ret
      exact ⟨ret_int HR2.out, blA⟩
    · rw [if_neg x2] at HR2
      have d2 : decide (l - n < s2) = false := by simpa using x2
      go_wp2_with fail
      go_ret
      exact ⟨ret_int HR2.out, blA⟩

/-- what a valid bar is -/
theorem bar_ok {l n p1 p2 s1 s2 t1 t2 : Int} (h : barE l n p1 p2 s1 s2 t1 t2 = 0) : 2 ≤ l ∧ l ≤ 5000 ∧ 1 ≤ n ∧ n ≤ l ∧ 1 ≤ p1 ∧ p1 ≤ p2 ∧ p2 ≤ 100000 ∧ n ≤ s1 ∧ s1 ≤ s2 ∧ s2 ≤ l - 1 ∧ s2 ≤ l - n ∧ 0 ≤ t1 ∧ t1 ≤ t2 ∧ t2 ≤ 1000 := by
  unfold barE at h
  cases h1 : out 2 5000 l with
  | true => rw [h1] at h; simp at h
  | false =>
  cases h2 : out 1 l n with
  | true => rw [h1, h2] at h; simp at h
  | false =>
  cases h3 : rgB 1 100000 (p1, p2) with
  | false => rw [h1, h2, h3] at h; simp at h
  | true =>
  cases h4 : rgB 1 (l - 1) (s1, s2) with
  | false => rw [h1, h2, h3, h4] at h; simp at h
  | true =>
  cases h5 : rgB 0 1000 (t1, t2) with
  | false => rw [h1, h2, h3, h4, h5] at h; simp at h
  | true =>
  rw [h1, h2, h3, h4, h5] at h
  simp only [rgB, Bool.and_eq_true, decide_eq_true_eq] at h3 h4 h5
  have a1 := out_false.1 h1
  have a2 := out_false.1 h2
  simp only [Bool.false_eq_true, if_false, Bool.true_eq_false] at h
  by_cases x1 : s1 < n
  · rw [if_pos x1] at h; exact absurd h (by decide)
  · rw [if_neg x1] at h
    by_cases x2 : l - n < s2
    · rw [if_pos x2] at h; exact absurd h (by decide)
    · omega
theorem bar_of {l n p1 p2 s1 s2 t1 t2 : Int} (h : 2 ≤ l ∧ l ≤ 5000 ∧ 1 ≤ n ∧ n ≤ l ∧ 1 ≤ p1 ∧ p1 ≤ p2 ∧ p2 ≤ 100000 ∧ n ≤ s1 ∧ s1 ≤ s2 ∧ s2 ≤ l - 1 ∧ s2 ≤ l - n ∧ 0 ≤ t1 ∧ t1 ≤ t2 ∧ t2 ≤ 1000) : barE l n p1 p2 s1 s2 t1 t2 = 0 := by
  have h1 : out 2 5000 l = false := out_false.2 (by omega)
  have h2 : out 1 l n = false := out_false.2 (by omega)
  have h3 : rgB 1 100000 (p1, p2) = true := by simp [rgB]; omega
  have h4 : rgB 1 (l - 1) (s1, s2) = true := by simp [rgB]; omega
  have h5 : rgB 0 1000 (t1, t2) = true := by simp [rgB]; omega
  unfold barE
  rw [h1, h2, h3, h4, h5]
  simp only [Bool.false_eq_true, if_false, Bool.true_eq_false]
  rw [if_neg (by omega), if_neg (by omega)]

end Go.Proofs.YtminplfgadhnnaaGreatDoor
end

/- Walks of package bench: the power of a lamp, Value, Span. -/
section
namespace Go.Proofs.YtminplfgadhnnaaGreatDoor
open Go.RowKit Go.Shelf
set_option linter.unusedSimpArgs false
set_option linter.unusedVariables false
open Bm (pwr lgt)

/-- bounds of what is multiplied -/
theorem pwr_bd {l p s t : Int} (hl : l ≤ 5000) (hp : 0 ≤ p) (hp2 : p ≤ 100000) (hs : 1 ≤ s) (hs2 : s < l) (ht : 0 ≤ t) (ht2 : t ≤ 1000) :
    (0 ≤ t * s ∧ t * s ≤ 5000000) ∧ (0 ≤ t * s * s ∧ t * s * s ≤ 25000000000) ∧ (0 ≤ lgt p s t ∧ lgt p s t ≤ 100000000000) ∧ (0 ≤ lgt p s t * (l - s) ∧ lgt p s t * (l - s) ≤ 500000000000000) ∧
    (0 ≤ lgt p s t * (l - s) * (l - s) ∧ lgt p s t * (l - s) * (l - s) ≤ 2500000000000000000) ∧ (0 ≤ s * s ∧ s * s ≤ 25000000) ∧ (1 ≤ 1000000 * s * s ∧ 1000000 * s * s ≤ 25000000000000) := by
  have a1 : 0 ≤ t * s := Int.mul_nonneg ht (by omega)
  have a2 : t * s ≤ 1000 * 5000 := Bm.mul_mono ht2 (by omega) (by omega) (by omega)
  have b1 : 0 ≤ t * s * s := Int.mul_nonneg a1 (by omega)
  have b2 : t * s * s ≤ 5000000 * 5000 := Bm.mul_mono (by omega) (by omega) (by omega) (by omega)
  have c1 : 0 ≤ lgt p s t := by unfold lgt; omega
  have c2 : lgt p s t ≤ 100000000000 := by unfold lgt; omega
  have d1 : 0 ≤ lgt p s t * (l - s) := Int.mul_nonneg c1 (by omega)
  have d2 : lgt p s t * (l - s) ≤ 100000000000 * 5000 := Bm.mul_mono c2 (by omega) (by omega) (by omega)
  have e1 : 0 ≤ lgt p s t * (l - s) * (l - s) := Int.mul_nonneg d1 (by omega)
  have e2 : lgt p s t * (l - s) * (l - s) ≤ 500000000000000 * 5000 := Bm.mul_mono (by omega) (by omega) (by omega) (by omega)
  have f1 : 1 ≤ s * s := Int.mul_pos (by omega) (by omega)
  have f2 : s * s ≤ 5000 * 5000 := Bm.mul_mono (by omega) (by omega) (by omega) (by omega)
  have g : 1000000 * s * s = 1000000 * (s * s) := Int.mul_assoc ..
  exact ⟨⟨a1, by omega⟩, ⟨b1, by omega⟩, ⟨c1, c2⟩, ⟨d1, by omega⟩, ⟨e1, by omega⟩, ⟨by omega, by omega⟩, by omega, by omega⟩

set_option maxRecDepth 100000 in
set_option maxHeartbeats 1000000 in
theorem bpower_any (l n p1 p2 s1 s2 t1 t2 p s t : Int) (w : World) (hl : l ≤ 5000) (hp : 0 ≤ p) (hp2 : p ≤ 100000) (hs : 1 ≤ s) (hs2 : s < l) (ht : 0 ≤ t) (ht2 : t ≤ 1000) :
    Calls Tryz.prog 55 #[.agg #[.int .i64 l, .int .i64 n, .int .i64 p1, .int .i64 p2, .int .i64 s1, .int .i64 s2, .int .i64 t1, .int .i64 t2], .agg #[.int .i64 p, .int .i64 s, .int .i64 t]] w fun e w' => e = .returned (.agg #[.int .i64 (pwr l p s t).1, .int .i64 (pwr l p s t).2]) ∧ Below w.heap.size w w' := by
  obtain ⟨⟨a1, a2⟩, ⟨b1, b2⟩, ⟨c1, c2⟩, ⟨d1, d2⟩, ⟨e1, e2⟩, ⟨f1, f2⟩, g1, g2⟩ := pwr_bd hl hp hp2 hs hs2 ht ht2
  have k1 := fun W => ratio_any (lgt p s t * (l - s) * (l - s)) (1000000 * s * s) W e1 g1 (by omega) (by omega)
  have hlp : lgt p s t = if 0 < 1000000 * p - t * s * s then 1000000 * p - t * s * s else 0 := by unfold lgt; split <;> omega
  have Hlp := Lib.hid hlp
  clear hlp
  change ∀ W, Calls _ _ _ W fun e w' => e = .returned (.agg #[.int .i64 (pwr l p s t).1, .int .i64 (pwr l p s t).2]) ∧ _ at k1
  generalize (pwr l p s t).1 = r1 at *
  generalize (pwr l p s t).2 = r2 at *
  generalize lgt p s t = L at *
  have fw : IntKind.i64.wrap (l - s) = l - s := IntWalk.i64_in _ (by omega)
  have f0 : 0 ≤ l - s := by omega
  have f9 : l - s ≤ 5000 := by omega
  generalize hf : l - s = f at *
  have HB := Lib.hid (show (0 ≤ t * s ∧ t * s ≤ 5000000) ∧ (0 ≤ t * s * s ∧ t * s * s ≤ 25000000000) ∧ (0 ≤ L ∧ L ≤ 100000000000) ∧ (0 ≤ L * f ∧ L * f ≤ 500000000000000) ∧ (0 ≤ L * f * f ∧ L * f * f ≤ 2500000000000000000) ∧ (1 ≤ 1000000 * s * s ∧ 1000000 * s * s ≤ 25000000000000) from ⟨⟨a1, a2⟩, ⟨b1, b2⟩, ⟨c1, c2⟩, ⟨d1, d2⟩, ⟨e1, e2⟩, ⟨g1, g2⟩⟩)
  clear a1 a2 b1 b2 c1 c2 d1 d2 e1 e2 f1 f2 g1 g2
  have Hpos := Lib.hid (Classical.em (0 < 1000000 * p - t * s * s))
  rcases Hpos.out with hpos | hpos
  · have Hl2 : Hid (L = 1000000 * p - t * s * s) := Lib.hid (by rw [Hlp.out, if_pos hpos])
    have Hps := Lib.hid hpos
    clear Hlp hpos Hpos
    go_enter Tryz.func55, Tryz.ntmps55
    go_wp2_with fail
    go_quiet (fail)
    obtain ⟨⟨a1, a2⟩, ⟨b1, b2⟩, ⟨c1, c2⟩, ⟨d1, d2⟩, ⟨e1, e2⟩, ⟨g1, g2⟩⟩ := HB.out
    clear HB
    have hpos := Hps.out
    clear Hps
    obtain ⟨q1, hq1⟩ : ∃ q, t * s = q := ⟨_, rfl⟩
    rw [hq1] at a1 a2 b1 b2 hpos Hl2
    obtain ⟨q2, hq2⟩ : ∃ q, q1 * s = q := ⟨_, rfl⟩
    rw [hq2] at b1 b2 hpos Hl2
    obtain ⟨q3, hq3⟩ : ∃ q, L * f = q := ⟨_, rfl⟩
    rw [hq3] at d1 d2 e1 e2 k1
    obtain ⟨q4, hq4⟩ : ∃ q, q3 * f = q := ⟨_, rfl⟩
    rw [hq4] at e1 e2 k1
    obtain ⟨q5, hq5⟩ : ∃ q, 1000000 * s * s = q := ⟨_, rfl⟩
    rw [hq5] at g1 g2 k1
    have hL : 1000000 * p - q2 = L := Hl2.out.symm
    have hpos : 0 < L := by rw [← hL]; exact hpos
    clear Hl2
    go_wp2_with fail
    (with_reducible refine (k1 _).mono ?_)
    rintro _ w1 ⟨rfl, hb1⟩
    replace B0 : Cs w1 (w.heap.size) #[.int .i64 l, .int .i64 n, .int .i64 p1, .int .i64 p2, .int .i64 s1, .int .i64 s2, .int .i64 t1, .int .i64 t2] := Cs.keep csA hb1
    replace B1 : Cs w1 (w.heap.size + 1) #[.int .i64 p, .int .i64 s, .int .i64 t] := Cs.keep csA hb1
    replace B2 : Cs w1 (w.heap.size + 1 + 1) #[.int .i64 0, .int .i64 0] := Cs.keep csA hb1
    replace hbw : Below w.heap.size w w1 := blA
    replace cB0 := B0.c
    replace fB0 := B0.f
    replace lB0 := B0.lt
    replace cB1 := B1.c
    replace fB1 := B1.f
    replace lB1 := B1.lt
    replace cB2 := B2.c
    replace fB2 := B2.f
    replace lB2 := B2.lt
    clear hb1
    go_wp2_with fail
    exact bodyPost_ret (v := .agg #[.int .i64 r1, .int .i64 r2]) (by simp [results, Tryz.results55, go_sem, cB0, fB0, lB0, cB1, fB1, lB1, cB2, fB2, lB2]) rfl ⟨rfl, blA⟩
  · have Hl2 : Hid (L = 0) := Lib.hid (by rw [Hlp.out, if_neg hpos])
    have Hps := Lib.hid hpos
    clear Hlp hpos Hpos
    go_enter Tryz.func55, Tryz.ntmps55
    go_wp2_with fail
    go_quiet (fail)
    obtain ⟨⟨a1, a2⟩, ⟨b1, b2⟩, ⟨c1, c2⟩, ⟨d1, d2⟩, ⟨e1, e2⟩, ⟨g1, g2⟩⟩ := HB.out
    clear HB
    have hpos := Hps.out
    clear Hps
    obtain ⟨q1, hq1⟩ : ∃ q, t * s = q := ⟨_, rfl⟩
    rw [hq1] at a1 a2 b1 b2 hpos
    obtain ⟨q2, hq2⟩ : ∃ q, q1 * s = q := ⟨_, rfl⟩
    rw [hq2] at b1 b2 hpos
    obtain ⟨q3, hq3⟩ : ∃ q, L * f = q := ⟨_, rfl⟩
    rw [hq3] at d1 d2 e1 e2 k1
    obtain ⟨q4, hq4⟩ : ∃ q, q3 * f = q := ⟨_, rfl⟩
    rw [hq4] at e1 e2 k1
    obtain ⟨q5, hq5⟩ : ∃ q, 1000000 * s * s = q := ⟨_, rfl⟩
    rw [hq5] at g1 g2 k1
    obtain rfl := Hl2.out
    clear Hl2
    obtain rfl : q3 = 0 := by rw [← hq3]; simp
    obtain rfl : q4 = 0 := by rw [← hq4]; simp
    clear c1 c2 d1 d2 e1 e2 hq3 hq4
    go_wp2_with fail
    (with_reducible refine (k1 _).mono ?_)
    rintro _ w1 ⟨rfl, hb1⟩
    replace B0 : Cs w1 (w.heap.size) #[.int .i64 l, .int .i64 n, .int .i64 p1, .int .i64 p2, .int .i64 s1, .int .i64 s2, .int .i64 t1, .int .i64 t2] := Cs.keep csA hb1
    replace B1 : Cs w1 (w.heap.size + 1) #[.int .i64 p, .int .i64 s, .int .i64 t] := Cs.keep csA hb1
    replace B2 : Cs w1 (w.heap.size + 1 + 1) #[.int .i64 0, .int .i64 0] := Cs.keep csA hb1
    replace hbw : Below w.heap.size w w1 := blA
    replace cB0 := B0.c
    replace fB0 := B0.f
    replace lB0 := B0.lt
    replace cB1 := B1.c
    replace fB1 := B1.f
    replace lB1 := B1.lt
    replace cB2 := B2.c
    replace fB2 := B2.f
    replace lB2 := B2.lt
    clear hb1
    go_wp2_with fail
    exact bodyPost_ret (v := .agg #[.int .i64 r1, .int .i64 r2]) (by simp [results, Tryz.results55, go_sem, cB0, fB0, lB0, cB1, fB1, lB1, cB2, fB2, lB2]) rfl ⟨rfl, blA⟩

end Go.Proofs.YtminplfgadhnnaaGreatDoor
end

/- Walks of package bench: Value, Span. -/
section
namespace Go.Proofs.YtminplfgadhnnaaGreatDoor
open Go.RowKit Go.Shelf
set_option linter.unusedSimpArgs false
set_option linter.unusedVariables false
open Bm (pwr)

/-- something is a truth of a bar -/
def inT (p1 p2 s1 s2 t1 t2 p s t : Int) : Bool := !out p1 p2 p && (!out s1 s2 s && !out t1 t2 t)
def valE (l n p1 p2 s1 s2 t1 t2 p s t : Int) : (Int × Int) × Int :=
  if barE l n p1 p2 s1 s2 t1 t2 ≠ 0 then ((0, 0), barE l n p1 p2 s1 s2 t1 t2) else if inT p1 p2 s1 s2 t1 t2 p s t then (pwr l p s t, 0) else ((0, 0), 3)
def spaE (l n p1 p2 s1 s2 t1 t2 : Int) : ((Int × Int) × (Int × Int)) × Int :=
  if barE l n p1 p2 s1 s2 t1 t2 ≠ 0 then (((0, 0), (0, 0)), barE l n p1 p2 s1 s2 t1 t2) else ((pwr l p1 s2 t2, pwr l p2 s1 t1), 0)
theorem ret_v {a b c a' b' c' : Int} (h1 : a = a') (h2 : b = b') (h3 : c = c') : Ending.returned (.tuple #[.agg #[.int .i64 a, .int .i64 b], .int .i64 c]) = .returned (.tuple #[.agg #[.int .i64 a', .int .i64 b'], .int .i64 c']) := by rw [h1, h2, h3]

set_option maxRecDepth 100000 in
set_option maxHeartbeats 4000000 in
theorem value_any (l n p1 p2 s1 s2 t1 t2 p s t : Int) (w : World) :
    Calls Tryz.prog 24 #[.agg #[.int .i64 l, .int .i64 n, .int .i64 p1, .int .i64 p2, .int .i64 s1, .int .i64 s2, .int .i64 t1, .int .i64 t2], .agg #[.int .i64 p, .int .i64 s, .int .i64 t]] w fun e w' => e = .returned (.tuple #[.agg #[.int .i64 (valE l n p1 p2 s1 s2 t1 t2 p s t).1.1, .int .i64 (valE l n p1 p2 s1 s2 t1 t2 p s t).1.2], .int .i64 (valE l n p1 p2 s1 s2 t1 t2 p s t).2]) ∧ Below w.heap.size w w' := by
  have k1 := fun W => checkBar_any l n p1 p2 s1 s2 t1 t2 W
  by_cases h0 : barE l n p1 p2 s1 s2 t1 t2 = 0
  · have hok := bar_ok h0
    have k2 := fun A c W hz => within_any p1 p2 A 1 c [p] W hz (by omega)
    have k3 := fun A c W hz => within_any s1 s2 A 1 c [s] W hz (by omega)
    have k4 := fun A c W hz => within_any t1 t2 A 1 c [t] W hz (by omega)
    rw [all_one] at k2 k3 k4
    have e : valE l n p1 p2 s1 s2 t1 t2 p s t = if inT p1 p2 s1 s2 t1 t2 p s t then (pwr l p s t, 0) else ((0, 0), 3) := by unfold valE; rw [if_neg (by simpa using h0)]
    rw [e]
    rw [h0] at k1
    have g2 := out_false (lo := p1) (hi := p2) (x := p)
    have g3 := out_false (lo := s1) (hi := s2) (x := s)
    have g4 := out_false (lo := t1) (hi := t2) (x := t)
    unfold inT
    have kp := fun (W : World) (h2 : out p1 p2 p = false) (h3 : out s1 s2 s = false) (h4 : out t1 t2 t = false) => bpower_any l n p1 p2 s1 s2 t1 t2 p s t W (by omega) (by have := g2.1 h2; omega) (by have := g2.1 h2; omega) (by have := g3.1 h3; omega) (by have := g3.1 h3; omega) (by have := g4.1 h4; omega) (by have := g4.1 h4; omega)
    clear h0 hok g2 g3 g4 e
    generalize out p1 p2 p = b2 at *
    generalize out s1 s2 s = b3 at *
    generalize out t1 t2 t = b4 at *
    generalize pwr l p s t = r at *
    have Hkp := Lib.hid kp
    clear kp
    go_enter Tryz.func24, Tryz.ntmps24
    go_wp2_with fail
    refine (k1 _).mono ?_
    rintro e w1 ⟨rfl, hb1⟩
    replace B0 : Cs w1 (w.heap.size) #[.int .i64 l, .int .i64 n, .int .i64 p1, .int .i64 p2, .int .i64 s1, .int .i64 s2, .int .i64 t1, .int .i64 t2] := Cs.keep csA hb1
    replace B1 : Cs w1 (w.heap.size + 1) #[.int .i64 p, .int .i64 s, .int .i64 t] := Cs.keep csA hb1
    replace B2 : Cs w1 (w.heap.size + 1 + 1) #[.int .i64 0, .int .i64 0] := Cs.keep csA hb1
    replace hbw : Below w.heap.size w w1 := blA
    replace cB0 := B0.c
    replace fB0 := B0.f
    replace lB0 := B0.lt
    replace cB1 := B1.c
    replace fB1 := B1.f
    replace lB1 := B1.lt
    replace cB2 := B2.c
    replace fB2 := B2.f
    replace lB2 := B2.lt
    clear hb1
    clear k1
    go_wp2_with fail
    refine (k2 _ _ _ (Ints.new1 _ _ _ _ (by simp))).mono ?_
    rintro _ w2 ⟨rfl, hb2⟩
    replace B0 : Cs w2 (w.heap.size) #[.int .i64 l, .int .i64 n, .int .i64 p1, .int .i64 p2, .int .i64 s1, .int .i64 s2, .int .i64 t1, .int .i64 t2] := Cs.keep csA hb2
    replace B1 : Cs w2 (w.heap.size + 1) #[.int .i64 p, .int .i64 s, .int .i64 t] := Cs.keep csA hb2
    replace B2 : Cs w2 (w.heap.size + 1 + 1) #[.int .i64 0, .int .i64 0] := Cs.keep csA hb2
    replace B3 : Cs w2 (w1.heap.size) #[.int .i64 l, .int .i64 n, .int .i64 p1, .int .i64 p2, .int .i64 s1, .int .i64 s2, .int .i64 t1, .int .i64 t2] := Cs.keep csA hb2
    replace hbw : Below w.heap.size w w2 := blA
    replace cB0 := B0.c
    replace fB0 := B0.f
    replace lB0 := B0.lt
    replace cB1 := B1.c
    replace fB1 := B1.f
    replace lB1 := B1.lt
    replace cB2 := B2.c
    replace fB2 := B2.f
    replace lB2 := B2.lt
    replace cB3 := B3.c
    replace fB3 := B3.f
    replace lB3 := B3.lt
    clear hb2
    clear k2
    cases b2 with
    | true =>
      clear Hkp k3 k4
      go_wp2_with fail
      exact bodyPost_ret (v := .tuple #[.agg #[.int .i64 0, .int .i64 0], .int .i64 3]) (by simp [results, Tryz.results24, go_sem, cB0, fB0, lB0, cB1, fB1, lB1, cB2, fB2, lB2, cB3, fB3, lB3]) rfl ⟨rfl, blA⟩
    | false =>
    replace Hkp := Lib.hid (fun W => Hkp.out W rfl)
    go_wp2_with fail
    refine (k3 _ _ _ (Ints.new1 _ _ _ _ (by simp))).mono ?_
    rintro _ w3 ⟨rfl, hb3⟩
    replace B0 : Cs w3 (w.heap.size) #[.int .i64 l, .int .i64 n, .int .i64 p1, .int .i64 p2, .int .i64 s1, .int .i64 s2, .int .i64 t1, .int .i64 t2] := Cs.keep csA hb3
    replace B1 : Cs w3 (w.heap.size + 1) #[.int .i64 p, .int .i64 s, .int .i64 t] := Cs.keep csA hb3
    replace B2 : Cs w3 (w.heap.size + 1 + 1) #[.int .i64 0, .int .i64 0] := Cs.keep csA hb3
    replace B3 : Cs w3 (w1.heap.size) #[.int .i64 l, .int .i64 n, .int .i64 p1, .int .i64 p2, .int .i64 s1, .int .i64 s2, .int .i64 t1, .int .i64 t2] := Cs.keep csA hb3
    replace hbw : Below w.heap.size w w3 := blA
    replace cB0 := B0.c
    replace fB0 := B0.f
    replace lB0 := B0.lt
    replace cB1 := B1.c
    replace fB1 := B1.f
    replace lB1 := B1.lt
    replace cB2 := B2.c
    replace fB2 := B2.f
    replace lB2 := B2.lt
    replace cB3 := B3.c
    replace fB3 := B3.f
    replace lB3 := B3.lt
    clear hb3
    clear k3
    cases b3 with
    | true =>
      clear Hkp k4
      go_wp2_with fail
      exact bodyPost_ret (v := .tuple #[.agg #[.int .i64 0, .int .i64 0], .int .i64 3]) (by simp [results, Tryz.results24, go_sem, cB0, fB0, lB0, cB1, fB1, lB1, cB2, fB2, lB2, cB3, fB3, lB3]) rfl ⟨rfl, blA⟩
    | false =>
    replace Hkp := Lib.hid (fun W => Hkp.out W rfl)
    go_wp2_with fail
    refine (k4 _ _ _ (Ints.new1 _ _ _ _ (by simp))).mono ?_
    rintro _ w4 ⟨rfl, hb4⟩
    replace B0 : Cs w4 (w.heap.size) #[.int .i64 l, .int .i64 n, .int .i64 p1, .int .i64 p2, .int .i64 s1, .int .i64 s2, .int .i64 t1, .int .i64 t2] := Cs.keep csA hb4
    replace B1 : Cs w4 (w.heap.size + 1) #[.int .i64 p, .int .i64 s, .int .i64 t] := Cs.keep csA hb4
    replace B2 : Cs w4 (w.heap.size + 1 + 1) #[.int .i64 0, .int .i64 0] := Cs.keep csA hb4
    replace B3 : Cs w4 (w1.heap.size) #[.int .i64 l, .int .i64 n, .int .i64 p1, .int .i64 p2, .int .i64 s1, .int .i64 s2, .int .i64 t1, .int .i64 t2] := Cs.keep csA hb4
    replace hbw : Below w.heap.size w w4 := blA
    replace cB0 := B0.c
    replace fB0 := B0.f
    replace lB0 := B0.lt
    replace cB1 := B1.c
    replace fB1 := B1.f
    replace lB1 := B1.lt
    replace cB2 := B2.c
    replace fB2 := B2.f
    replace lB2 := B2.lt
    replace cB3 := B3.c
    replace fB3 := B3.f
    replace lB3 := B3.lt
    clear hb4
    clear k4
    cases b4 with
    | true =>
      clear Hkp
      go_wp2_with fail
      exact bodyPost_ret (v := .tuple #[.agg #[.int .i64 0, .int .i64 0], .int .i64 3]) (by simp [results, Tryz.results24, go_sem, cB0, fB0, lB0, cB1, fB1, lB1, cB2, fB2, lB2, cB3, fB3, lB3]) rfl ⟨rfl, blA⟩
    | false =>
    obtain ⟨r1, r2⟩ := r
    have kp := fun W => Hkp.out W rfl
    clear Hkp
    dsimp only at kp
    go_wp2_with fail
    refine (kp _).mono ?_
    rintro _ w5 ⟨rfl, hb5⟩
    try clear cB0 fB0 lB0
    try clear B0
    try clear cB1 fB1 lB1
    try clear B1
    try clear cB3 fB3 lB3
    try clear B3
    replace B2 : Cs w5 (w.heap.size + 1 + 1) #[.int .i64 0, .int .i64 0] := Cs.keep csA hb5
    replace hbw : Below w.heap.size w w5 := blA
    replace cB2 := B2.c
    replace fB2 := B2.f
    replace lB2 := B2.lt
    clear hb5
    clear kp
    go_wp2_with fail
    exact bodyPost_ret (v := .tuple #[.agg #[.int .i64 r1, .int .i64 r2], .int .i64 0]) (by simp [results, Tryz.results24, go_sem, cB2, fB2, lB2]) rfl ⟨rfl, blA⟩
  · have e : valE l n p1 p2 s1 s2 t1 t2 p s t = ((0, 0), barE l n p1 p2 s1 s2 t1 t2) := by unfold valE; rw [if_pos h0]
    rw [e]
    generalize barE l n p1 p2 s1 s2 t1 t2 = q at *
    have x1 : (q != 0) = true := by simpa using h0
    have x2 : (q == 0) = false := by simpa using h0
    clear e
    go_enter Tryz.func24, Tryz.ntmps24
    go_wp2_with fail
    refine (k1 _).mono ?_
    rintro e w1 ⟨rfl, hb1⟩
    replace B2 : Cs w1 (w.heap.size + 1 + 1) #[.int .i64 0, .int .i64 0] := Cs.keep csA hb1
    replace hbw : Below w.heap.size w w1 := blA
    replace cB2 := B2.c
    replace fB2 := B2.f
    replace lB2 := B2.lt
    clear hb1
    clear k1
    go_wp2_with fail
    exact bodyPost_ret (v := .tuple #[.agg #[.int .i64 0, .int .i64 0], .int .i64 q]) (by simp [results, Tryz.results24, go_sem, cB2, fB2, lB2]) rfl ⟨rfl, blA⟩

set_option maxRecDepth 100000 in
set_option maxHeartbeats 4000000 in
theorem span_any (l n p1 p2 s1 s2 t1 t2 : Int) (w : World) :
    Calls Tryz.prog 25 #[.agg #[.int .i64 l, .int .i64 n, .int .i64 p1, .int .i64 p2, .int .i64 s1, .int .i64 s2, .int .i64 t1, .int .i64 t2]] w fun e w' => e = .returned (.tuple #[.agg #[.int .i64 (spaE l n p1 p2 s1 s2 t1 t2).1.1.1, .int .i64 (spaE l n p1 p2 s1 s2 t1 t2).1.1.2, .int .i64 (spaE l n p1 p2 s1 s2 t1 t2).1.2.1, .int .i64 (spaE l n p1 p2 s1 s2 t1 t2).1.2.2], .int .i64 (spaE l n p1 p2 s1 s2 t1 t2).2]) ∧ Below w.heap.size w w' := by
  have k1 := fun W => checkBar_any l n p1 p2 s1 s2 t1 t2 W
  by_cases h0 : barE l n p1 p2 s1 s2 t1 t2 = 0
  · have hok := bar_ok h0
    have e : spaE l n p1 p2 s1 s2 t1 t2 = ((pwr l p1 s2 t2, pwr l p2 s1 t1), 0) := by unfold spaE; rw [if_neg (by simpa using h0)]
    rw [e]
    rw [h0] at k1
    have kp := fun (W : World) => bpower_any l n p1 p2 s1 s2 t1 t2 p1 s2 t2 W (by omega) (by omega) (by omega) (by omega) (by omega) (by omega) (by omega)
    have kq := fun (W : World) => bpower_any l n p1 p2 s1 s2 t1 t2 p2 s1 t1 W (by omega) (by omega) (by omega) (by omega) (by omega) (by omega) (by omega)
    clear h0 hok e
    generalize pwr l p1 s2 t2 = r at *
    generalize pwr l p2 s1 t1 = r' at *
    obtain ⟨a, b⟩ := r
    obtain ⟨c, d⟩ := r'
    dsimp only at kp kq
    go_enter Tryz.func25, Tryz.ntmps25
    go_wp2_with fail
    refine (k1 _).mono ?_
    rintro e w1 ⟨rfl, hb1⟩
    replace B0 : Cs w1 (w.heap.size) #[.int .i64 l, .int .i64 n, .int .i64 p1, .int .i64 p2, .int .i64 s1, .int .i64 s2, .int .i64 t1, .int .i64 t2] := Cs.keep csA hb1
    replace B1 : Cs w1 (w.heap.size + 1) #[.int .i64 0, .int .i64 0, .int .i64 0, .int .i64 0] := Cs.keep csA hb1
    replace hbw : Below w.heap.size w w1 := blA
    replace cB0 := B0.c
    replace fB0 := B0.f
    replace lB0 := B0.lt
    replace cB1 := B1.c
    replace fB1 := B1.f
    replace lB1 := B1.lt
    clear hb1
    clear k1
    go_wp2_with fail
    refine (kp _).mono ?_
    rintro _ w2 ⟨rfl, hb2⟩
    replace B0 : Cs w2 (w.heap.size) #[.int .i64 l, .int .i64 n, .int .i64 p1, .int .i64 p2, .int .i64 s1, .int .i64 s2, .int .i64 t1, .int .i64 t2] := Cs.keep csA hb2
    replace B1 : Cs w2 (w.heap.size + 1) #[.int .i64 0, .int .i64 0, .int .i64 0, .int .i64 0] := Cs.keep csA hb2
    replace hbw : Below w.heap.size w w2 := blA
    replace cB0 := B0.c
    replace fB0 := B0.f
    replace lB0 := B0.lt
    replace cB1 := B1.c
    replace fB1 := B1.f
    replace lB1 := B1.lt
    clear hb2
    clear kp
    go_wp2_with fail
    refine (kq _).mono ?_
    rintro _ w3 ⟨rfl, hb3⟩
    replace B0 : Cs w3 (w.heap.size) #[.int .i64 l, .int .i64 n, .int .i64 p1, .int .i64 p2, .int .i64 s1, .int .i64 s2, .int .i64 t1, .int .i64 t2] := Cs.keep csA hb3
    replace B1 : Cs w3 (w.heap.size + 1) #[.int .i64 0, .int .i64 0, .int .i64 0, .int .i64 0] := Cs.keep csA hb3
    replace B2 : Cs w3 (w2.heap.size) #[.int .i64 a, .int .i64 b] := Cs.keep csA hb3
    replace hbw : Below w.heap.size w w3 := blA
    replace cB0 := B0.c
    replace fB0 := B0.f
    replace lB0 := B0.lt
    replace cB1 := B1.c
    replace fB1 := B1.f
    replace lB1 := B1.lt
    replace cB2 := B2.c
    replace fB2 := B2.f
    replace lB2 := B2.lt
    clear hb3
    clear kq
    go_wp2_with fail
    exact bodyPost_ret (v := .tuple #[.agg #[.int .i64 a, .int .i64 b, .int .i64 c, .int .i64 d], .int .i64 0]) (by simp [results, Tryz.results25, go_sem, cB0, fB0, lB0, cB1, fB1, lB1, cB2, fB2, lB2]) rfl ⟨rfl, blA⟩
  · have e : spaE l n p1 p2 s1 s2 t1 t2 = (((0, 0), (0, 0)), barE l n p1 p2 s1 s2 t1 t2) := by unfold spaE; rw [if_pos h0]
    rw [e]
    generalize barE l n p1 p2 s1 s2 t1 t2 = q at *
    have x1 : (q != 0) = true := by simpa using h0
    have x2 : (q == 0) = false := by simpa using h0
    clear e
    go_enter Tryz.func25, Tryz.ntmps25
    go_wp2_with fail
    refine (k1 _).mono ?_
    rintro e w1 ⟨rfl, hb1⟩
    replace B1 : Cs w1 (w.heap.size + 1) #[.int .i64 0, .int .i64 0, .int .i64 0, .int .i64 0] := Cs.keep csA hb1
    replace hbw : Below w.heap.size w w1 := blA
    replace cB1 := B1.c
    replace fB1 := B1.f
    replace lB1 := B1.lt
    clear hb1
    clear k1
    go_wp2_with fail
    exact bodyPost_ret (v := .tuple #[.agg #[.int .i64 0, .int .i64 0, .int .i64 0, .int .i64 0], .int .i64 q]) (by simp [results, Tryz.results25, go_sem, cB1, fB1, lB1]) rfl ⟨rfl, blA⟩

end Go.Proofs.YtminplfgadhnnaaGreatDoor
end
