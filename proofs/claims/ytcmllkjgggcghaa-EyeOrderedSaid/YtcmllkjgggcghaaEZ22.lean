/- EH1 EH2 EM6 -/
import Derived.Test.YtcmllkjgggcghaaEZ07
import Derived.Test.YtcmllkjgggcghaaEZ01
import Derived.Test.YtcmllkjgggcghaaEZ03
/- Walks of layer 10: the reference's Less; small functions of the law package. -/
section
namespace Go.Proofs.Ytcmllkjgggcghaa
open Go.RowKit Go.Shelf
set_option linter.unusedSimpArgs false
set_option linter.unusedVariables false
open Em (isCh red)

/-- a fraction p / q is less than r / s, or greater if turned -/
def lessQ (p q r s : Int) (t : Bool) : Bool := if p * s = r * q then false else (decide (p * s < r * q) != t)

theorem part_lt {p q r s : Int} (hp : 0 ≤ p) (hr : 0 ≤ r) (hq : 1 ≤ q) (hs : 1 ≤ s) (h : p / q < r / s) : p * s < r * q := by
  have h1 : p < (p / q + 1) * q := Int.lt_ediv_add_one_mul_self _ (by omega)
  have h2 : (p / q + 1) * q ≤ r / s * q := Int.mul_le_mul_of_nonneg_right (by omega) (by omega)
  have h3 : r / s * s ≤ r := Int.ediv_mul_le _ (by omega)
  have h4 : p * s < r / s * q * s := Int.mul_lt_mul_of_pos_right (by omega) (by omega)
  have h5 : r / s * s * q ≤ r * q := Int.mul_le_mul_of_nonneg_right h3 (by omega)
  have h6 : r / s * q * s = r / s * s * q := by rw [Int.mul_assoc, Int.mul_comm q s, ← Int.mul_assoc]
  omega
theorem lessQ_parts {p q r s : Int} {t : Bool} (hp : 0 ≤ p) (hr : 0 ≤ r) (hq : 1 ≤ q) (hs : 1 ≤ s) (h : p / q ≠ r / s) : (decide (p / q < r / s) != t) = lessQ p q r s t := by
  unfold lessQ
  rcases Int.lt_or_gt_of_ne h with h1 | h1
  · have := part_lt hp hr hq hs h1
    rw [if_neg (by omega), decide_eq_true h1, decide_eq_true this]
  · have := part_lt hr hp hs hq h1
    rw [if_neg (by omega), decide_eq_false (by omega), decide_eq_false (by omega)]
theorem rest_same {p q r s : Int} (h : p / q = r / s) : p * s - r * q = p % q * s - r % s * q := by
  have h1 := Int.mul_ediv_add_emod p q
  have h2 := Int.mul_ediv_add_emod r s
  rw [h] at h1
  have e1 : p * s = q * (r / s) * s + p % q * s := by rw [← Int.add_mul, h1]
  have e2 : r * q = s * (r / s) * q + r % s * q := by rw [← Int.add_mul, h2]
  have e3 : q * (r / s) * s = s * (r / s) * q := by rw [Int.mul_comm (q * (r / s)) s, Int.mul_comm q, Int.mul_assoc]
  omega
theorem lessQ_rest {p q r s u v : Int} {t : Bool} (h : p / q = r / s) (hu : u = p % q) (hv : v = r % s) : lessQ p q r s t = lessQ u q v s t := by
  subst hu hv
  have := rest_same h
  unfold lessQ
  by_cases h1 : p * s = r * q
  · rw [if_pos h1, if_pos (by omega)]
  · rw [if_neg h1, if_neg (by omega)]
    by_cases h2 : p * s < r * q
    · rw [decide_eq_true h2, decide_eq_true (by omega)]
    · rw [decide_eq_false h2, decide_eq_false (by omega)]
theorem lessQ_turn (u q v s : Int) (t : Bool) : lessQ u q v s t = lessQ q u s v (!t) := by
  unfold lessQ
  have e1 : q * v = v * q := Int.mul_comm _ _
  have e2 : s * u = u * s := Int.mul_comm _ _
  rw [e1, e2]
  by_cases h1 : u * s = v * q
  · rw [if_pos h1, if_pos h1.symm]
  · rw [if_neg h1, if_neg (Ne.symm h1)]
    by_cases h2 : u * s < v * q
    · rw [decide_eq_true h2, decide_eq_false (by omega)]; cases t <;> rfl
    · rw [decide_eq_false h2, decide_eq_true (by omega)]; cases t <;> rfl
theorem lessQ_zero {u q v s : Int} {t : Bool} (hq : 1 ≤ q) (hs : 1 ≤ s) (hu : 0 ≤ u) (hv : 0 ≤ v) (h : u = 0 ∨ v = 0) : (decide (u ≠ v) && (decide (u = 0) != t)) = lessQ u q v s t := by
  unfold lessQ
  by_cases h1 : u = 0
  · subst h1
    by_cases h2 : v = 0
    · subst h2; simp
    · have : 0 < v * q := Int.mul_pos (by omega) (by omega)
      rw [if_neg (by omega), decide_eq_true (by omega), decide_eq_true rfl, decide_eq_true (by omega)]
      rfl
  · obtain rfl : v = 0 := by omega
    have : 0 < u * s := Int.mul_pos (by omega) (by omega)
    rw [if_neg (by omega), decide_eq_true (by omega), decide_eq_false h1, decide_eq_false (by omega)]
    rfl

def cellN (w : World) (a : Addr) : Nat := match w.cell? a with | some (.int _ v) => v.toNat | _ => 0

set_option maxHeartbeats 4000000 in
theorem less_any (p0 q0 r0 s0 : Int) (w : World) (hp : 0 ≤ p0) (hr : 0 ≤ r0) (hq : 1 ≤ q0) (hs : 1 ≤ s0) (hP : p0 ≤ 9223372036854775807) (hQ : q0 ≤ 9223372036854775807) (hR : r0 ≤ 9223372036854775807) (hS : s0 ≤ 9223372036854775807)
    (x : Bool) (hx : x = decide (p0 * s0 < r0 * q0)) :
    Calls Try.prog 29 #[.agg #[.int .i64 p0, .int .i64 q0], .agg #[.int .i64 r0, .int .i64 s0]] w fun e w' => e = .returned (.bool x) ∧ Below w.heap.size w w' := by
  have hX : Hid (lessQ p0 q0 r0 s0 false = x) := Lib.hid (by
    rw [hx]; unfold lessQ
    by_cases h : p0 * s0 = r0 * q0
    · rw [if_pos h, decide_eq_false (by omega)]
    · rw [if_neg h]; simp)
  clear hx
  go_enter Try.func29, Try.ntmps29
  go_wp2_with fail
  go_loopw [5] (fun s5 wx => ∃ (p q r s : Int) (t : Bool) (W : World), s5 = .bool t ∧ Hid (W = wx) ∧ 0 ≤ p ∧ 0 ≤ r ∧ 1 ≤ q ∧ 1 ≤ s ∧ p ≤ 9223372036854775807 ∧ q ≤ 9223372036854775807 ∧ r ≤ 9223372036854775807 ∧ s ≤ 9223372036854775807 ∧ Hid (lessQ p q r s t = x) ∧ Cs W w.heap.size #[.int .i64 p, .int .i64 q] ∧ Cs W (w.heap.size + 1) #[.int .i64 r, .int .i64 s] ∧ Below w.heap.size w W) (fun _ wx => cellN wx ⟨w.heap.size, 1, none⟩)
  case atStart => exact ⟨p0, q0, r0, s0, false, _, rfl, Lib.hid rfl, hp, hr, hq, hs, hP, hQ, hR, hS, hX, csA, csA, blA⟩
  case round =>
    clear hX hp hr hq hs hP hQ hR hS
    obtain ⟨p, q, r, s, t, W, rfl, HW, hp, hr, hq, hs, hP, hQ, hR, hS, hX, B0, B1, hbw⟩ := hrel
    obtain rfl := HW.out
    have cB0 := B0.c
    have fB0 := B0.f
    have lB0 := B0.lt
    have cB1 := B1.c
    have fB1 := B1.f
    have lB1 := B1.lt
    have q0' : (q == 0) = false := by simp; omega
    have s0' : (s == 0) = false := by simp; omega
    have a1 : 0 ≤ p / q := Int.ediv_nonneg hp (by omega)
    have a2 : 0 ≤ r / s := Int.ediv_nonneg hr (by omega)
    have a3 : p / q ≤ p := Int.ediv_le_self _ hp
    have a4 : r / s ≤ r := Int.ediv_le_self _ hr
    have f1 : p.tdiv q = p / q := Int.tdiv_eq_ediv_of_nonneg hp
    have f2 : r.tdiv s = r / s := Int.tdiv_eq_ediv_of_nonneg hr
    have f3 : IntKind.i64.wrap (p / q) = p / q := IntWalk.i64_in _ (by omega)
    have f4 : IntKind.i64.wrap (r / s) = r / s := IntWalk.i64_in _ (by omega)
    have u0 := Int.emod_nonneg p (b := q) (by omega)
    have u1 := Int.emod_lt_of_pos p (b := q) (by omega)
    have v0 := Int.emod_nonneg r (b := s) (by omega)
    have v1 := Int.emod_lt_of_pos r (b := s) (by omega)
    have u2 := Int.mul_ediv_add_emod p q
    have v2 := Int.mul_ediv_add_emod r s
    have cu : p / q * q = q * (p / q) := Int.mul_comm _ _
    have cv : r / s * s = s * (r / s) := Int.mul_comm _ _
    have m1 : 0 ≤ q * (p / q) := Int.mul_nonneg (by omega) a1
    have m2 : 0 ≤ s * (r / s) := Int.mul_nonneg (by omega) a2
    have g1 : IntKind.i64.wrap (p / q * q) = p / q * q := IntWalk.i64_in _ (by omega)
    have g2 : IntKind.i64.wrap (r / s * s) = r / s * s := IntWalk.i64_in _ (by omega)
    have g3 : IntKind.i64.wrap (p - p / q * q) = p % q := by rw [show p - p / q * q = p % q by omega]; exact IntWalk.i64_in _ (by omega)
    have g4 : IntKind.i64.wrap (r - r / s * s) = r % s := by rw [show r - r / s * s = r % s by omega]; exact IntWalk.i64_in _ (by omega)
    have d1 := fun h => lessQ_parts (t := t) hp hr hq hs h
    have d2 := fun h => lessQ_rest (p := p) (q := q) (r := r) (s := s) (t := t) h rfl rfl
    clear u2 v2 cu cv m1 m2
    generalize p / q = P at *
    generalize r / s = Q at *
    generalize p % q = u at *
    generalize r % s = v at *
    have hn : ¬ (p < 0) := by omega
    have hn2 : ¬ (r < 0) := by omega
    have hn3 : ¬ (q < 1) := by omega
    have hn4 : ¬ (s < 1) := by omega
    by_cases hPQ : P = Q
    · have d3 := Lib.hid (d2 hPQ)
      clear d1 d2
      subst hPQ
      by_cases huv : u = 0 ∨ v = 0
      · have hfin : Hid ((decide (u ≠ v) && (decide (u = 0) != t)) = x) := Lib.hid (by rw [lessQ_zero hq hs u0 v0 huv, ← d3.out]; exact hX.out)
        clear d3 hX
        rcases Decidable.em (u = 0) with hu | hu
        · subst hu
          rcases Decidable.em (v = 0) with hv | hv
          · subst hv
            go_wp2_with fail
            go_quiet (fail)
            go_wp2_with fail
            go_quiet (fail)
            go_wp2_with fail
            go_ret
            exact ⟨ret_bool (by rw [← hfin.out]; simp), blA⟩
          · go_wp2_with fail
            go_quiet (fail)
            go_wp2_with fail
            go_quiet (fail)
            go_wp2_with fail
            go_ret
            exact ⟨ret_bool (by rw [← hfin.out]; (have hv' : ¬ (0 : Int) = v := (fun h => hv h.symm)); (cases t <;> simp [hv, hv'])), blA⟩
        · obtain rfl : v = 0 := by omega
          go_wp2_with fail
          go_quiet (fail)
          go_wp2_with fail
          go_quiet (fail)
          go_wp2_with fail
          go_ret
          exact ⟨ret_bool (by rw [← hfin.out]; cases t <;> simp [hu]), blA⟩
      · have hu : ¬ u = 0 := by omega
        have hv : ¬ v = 0 := by omega
        have hu' : (u == 0) = false := by simp; omega
        have hv' : (v == 0) = false := by simp; omega
        have hX2 : Hid (lessQ q u s v (!t) = x) := Lib.hid (by rw [← lessQ_turn, ← d3.out]; exact hX.out)
        clear d3 hX
        go_wp2_with fail
        go_quiet (fail)
        go_wp2_with fail
        go_quiet (fail)
        go_wp2_with fail
        go_region
        go_wp2_with fail
        go_roundw
        case rel => exact ⟨q, u, s, v, !t, _, rfl, Lib.hid rfl, by omega, by omega, by omega, by omega, by omega, by omega, by omega, by omega, hX2, Cs.other2 (Cs.set2 (B0.drewN _) _ _) (by simp) _ _, Cs.set2 (Cs.other2 (B1.drewN _) (by simp) _ _) _ _, blA⟩
        case measure =>
          simp only [cellN]
          rw [(Cs.other2 (Cs.set2 (B0.drewN _) _ _) (by simp) _ _ : Cs _ w.heap.size #[.int .i64 q, .int .i64 u]).c 1, B0.c 1]
          simp
          omega
    · have d3 := Lib.hid (d1 hPQ)
      clear d1 d2
      have hfin : Hid ((decide (P < Q) != t) = x) := Lib.hid (by rw [d3.out]; exact hX.out)
      clear d3 hX
      go_wp2_with fail
      go_quiet (fail)
      go_wp2_with fail
      go_ret
      exact ⟨ret_bool hfin.out, blA⟩

end Go.Proofs.Ytcmllkjgggcghaa
end

/- Walks of layer 10: small functions of the law package. -/
section
namespace Go.Proofs.Ytcmllkjgggcghaa
open Go.RowKit Go.Shelf
set_option linter.unusedSimpArgs false
set_option linter.unusedVariables false
open Em (isCh red)

/-- a chance, by two numbers; with a bound on Den -/
def chP (m n d : Int) : Int × Int := red (n % (1 + d % m + 1)) (1 + d % m)

set_option maxHeartbeats 1000000 in
theorem chance_any (n d : Int) (w : World) (hn : 0 ≤ n ∧ n ≤ 255) (hd : 0 ≤ d ∧ d ≤ 255) :
    Calls Try.prog 26 #[.int .u8 n, .int .u8 d] w fun e w' => e = .returned (.agg #[.int .i64 (chP 10 n d).1, .int .i64 (chP 10 n d).2]) ∧ Below w.heap.size w w' := by
  have f0 : IntKind.i64.wrap n = n := IntWalk.i64_in _ (by omega)
  have f1 : IntKind.i64.wrap d = d := IntWalk.i64_in _ (by omega)
  have t1 : d.tmod 10 = d % 10 := Int.tmod_eq_emod_of_nonneg hd.1
  have r0 := Int.emod_nonneg d (b := 10) (by omega)
  have r1 := Int.emod_lt_of_pos d (b := 10) (by omega)
  have f2 : IntKind.i64.wrap (d % 10) = d % 10 := IntWalk.i64_in _ (by omega)
  have f3 : IntKind.i64.wrap (1 + d % 10) = 1 + d % 10 := IntWalk.i64_in _ (by omega)
  have f4 : IntKind.i64.wrap (1 + d % 10 + 1) = 1 + d % 10 + 1 := IntWalk.i64_in _ (by omega)
  have g0 : (1 + d % 10 + 1 == 0) = false := by simp; omega
  have t2 : n.tmod (1 + d % 10 + 1) = n % (1 + d % 10 + 1) := Int.tmod_eq_emod_of_nonneg hn.1
  have s0 := Int.emod_nonneg n (b := 1 + d % 10 + 1) (by omega)
  have s1 := Int.emod_lt_of_pos n (b := 1 + d % 10 + 1) (by omega)
  have f5 : IntKind.i64.wrap (n % (1 + d % 10 + 1)) = n % (1 + d % 10 + 1) := IntWalk.i64_in _ (by omega)
  have k := fun W => fraction_any (n % (1 + d % 10 + 1)) (1 + d % 10) W s0 (by omega) (by omega) (by omega)
  unfold chP
  generalize red (n % (1 + d % 10 + 1)) (1 + d % 10) = R at *
  go_enter Try.func26, Try.ntmps26
  go_wp2_with fail
  refine (k _).mono ?_
  rintro e w1 ⟨rfl, hb1⟩
  replace B0 : Cs w1 (w.heap.size) #[.int .i64 0, .int .i64 0] := Cs.keep csA hb1
  replace hbw : Below w.heap.size w w1 := blA
  replace cB0 := B0.c
  replace fB0 := B0.f
  replace lB0 := B0.lt
  clear hb1
  go_wp2_with fail
  exact bodyPost_ret (v := .agg #[.int .i64 R.1, .int .i64 R.2]) (by simp [results, Try.results26, go_sem, cB0, fB0, lB0]) rfl ⟨rfl, blA⟩

set_option maxHeartbeats 1000000 in
theorem printed_any (n d : Int) (w : World) (hn : 0 ≤ n ∧ n ≤ 4294967295) (hd : 0 ≤ d ∧ d ≤ 4294967295) :
    Calls Try.prog 31 #[.int .u32 n, .int .u32 d] w fun e w' => e = .returned (.agg #[.int .i64 (chP 1000000 n d).1, .int .i64 (chP 1000000 n d).2]) ∧ Below w.heap.size w w' := by
  have f0 : IntKind.i64.wrap n = n := IntWalk.i64_in _ (by omega)
  have f1 : IntKind.i64.wrap d = d := IntWalk.i64_in _ (by omega)
  have t1 : d.tmod 1000000 = d % 1000000 := Int.tmod_eq_emod_of_nonneg hd.1
  have r0 := Int.emod_nonneg d (b := 1000000) (by omega)
  have r1 := Int.emod_lt_of_pos d (b := 1000000) (by omega)
  have f2 : IntKind.i64.wrap (d % 1000000) = d % 1000000 := IntWalk.i64_in _ (by omega)
  have f3 : IntKind.i64.wrap (1 + d % 1000000) = 1 + d % 1000000 := IntWalk.i64_in _ (by omega)
  have f4 : IntKind.i64.wrap (1 + d % 1000000 + 1) = 1 + d % 1000000 + 1 := IntWalk.i64_in _ (by omega)
  have g0 : (1 + d % 1000000 + 1 == 0) = false := by simp; omega
  have t2 : n.tmod (1 + d % 1000000 + 1) = n % (1 + d % 1000000 + 1) := Int.tmod_eq_emod_of_nonneg hn.1
  have s0 := Int.emod_nonneg n (b := 1 + d % 1000000 + 1) (by omega)
  have s1 := Int.emod_lt_of_pos n (b := 1 + d % 1000000 + 1) (by omega)
  have f5 : IntKind.i64.wrap (n % (1 + d % 1000000 + 1)) = n % (1 + d % 1000000 + 1) := IntWalk.i64_in _ (by omega)
  have k := fun W => fraction_any (n % (1 + d % 1000000 + 1)) (1 + d % 1000000) W s0 (by omega) (by omega) (by omega)
  unfold chP
  generalize red (n % (1 + d % 1000000 + 1)) (1 + d % 1000000) = R at *
  go_enter Try.func31, Try.ntmps31
  go_wp2_with fail
  refine (k _).mono ?_
  rintro e w1 ⟨rfl, hb1⟩
  replace B0 : Cs w1 (w.heap.size) #[.int .i64 0, .int .i64 0] := Cs.keep csA hb1
  replace hbw : Below w.heap.size w w1 := blA
  replace cB0 := B0.c
  replace fB0 := B0.f
  replace lB0 := B0.lt
  clear hb1
  go_wp2_with fail
  exact bodyPost_ret (v := .agg #[.int .i64 R.1, .int .i64 R.2]) (by simp [results, Try.results31, go_sem, cB0, fB0, lB0]) rfl ⟨rfl, blA⟩

/-- a fraction can be a tail -/
def isPr (n d : Int) : Bool := decide (1 ≤ d ∧ d ≤ 1000000000000 ∧ 0 ≤ n ∧ n ≤ d)
set_option maxHeartbeats 1000000 in
theorem proper_any (n d : Int) (w : World) :
    Calls Try.prog 27 #[.agg #[.int .i64 n, .int .i64 d]] w fun e w' => e = .returned (.bool (isPr n d)) ∧ Below w.heap.size w w' := by
  by_cases h1 : 1 ≤ d
  case neg =>
    have hfin : Hid (false = isPr n d) := Lib.hid (by symm; simp [isPr]; omega)
    go_enter Try.func27, Try.ntmps27
    go_wp2_with fail
    go_ret
    exact ⟨ret_bool hfin.out, blA⟩
  case pos =>
  by_cases h2 : d ≤ 1000000000000
  case neg =>
    have hfin : Hid (false = isPr n d) := Lib.hid (by symm; simp [isPr]; omega)
    go_enter Try.func27, Try.ntmps27
    go_wp2_with fail
    go_ret
    exact ⟨ret_bool hfin.out, blA⟩
  case pos =>
  by_cases h3 : 0 ≤ n
  case neg =>
    have hfin : Hid (false = isPr n d) := Lib.hid (by symm; simp [isPr]; omega)
    go_enter Try.func27, Try.ntmps27
    go_wp2_with fail
    go_ret
    exact ⟨ret_bool hfin.out, blA⟩
  case pos =>
  by_cases h4 : n ≤ d
  case neg =>
    have hfin : Hid (false = isPr n d) := Lib.hid (by symm; simp [isPr]; omega)
    go_enter Try.func27, Try.ntmps27
    go_wp2_with fail
    go_ret
    exact ⟨ret_bool hfin.out, blA⟩
  case pos =>
    have hfin : Hid (true = isPr n d) := Lib.hid (by symm; simp [isPr]; omega)
    go_enter Try.func27, Try.ntmps27
    go_wp2_with fail
    go_ret
    exact ⟨ret_bool hfin.out, blA⟩

end Go.Proofs.Ytcmllkjgggcghaa
end

/- Plain laws of tails: what EyeTails says of them. -/
section
set_option linter.unusedSimpArgs false
set_option linter.unusedVariables false
namespace Em
variable {N M : Int}

theorem tail_zero (n : Nat) : tail N M n 0 = (N + M) ^ n := by unfold tail head; omega
theorem tail_succ (n r : Nat) : tail N M (n + 1) (r + 1) = tail N M n (r + 1) * M + tail N M n r * N := by
  unfold tail
  rw [head_succ, Int.pow_succ, Int.sub_mul, Int.sub_mul, Int.mul_add]
  omega
theorem tail_pred (hN : 0 ≤ N) (hM : 0 ≤ M) (n r : Nat) : tail N M n (r + 1) ≤ tail N M n r := by
  have := cnt_nonneg hN hM n r
  rw [tail_step n r]; omega

theorem tail_mono {a b S : Int} (h0 : 0 ≤ a) (hab : a ≤ b) (hb : b ≤ S) : ∀ n r, tail a (S - a) n r ≤ tail b (S - b) n r
  | n, 0 => by rw [tail_zero, tail_zero, show a + (S - a) = S by omega, show b + (S - b) = S by omega]; omega
  | 0, r + 1 => by rw [tail_above _ _ (by omega), tail_above _ _ (by omega)]; omega
  | n + 1, r + 1 => by
    have i1 := tail_mono h0 hab hb n (r + 1)
    have i2 := tail_mono h0 hab hb n r
    have i3 := tail_pred (N := b) (M := S - b) (by omega) (by omega) n r
    rw [tail_succ, tail_succ]
    have m1 := Int.mul_le_mul_of_nonneg_right i1 (show 0 ≤ S - a by omega)
    have m2 := Int.mul_le_mul_of_nonneg_right i2 h0
    have m3 := Int.mul_nonneg (show 0 ≤ tail b (S - b) n r - tail b (S - b) n (r + 1) by omega) (show 0 ≤ b - a by omega)
    rw [Int.mul_sub, Int.sub_mul, Int.sub_mul] at m3
    rw [Int.mul_sub] at m1 ⊢
    rw [Int.mul_sub] at m1 ⊢
    omega

theorem tail_scale (k : Int) : ∀ n r, tail (N * k) (M * k) n r = tail N M n r * k ^ n
  | n, 0 => by rw [tail_zero, tail_zero, ← Int.add_mul, Int.mul_pow]
  | 0, r + 1 => by rw [tail_above _ _ (by omega), tail_above _ _ (by omega)]; simp
  | n + 1, r + 1 => by
    rw [tail_succ, tail_succ, tail_scale k n (r + 1), tail_scale k n r, Int.add_mul, Int.pow_succ]
    generalize k ^ n = K
    generalize tail N M n r = x
    generalize tail N M n (r + 1) = y
    ac_rfl

/-- a tail, in parts: greater with the chance -/
theorem tail_cross {N1 D1 N2 D2 : Int} (h1 : 0 ≤ N1) (h2 : 1 ≤ D1) (h3 : N2 ≤ D2) (h4 : 1 ≤ D2) (h : N1 * D2 ≤ N2 * D1) (n r : Nat) :
    tail N1 (D1 - N1) n r * D2 ^ n ≤ tail N2 (D2 - N2) n r * D1 ^ n := by
  rw [← tail_scale D2 n r, ← tail_scale D1 n r, Int.sub_mul, Int.sub_mul, Int.mul_comm D2 D1]
  exact tail_mono (Int.mul_nonneg h1 (by omega)) h (by rw [Int.mul_comm D1 D2]; exact Int.mul_le_mul_of_nonneg_right h3 (by omega)) n r

theorem red_parts {x y : Int} (hy : 1 ≤ y) : ∃ g : Int, 1 ≤ g ∧ x = (red x y).1 * g ∧ y = (red x y).2 * g ∧ g ≤ y := by
  have hg : 0 < Int.gcd x y := Int.gcd_pos_of_ne_zero_right _ (by omega)
  refine ⟨Int.gcd x y, by omega, ?_, ?_, ?_⟩
  · exact (Int.ediv_mul_cancel (Int.gcd_dvd_left ..)).symm
  · exact (Int.ediv_mul_cancel (Int.gcd_dvd_right ..)).symm
  · exact Int.le_of_dvd (by omega) (Int.gcd_dvd_right ..)
theorem red_den {x y : Int} (hy : 1 ≤ y) : 1 ≤ (red x y).2 ∧ (red x y).2 ≤ y := by
  obtain ⟨g, h1, h2, h3, h4⟩ := red_parts (x := x) hy
  have h5 : 0 < (red x y).2 := by
    rcases Int.lt_or_le 0 (red x y).2 with h | h
    · exact h
    · have := Int.mul_nonneg (show 0 ≤ -(red x y).2 by omega) (show 0 ≤ g by omega)
      rw [Int.neg_mul] at this; omega
  have h6 := Int.mul_le_mul_of_nonneg_left h1 (show 0 ≤ (red x y).2 by omega)
  omega
theorem red_num {x y : Int} (hx : 0 ≤ x) (hy : 1 ≤ y) : 0 ≤ (red x y).1 ∧ (red x y).1 ≤ x := by
  obtain ⟨g, h1, h2, h3, h4⟩ := red_parts (x := x) hy
  have h5 : 0 ≤ (red x y).1 := by
    rcases Int.lt_or_le (red x y).1 0 with h | h
    · have := Int.mul_pos (show 0 < -(red x y).1 by omega) (show 0 < g by omega)
      rw [Int.neg_mul] at this; omega
    · exact h
  have h6 := Int.mul_le_mul_of_nonneg_left h1 h5
  omega
theorem red_cross {x y z v : Int} (hy : 1 ≤ y) (hv : 1 ≤ v) : (red x y).1 * (red z v).2 ≤ (red z v).1 * (red x y).2 ↔ x * v ≤ z * y := by
  obtain ⟨g, g1, g2, g3, -⟩ := red_parts (x := x) hy
  obtain ⟨h, h1, h2, h3, -⟩ := red_parts (x := z) hv
  generalize (red x y).1 = p at *
  generalize (red x y).2 = q at *
  generalize (red z v).1 = r at *
  generalize (red z v).2 = s at *
  have e1 : x * v = p * s * (g * h) := by rw [g2, h3]; ac_rfl
  have e2 : z * y = r * q * (g * h) := by rw [h2, g3]; ac_rfl
  rw [e1, e2]
  have hp : 0 < g * h := Int.mul_pos (by omega) (by omega)
  exact ⟨fun h => Int.mul_le_mul_of_nonneg_right h (by omega), fun h => Int.le_of_mul_le_mul_right h hp⟩
theorem red_le {x y : Int} (hx : x ≤ y) (hy : 1 ≤ y) : (red x y).1 ≤ (red x y).2 := by
  obtain ⟨g, g1, g2, g3, -⟩ := red_parts (x := x) hy
  exact Int.le_of_mul_le_mul_right (a := g) (by omega) (by omega)

/-- the tail of a plan, as a fraction -/
def tailT (n r : Nat) (c : Int × Int) : Int × Int := red (tail c.1 (c.2 - c.1) n r) (c.2 ^ n)

/-- a chance -/
structure Chc (c : Int × Int) : Prop where
  n0 : 0 ≤ c.1
  n1 : c.1 ≤ c.2
  d0 : 1 ≤ c.2
  d1 : c.2 ≤ 10
  g : Int.gcd c.1 c.2 = 1

variable {c d : Int × Int}
theorem Chc.p1 (h : Chc c) (n : Nat) : 1 ≤ c.2 ^ n := Go.Proofs.Ytcmllkjgggcghaa.pow_pos h.d0 n
theorem Chc.p2 (h : Chc c) {n : Nat} (hn : n ≤ 12) : c.2 ^ n ≤ 1000000000000 := Go.Proofs.Ytcmllkjgggcghaa.pow_le (by have := h.d0; omega) h.d1 n hn
theorem Chc.t0 (h : Chc c) (n r : Nat) : 0 ≤ tail c.1 (c.2 - c.1) n r := tail_nonneg h.n0 (by have := h.n1; omega) n r
theorem Chc.t1 (h : Chc c) (n r : Nat) : tail c.1 (c.2 - c.1) n r ≤ c.2 ^ n := by
  have := tail_bound (N := c.1) (M := c.2 - c.1) h.n0 (by have := h.n1; omega) n r
  rwa [show c.1 + (c.2 - c.1) = c.2 by omega] at this

theorem tailT_pr (h : Chc c) (n r : Nat) (hn : n ≤ 12) : Go.Proofs.Ytcmllkjgggcghaa.isPr (tailT n r c).1 (tailT n r c).2 = true := by
  have h1 := red_den (x := tail c.1 (c.2 - c.1) n r) (h.p1 n)
  have h2 := red_num (h.t0 n r) (h.p1 n)
  have h3 := red_le (h.t1 n r) (h.p1 n)
  have h4 := h.p2 hn
  exact decide_eq_true ⟨h1.1, by unfold tailT; omega, h2.1, h3⟩
theorem tailT_all (h : Chc c) (n : Nat) : tailT n 0 c = (1, 1) := by
  have h1 := h.p1 n
  unfold tailT
  rw [tail_zero, show c.1 + (c.2 - c.1) = c.2 by omega]
  unfold red
  rw [Int.gcd_self, show ((c.2 ^ n).natAbs : Int) = c.2 ^ n by omega, Int.ediv_self (by omega)]
theorem tailT_less (h : Chc c) (k : Chc d) (n r : Nat) (hc : c.1 * d.2 ≤ d.1 * c.2) : (tailT n r c).1 * (tailT n r d).2 ≤ (tailT n r d).1 * (tailT n r c).2 :=
  (red_cross (h.p1 n) (k.p1 n)).2 (tail_cross h.n0 h.d0 k.n1 k.d0 hc n r)
theorem tailT_right (h : Chc c) (n r : Nat) : (tailT n (r + 1) c).1 * (tailT n r c).2 ≤ (tailT n r c).1 * (tailT n (r + 1) c).2 :=
  (red_cross (h.p1 n) (h.p1 n)).2 (Int.mul_le_mul_of_nonneg_right (tail_pred h.n0 (by have := h.n1; omega) n r) (by have := h.p1 n; omega))
/-- the tail with none of them, as the law has it -/
def tailY (n r : Nat) (c : Int × Int) : Int × Int := if r < n + 1 then tailT n r c else (0, 1)
theorem tailT_part (h : Chc c) (n r : Nat) : c.2 ^ n % (tailT n r c).2 = 0 ∧ (tailT n r c).1 * (c.2 ^ n / (tailT n r c).2) = tail c.1 (c.2 - c.1) n r := by
  obtain ⟨g, g1, g2, g3, -⟩ := red_parts (x := tail c.1 (c.2 - c.1) n r) (h.p1 n)
  have h1 := (red_den (x := tail c.1 (c.2 - c.1) n r) (h.p1 n)).1
  unfold tailT
  generalize (red (tail c.1 (c.2 - c.1) n r) (c.2 ^ n)).2 = q at *
  generalize (red (tail c.1 (c.2 - c.1) n r) (c.2 ^ n)).1 = p at *
  constructor
  · rw [g3]; exact Int.mul_emod_right _ _
  · rw [g2, g3, Int.mul_ediv_cancel_left _ (by omega)]
theorem tailY_part (h : Chc c) (n r : Nat) : c.2 ^ n % (tailY n r c).2 = 0 ∧ (tailY n r c).1 * (c.2 ^ n / (tailY n r c).2) = tail c.1 (c.2 - c.1) n r := by
  unfold tailY
  split
  · exact tailT_part h n r
  · rw [tail_above n r (by omega)]; simp
theorem tailT_sum (h : Chc c) (n r : Nat) :
    red (c.1 * (tailT n r c).1 * (c.2 ^ n / (tailT n r c).2) + (c.2 - c.1) * (tailY n (r + 1) c).1 * (c.2 ^ n / (tailY n (r + 1) c).2)) (c.2 ^ n * c.2) = tailT (n + 1) (r + 1) c := by
  rw [Int.mul_assoc, Int.mul_assoc, (tailT_part h n r).2, (tailY_part h n (r + 1)).2]
  unfold tailT
  rw [tail_succ, Int.pow_succ]
  congr 1
  rw [Int.mul_comm c.1, Int.mul_comm (c.2 - c.1)]; omega

end Em
namespace Go.Proofs.Ytcmllkjgggcghaa
theorem chP_chc (n d : Int) (hn : 0 ≤ n) (hd : 0 ≤ d) : Em.Chc (chP 10 n d) := by
  unfold chP
  have r0 := Int.emod_nonneg d (b := 10) (by omega)
  have r1 := Int.emod_lt_of_pos d (b := 10) (by omega)
  have s0 := Int.emod_nonneg n (b := 1 + d % 10 + 1) (by omega)
  have s1 := Int.emod_lt_of_pos n (b := 1 + d % 10 + 1) (by omega)
  generalize n % (1 + d % 10 + 1) = x at *
  generalize hy : 1 + d % 10 = y at *
  have h1 := Em.red_den (x := x) (y := y) (by omega)
  refine ⟨(Em.red_num s0 (by omega)).1, Em.red_le (by omega) (by omega), h1.1, by omega, ?_⟩
  have hg : 0 < Int.gcd x y := Int.gcd_pos_of_ne_zero_right _ (by omega)
  exact Int.gcd_ediv_gcd_ediv_gcd hg
theorem Chc.isCh {c : Int × Int} (h : Em.Chc c) : Em.isCh c.1 c.2 10 = true := by
  obtain ⟨h1, h2, h3, h4, h5⟩ := h
  simp [Em.isCh]; omega
end Go.Proofs.Ytcmllkjgggcghaa
end
