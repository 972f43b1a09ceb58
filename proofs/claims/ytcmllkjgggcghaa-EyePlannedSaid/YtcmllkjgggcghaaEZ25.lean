/- EM7 EK05 EL05 -/
import Derived.Test.YtcmllkjgggcghaaEZ22
import Derived.Test.YtcmllkjgggcghaaEZ04
import Derived.Test.YtcmllkjgggcghaaEZ23
import Derived.Test.YtcmllkjgggcghaaEZ17
/- Plain laws of plans: what EyePlanned says of them. -/
section
set_option linter.unusedSimpArgs false
set_option linter.unusedVariables false
namespace Em

theorem planFrom_some {q : Nat → Nat → Bool} : ∀ {k n m r : Nat}, planFrom q n k = some (m, r) →
    n ≤ m ∧ m < n + k ∧ r ≤ m ∧ q m r = true ∧ (∀ m' r', n ≤ m' → m' < m → r' ≤ m' → q m' r' = false) ∧ ∀ r', r' < r → q m r' = false
  | 0, n, m, r, h => by simp [planFrom] at h
  | k + 1, n, m, r, h => by
    unfold planFrom at h
    split at h
    · rename_i x hx
      injection h with h; injection h with h1 h2
      subst h1 h2
      obtain ⟨-, a2, a3, a4⟩ := rightFrom_some hx
      exact ⟨Nat.le_refl _, by omega, by omega, a3, fun m' r' b1 b2 => by omega, fun r' b => a4 r' (Nat.zero_le _) b⟩
    · rename_i hx
      have hn := rightFrom_none hx
      obtain ⟨a1, a2, a3, a4, a5, a6⟩ := planFrom_some h
      refine ⟨by omega, by omega, a3, a4, fun m' r' b1 b2 b3 => ?_, a6⟩
      by_cases e : m' = n
      · subst e; exact hn r' (Nat.zero_le _) (by omega)
      · exact a5 m' r' (by omega) b2 b3
theorem planFrom_none {q : Nat → Nat → Bool} : ∀ {k n : Nat}, planFrom q n k = none → ∀ m r, n ≤ m → m < n + k → r ≤ m → q m r = false
  | 0, n, _, m, r, h1, h2, _ => by omega
  | k + 1, n, h, m, r, h1, h2, h3 => by
    unfold planFrom at h
    split at h
    · cases h
    · rename_i hx
      by_cases e : m = n
      · subst e; exact rightFrom_none hx r (Nat.zero_le _) (by omega)
      · exact planFrom_none h m r (by omega) (by omega) h3
theorem planFrom_le {q : Nat → Nat → Bool} {k n m r : Nat} (h1 : n ≤ m) (h2 : m < n + k) (h3 : r ≤ m) (hq : q m r = true) : ∃ m' r', planFrom q n k = some (m', r') ∧ m' ≤ m := by
  cases h : planFrom q n k with
  | none => rw [planFrom_none h m r h1 h2 h3] at hq; cases hq
  | some x =>
    obtain ⟨m', r'⟩ := x
    refine ⟨m', r', rfl, ?_⟩
    obtain ⟨-, -, -, -, a5, -⟩ := planFrom_some h
    rcases Nat.lt_or_ge m m' with h4 | h4
    · rw [a5 m r h1 h4 h3] at hq; cases hq
    · exact h4

theorem head_tail (N M : Int) (n r : Nat) : head N M n r = (N + M) ^ n - tail N M n r := by unfold tail; omega

/-- printed odds -/
structure Prn (c : Int × Int) : Prop where
  n0 : 0 ≤ c.1
  n1 : c.1 ≤ c.2
  d0 : 1 ≤ c.2
  d1 : c.2 ≤ 1000000
  g : Int.gcd c.1 c.2 = 1
theorem Prn.isCh {c : Int × Int} (h : Prn c) : isCh c.1 c.2 1000000 = true := by
  obtain ⟨h1, h2, h3, h4, h5⟩ := h
  simp [Em.isCh]; omega
theorem red_prn {x y : Int} (hx : 0 ≤ x) (hxy : x ≤ y) (hy : 1 ≤ y) (hm : y ≤ 1000000) : Prn (red x y) := by
  have h1 := red_den (x := x) hy
  refine ⟨(red_num hx hy).1, red_le hxy hy, h1.1, by omega, ?_⟩
  exact Int.gcd_ediv_gcd_ediv_gcd (Int.gcd_pos_of_ne_zero_right _ (by omega))

variable {g s a b c d : Int × Int}
theorem chc_sum (h : Chc g) : g.1 + (g.2 - g.1) = g.2 := by omega
/-- the first promise: the tail with the chance of a guess is at most the printed odds -/
theorem keep_most (hg : Chc g) (ha : Prn a) {n r : Nat} (h : Go.Proofs.Ytcmllkjgggcghaa.planQ g.1 g.2 s.1 s.2 a.1 a.2 b.1 b.2 n r = true) : (tailT n r g).1 * a.2 ≤ a.1 * (tailT n r g).2 := by
  unfold Go.Proofs.Ytcmllkjgggcghaa.planQ keeps at h
  simp only [Bool.and_eq_true, decide_eq_true_eq] at h
  have h1 := h.1
  rw [chc_sum hg] at h1
  obtain ⟨k, k1, k2, k3, -⟩ := red_parts (x := tail g.1 (g.2 - g.1) n r) (hg.p1 n)
  unfold tailT
  generalize red (tail g.1 (g.2 - g.1) n r) (g.2 ^ n) = t at *
  rw [k2, k3] at h1
  refine Int.le_of_mul_le_mul_right (a := k) ?_ (by omega)
  rw [show t.1 * a.2 * k = t.1 * k * a.2 by rw [Int.mul_assoc, Int.mul_comm a.2, ← Int.mul_assoc], Int.mul_assoc a.1]
  exact h1
/-- the second one: with the chance of an eye it is at least the rest of the printed odds -/
theorem keep_miss (hs : Chc s) (hb : Prn b) {n r : Nat} (h : Go.Proofs.Ytcmllkjgggcghaa.planQ g.1 g.2 s.1 s.2 a.1 a.2 b.1 b.2 n r = true) : (b.2 - b.1) * (tailT n r s).2 ≤ (tailT n r s).1 * b.2 := by
  unfold Go.Proofs.Ytcmllkjgggcghaa.planQ keeps at h
  simp only [Bool.and_eq_true, decide_eq_true_eq] at h
  have h1 := h.2
  rw [head_tail, chc_sum hs] at h1
  obtain ⟨k, k1, k2, k3, -⟩ := red_parts (x := tail s.1 (s.2 - s.1) n r) (hs.p1 n)
  unfold tailT
  generalize red (tail s.1 (s.2 - s.1) n r) (s.2 ^ n) = t at *
  rw [k2, k3] at h1
  refine Int.le_of_mul_le_mul_right (a := k) ?_ (by omega)
  rw [show t.1 * b.2 * k = t.1 * k * b.2 by rw [Int.mul_assoc, Int.mul_comm b.2, ← Int.mul_assoc], Int.mul_assoc (b.2 - b.1)]
  rw [Int.sub_mul] at h1 ⊢
  rw [Int.mul_comm (t.2 * k) b.2] at h1
  omega
/-- what keeps printed odds keeps greater ones -/
theorem keep_more (hg : Chc g) (hs : Chc s) (ha : Prn a) (hb : Prn b) (hc : Prn c) (hd : Prn d) (hac : a.1 * c.2 ≤ c.1 * a.2) (hbd : b.1 * d.2 ≤ d.1 * b.2) {n r : Nat}
    (h : Go.Proofs.Ytcmllkjgggcghaa.planQ g.1 g.2 s.1 s.2 a.1 a.2 b.1 b.2 n r = true) : Go.Proofs.Ytcmllkjgggcghaa.planQ g.1 g.2 s.1 s.2 c.1 c.2 d.1 d.2 n r = true := by
  unfold Go.Proofs.Ytcmllkjgggcghaa.planQ keeps at h ⊢
  simp only [Bool.and_eq_true, decide_eq_true_eq] at h ⊢
  rw [chc_sum hg, chc_sum hs] at h ⊢
  have e1 := hg.p1 n
  have e2 := hs.p1 n
  generalize tail g.1 (g.2 - g.1) n r = T at *
  generalize head s.1 (s.2 - s.1) n r = H at *
  generalize g.2 ^ n = G at *
  generalize s.2 ^ n = S at *
  have key : ∀ (T G x1 x2 y1 y2 : Int), 1 ≤ G → 1 ≤ x2 → 1 ≤ y2 → x1 * y2 ≤ y1 * x2 → T * x2 ≤ x1 * G → T * y2 ≤ y1 * G := by
    intro T G x1 x2 y1 y2 hG hx hy hxy hT
    refine Int.le_of_mul_le_mul_right (a := x2) ?_ (by omega)
    have i1 := Int.mul_le_mul_of_nonneg_right hT (show (0 : Int) ≤ y2 by omega)
    have i2 := Int.mul_le_mul_of_nonneg_right hxy (show (0 : Int) ≤ G by omega)
    calc T * y2 * x2 = T * x2 * y2 := by rw [Int.mul_assoc, Int.mul_comm y2, ← Int.mul_assoc]
      _ ≤ x1 * G * y2 := i1
      _ = x1 * y2 * G := by rw [Int.mul_assoc, Int.mul_comm G, ← Int.mul_assoc]
      _ ≤ y1 * x2 * G := i2
      _ = y1 * G * x2 := by rw [Int.mul_assoc, Int.mul_comm x2, ← Int.mul_assoc]
  exact ⟨key T G _ _ _ _ e1 ha.d0 hc.d0 hac h.1, key H S _ _ _ _ e2 hb.d0 hd.d0 hbd h.2⟩

/-- greater odds, as the law has them -/
def moreP (a : Int × Int) (k : Int) : Int × Int := red (if a.2 ≤ a.1 + k then a.2 else a.1 + k) a.2
theorem moreP_prn (h : Prn a) {k : Int} (hk : 0 ≤ k) : Prn (moreP a k) ∧ a.1 * (moreP a k).2 ≤ (moreP a k).1 * a.2 := by
  obtain ⟨h1, h2, h3, h4, h5⟩ := h
  unfold moreP
  have hx : a.1 ≤ (if a.2 ≤ a.1 + k then a.2 else a.1 + k) ∧ (if a.2 ≤ a.1 + k then a.2 else a.1 + k) ≤ a.2 := by split <;> omega
  generalize (if a.2 ≤ a.1 + k then a.2 else a.1 + k) = x at *
  refine ⟨red_prn (by omega) hx.2 h3 h4, ?_⟩
  obtain ⟨q, q1, q2, q3, -⟩ := red_parts (x := x) h3
  generalize red x a.2 = t at *
  refine Int.le_of_mul_le_mul_right (a := q) ?_ (by omega)
  have := Int.mul_le_mul_of_nonneg_right hx.1 (show (0 : Int) ≤ a.2 by omega)
  rw [Int.mul_assoc, ← q3, show t.1 * a.2 * q = t.1 * q * a.2 by rw [Int.mul_assoc, Int.mul_comm a.2, ← Int.mul_assoc], ← q2]
  exact this
end Em
namespace Go.Proofs.Ytcmllkjgggcghaa
theorem chP_prn (n d : Int) (hn : 0 ≤ n) (hd : 0 ≤ d) : Em.Prn (chP 1000000 n d) := by
  unfold chP
  have r0 := Int.emod_nonneg d (b := 1000000) (by omega)
  have r1 := Int.emod_lt_of_pos d (b := 1000000) (by omega)
  have s0 := Int.emod_nonneg n (b := 1 + d % 1000000 + 1) (by omega)
  have s1 := Int.emod_lt_of_pos n (b := 1 + d % 1000000 + 1) (by omega)
  exact Em.red_prn s0 (by omega) (by omega) (by omega)
theorem askedP {g s a b : Int × Int} (hg : Em.Chc g) (hs : Em.Chc s) (ha : Em.Prn a) (hb : Em.Prn b) : Asked g.1 g.2 s.1 s.2 a.1 a.2 b.1 b.2 :=
  ⟨hg.d0, hg.d1, hg.n0, hg.n1, hs.d0, hs.d1, hs.n0, hs.n1, ha.d0, ha.d1, ha.n0, ha.n1, hb.d0, hb.d1, hb.n0, hb.n1⟩
theorem planE_ok {g s a b : Int × Int} (hg : Em.Chc g) (hs : Em.Chc s) (ha : Em.Prn a) (hb : Em.Prn b) : planE g.1 g.2 s.1 s.2 a.1 a.2 b.1 b.2 = planP g.1 g.2 s.1 s.2 a.1 a.2 b.1 b.2 := by
  unfold planE
  rw [if_pos ⟨Chc.isCh hg, Chc.isCh hs, ha.isCh, hb.isCh⟩]
end Go.Proofs.Ytcmllkjgggcghaa
end

/- The walk of EyePlanned: but for Works. -/
section
namespace Go.Proofs.Ytcmllkjgggcghaa
open Go.RowKit Go.Shelf
set_option linter.unusedSimpArgs false
set_option linter.unusedVariables false

def S5 (w : World) (x0 x1 x2 x3 x4 x5 x6 x7 : Int) (W : World) : Prop := W.cell? ⟨w.heap.size, 0, none⟩ = some (.int .u8 x0) ∧ W.cell? ⟨w.heap.size, 1, none⟩ = some (.int .u8 x1) ∧ W.cell? ⟨w.heap.size + 1, 0, none⟩ = some (.int .u8 x2) ∧ W.cell? ⟨w.heap.size + 1, 1, none⟩ = some (.int .u8 x3) ∧ W.cell? ⟨w.heap.size + 1 + 1, 0, none⟩ = some (.int .u32 x4) ∧ W.cell? ⟨w.heap.size + 1 + 1, 1, none⟩ = some (.int .u32 x5) ∧ W.cell? ⟨w.heap.size + 1 + 1 + 1, 0, none⟩ = some (.int .u32 x6) ∧ W.cell? ⟨w.heap.size + 1 + 1 + 1, 1, none⟩ = some (.int .u32 x7)
structure J5 (w : World) (x0 x1 x2 x3 x4 x5 x6 x7 g1 g2 s1 s2 a1 a2 b1 b2 : Int) (d : Nat → Bool) (v35 v40 v45 v50 v15 v16 v17 v18 : Value) (W : World) : Prop where
  q0 : Cs W w.heap.size #[.int .u8 x0, .int .u8 x1]
  q1 : Cs W (w.heap.size + 1) #[.int .u8 x2, .int .u8 x3]
  q2 : Cs W (w.heap.size + 1 + 1) #[.int .u32 x4, .int .u32 x5]
  q3 : Cs W (w.heap.size + 1 + 1 + 1) #[.int .u32 x6, .int .u32 x7]
  hb : Below w.heap.size w W
  c0 : d 4 = true → v35 = .agg #[.int .i64 g1, .int .i64 g2]
  c1 : d 9 = true → v40 = .agg #[.int .i64 s1, .int .i64 s2]
  c2 : d 14 = true → v45 = .agg #[.int .i64 a1, .int .i64 a2]
  c3 : d 19 = true → v50 = .agg #[.int .i64 b1, .int .i64 b2]
  p0 : Mk2 (w.heap.size + 4) W (d 20) (d 24) v15 g1 g2
  p1 : Mk2 (w.heap.size + 4) W (d 21) (d 25) v16 s1 s2
  p2 : Mk2 (w.heap.size + 4) W (d 22) (d 26) v17 a1 a2
  p3 : Mk2 (w.heap.size + 4) W (d 23) (d 27) v18 b1 b2
  n01 : d 20 = true → d 21 = true → v15 ≠ v16
  n02 : d 20 = true → d 22 = true → v15 ≠ v17
  n03 : d 20 = true → d 23 = true → v15 ≠ v18
  n12 : d 21 = true → d 22 = true → v16 ≠ v17
  n13 : d 21 = true → d 23 = true → v16 ≠ v18
  n23 : d 22 = true → d 23 = true → v17 ≠ v18
theorem J5.s {w W : World} {x0 x1 x2 x3 x4 x5 x6 x7 g1 g2 s1 s2 a1 a2 b1 b2 : Int} {d : Nat → Bool} {v35 v40 v45 v50 v15 v16 v17 v18 : Value} (h : J5 w x0 x1 x2 x3 x4 x5 x6 x7 g1 g2 s1 s2 a1 a2 b1 b2 d v35 v40 v45 v50 v15 v16 v17 v18 W) : S5 w x0 x1 x2 x3 x4 x5 x6 x7 W :=
  ⟨h.q0.c 0, h.q0.c 1, h.q1.c 0, h.q1.c 1, h.q2.c 0, h.q2.c 1, h.q3.c 0, h.q3.c 1⟩
theorem tailC (p q : Nat) (e1 e2 : Int) (hE : Em.Chc (e1, e2)) (h1 : 1 ≤ p) (h2 : p ≤ 12) (h3 : q ≤ p) (W : World) : Calls Try.prog 22 #[.agg #[.int .i64 p, .int .i64 q], .agg #[.int .i64 e1, .int .i64 e2]] W fun e w' => e = .returned (.tuple #[.agg #[.int .i64 (Em.tailT p q (e1, e2)).1, .int .i64 (Em.tailT p q (e1, e2)).2], .int .i64 0]) ∧ Below W.heap.size W w' := by
  have := tail_any p q e1 e2 W
  unfold tailP at this
  rw [if_pos ⟨by omega, by omega, by omega, by omega, Chc.isCh hE⟩] at this
  exact this
theorem properC (p q : Nat) (e1 e2 : Int) (hE : Em.Chc (e1, e2)) (h2 : p ≤ 12) (W : World) : Calls Try.prog 27 #[.agg #[.int .i64 (Em.tailT p q (e1, e2)).1, .int .i64 (Em.tailT p q (e1, e2)).2]] W fun e w' => e = .returned (.bool true) ∧ Below W.heap.size W w' := by
  have := proper_any (Em.tailT p q (e1, e2)).1 (Em.tailT p q (e1, e2)).2 W
  rw [Em.tailT_pr hE p q h2] at this
  exact this
theorem lessC (a b : Int × Int) (ha : 0 ≤ a.1 ∧ a.1 ≤ 1000000000000 ∧ 1 ≤ a.2 ∧ a.2 ≤ 1000000000000) (hb : 0 ≤ b.1 ∧ b.1 ≤ 1000000000000 ∧ 1 ≤ b.2 ∧ b.2 ≤ 1000000000000) (hab : b.1 * a.2 ≤ a.1 * b.2) (W : World) : Calls Try.prog 29 #[.agg #[.int .i64 a.1, .int .i64 a.2], .agg #[.int .i64 b.1, .int .i64 b.2]] W fun e w' => e = .returned (.bool false) ∧ Below W.heap.size W w' :=
  less_any a.1 a.2 b.1 b.2 W ha.1 hb.1 ha.2.2.1 hb.2.2.1 (by omega) (by omega) (by omega) (by omega) false (by rw [decide_eq_false (by omega)])
theorem prn_bd {a : Int × Int} (h : Em.Prn a) : 0 ≤ a.1 ∧ a.1 ≤ 1000000000000 ∧ 1 ≤ a.2 ∧ a.2 ≤ 1000000000000 := by
  have := h.n0; have := h.n1; have := h.d0; have := h.d1; omega
theorem len_eight' {α : Type} {l : List α} (h : l.length = 8) : ∃ a b c d e f g i, l = [a, b, c, d, e, f, g, i] := by
  match l, h with
  | [a, b, c, d, e, f, g, i], _ => exact ⟨a, b, c, d, e, f, g, i, rfl⟩

set_option maxRecDepth 100000 in
set_option maxHeartbeats 16000000 in
theorem eyePlanned_walk (kw : ∀ w : World, Calls Try.prog 14 #[] w fun e w' => e = .returned (.bool true) ∧ Below w.heap.size w w')
    (x0 x1 x2 x3 x4 x5 x6 x7 M P R : Int) (w : World) (hx0 : 0 ≤ x0 ∧ x0 ≤ 255) (hx1 : 0 ≤ x1 ∧ x1 ≤ 255) (hx2 : 0 ≤ x2 ∧ x2 ≤ 255) (hx3 : 0 ≤ x3 ∧ x3 ≤ 255) (hx4 : 0 ≤ x4 ∧ x4 ≤ 4294967295) (hx5 : 0 ≤ x5 ∧ x5 ≤ 4294967295) (hx6 : 0 ≤ x6 ∧ x6 ≤ 4294967295) (hx7 : 0 ≤ x7 ∧ x7 ≤ 4294967295) (hM : 0 ≤ M ∧ M ≤ 65535) (hP : 0 ≤ P ∧ P ≤ 255) (hR : 0 ≤ R ∧ R ≤ 255) :
    Calls Try.prog 7 #[.agg #[.int .u8 x0, .int .u8 x1], .agg #[.int .u8 x2, .int .u8 x3], .agg #[.int .u32 x4, .int .u32 x5], .agg #[.int .u32 x6, .int .u32 x7], .int .u16 M, .int .u8 P, .int .u8 R] w fun e w' => e = .returned (.bool true) ∧ Below w.heap.size w w' := by
  have Hg := chP_chc x0 x1 hx0.1 hx1.1
  have kg := fun W => chance_any x0 x1 W hx0 hx1
  obtain ⟨⟨g1, g2⟩, hg⟩ : ∃ c, chP 10 x0 x1 = c := ⟨_, rfl⟩
  rw [hg] at Hg kg
  clear hg
  have Hs := chP_chc x2 x3 hx2.1 hx3.1
  have ks := fun W => chance_any x2 x3 W hx2 hx3
  obtain ⟨⟨s1, s2⟩, hs⟩ : ∃ c, chP 10 x2 x3 = c := ⟨_, rfl⟩
  rw [hs] at Hs ks
  clear hs
  have Ha := chP_prn x4 x5 hx4.1 hx5.1
  have ka := fun W => printed_any x4 x5 W hx4 hx5
  obtain ⟨⟨a1, a2⟩, ha⟩ : ∃ c, chP 1000000 x4 x5 = c := ⟨_, rfl⟩
  rw [ha] at Ha ka
  clear ha
  have Hb := chP_prn x6 x7 hx6.1 hx7.1
  have kb := fun W => printed_any x6 x7 W hx6 hx7
  obtain ⟨⟨b1, b2⟩, hb⟩ : ∃ c, chP 1000000 x6 x7 = c := ⟨_, rfl⟩
  rw [hb] at Hb kb
  clear hb
  obtain ⟨n, hn⟩ : ∃ n : Nat, (1 + P % 12 : Int) = n := ⟨(1 + P % 12).toNat, by omega⟩
  obtain ⟨r, hr⟩ : ∃ r : Nat, (R % ((n : Int) + 1) : Int) = r := ⟨(R % ((n : Int) + 1)).toNat, by have := Int.emod_nonneg R (b := (n : Int) + 1) (by omega); omega⟩
  have hrn : r ≤ n := by have := Int.emod_lt_of_pos R (b := (n : Int) + 1) (by omega); omega
  have hn2 : 1 ≤ n ∧ n ≤ 12 := by omega
  have f0 : IntKind.i64.wrap P = P := IntWalk.i64_in _ (by omega)
  have f1 : P.tmod 12 = (n : Int) - 1 := by rw [Int.tmod_eq_emod_of_nonneg hP.1]; omega
  have f2 : IntKind.i64.wrap ((n : Int) - 1) = (n : Int) - 1 := IntWalk.i64_in _ (by omega)
  have f3 : IntKind.i64.wrap (1 + ((n : Int) - 1)) = (n : Int) := by rw [IntWalk.i64_in _ (by omega)]; omega
  have f4 : IntKind.i64.wrap R = R := IntWalk.i64_in _ (by omega)
  have f5 : IntKind.i64.wrap ((n : Int) + 1) = (n : Int) + 1 := IntWalk.i64_in _ (by omega)
  have f6 : (((n : Int) + 1) == 0) = false := by simp; omega
  have f7 : R.tmod ((n : Int) + 1) = (r : Int) := by rw [Int.tmod_eq_emod_of_nonneg hR.1]; exact hr
  have f8 : IntKind.i64.wrap (r : Int) = (r : Int) := IntWalk.i64_in _ (by omega)
  have fM : IntKind.i64.wrap M = M := IntWalk.i64_in _ (by omega)
  clear hn hr hP hR hx0 hx1 hx2 hx3 hx4 hx5 hx6 hx7
  have Hf0 := Lib.hid f0
  have HHg := Lib.hid Hg
  have HHs := Lib.hid Hs
  have HHa := Lib.hid Ha
  have HHb := Lib.hid Hb
  have Hrn := Lib.hid hrn
  have Hn2 := Lib.hid hn2
  have HM := Lib.hid hM
  clear Hg Hs Ha Hb hrn hn2 hM
  go_enter Try.func7, Try.ntmps7
  go_upto_region 1 with fail
  go_cut [15, 16, 17, 18] (fun s15 s16 s17 s18 wx => ∃ b15 b16 b17 b18 : Nat, s15 = .pointer (some ⟨b15, 0, none⟩) ∧ s16 = .pointer (some ⟨b16, 0, none⟩) ∧ s17 = .pointer (some ⟨b17, 0, none⟩) ∧ s18 = .pointer (some ⟨b18, 0, none⟩) ∧ Cs wx b15 #[.int .i64 g1, .int .i64 g2] ∧ Cs wx b16 #[.int .i64 s1, .int .i64 s2] ∧ Cs wx b17 #[.int .i64 a1, .int .i64 a2] ∧ Cs wx b18 #[.int .i64 b1, .int .i64 b2] ∧ Below w.heap.size w wx)
  case first =>
   as_aux_lemma =>
    clear f0 f1 f2 f3 f4 f5 f6 f7 f8 fM kw Hf0 HHg HHs HHa HHb Hrn Hn2 HM
    obtain ⟨W, hW⟩ : ∃ W, ((((w.alloc (.cells #[.int .u8 x0, .int .u8 x1] 44)).alloc (.cells #[.int .u8 x2, .int .u8 x3] 44)).alloc (.cells #[.int .u32 x4, .int .u32 x5] 51)).alloc (.cells #[.int .u32 x6, .int .u32 x7] 51)) = W := ⟨_, rfl⟩
    have A0 : Cs W w.heap.size #[.int .u8 x0, .int .u8 x1] := by rw [← hW]; exact (by repeat (first | with_reducible assumption | (with_reducible refine Cs.new _ _ _ _ ?_; first | rfl | (simp; done)) | with_reducible refine Cs.alloc ?_ _ | with_reducible refine Cs.drewN ?_ _ | with_reducible refine Cs.drew ?_ | with_reducible refine Cs.set4 ?_ _ _ _ _ | (with_reducible refine Cs.other4 ?_ ?_ _ _ _ _; rotate_left; focus (first | assumption | omega | (simp; done) | (simp; omega))) | with_reducible refine Cs.set2 ?_ _ _ | (with_reducible refine Cs.other2 ?_ ?_ _ _; rotate_left; focus (first | assumption | omega | (simp; done) | (simp; omega))) | (with_reducible refine Cs.other ?_ ?_ _; rotate_left; focus (first | assumption | omega | (simp; done) | (simp; omega))) | with_reducible refine Cs.keep ?_ (by assumption) | assumption))
    have A1 : Cs W (w.heap.size + 1) #[.int .u8 x2, .int .u8 x3] := by rw [← hW]; exact (by repeat (first | with_reducible assumption | (with_reducible refine Cs.new _ _ _ _ ?_; first | rfl | (simp; done)) | with_reducible refine Cs.alloc ?_ _ | with_reducible refine Cs.drewN ?_ _ | with_reducible refine Cs.drew ?_ | with_reducible refine Cs.set4 ?_ _ _ _ _ | (with_reducible refine Cs.other4 ?_ ?_ _ _ _ _; rotate_left; focus (first | assumption | omega | (simp; done) | (simp; omega))) | with_reducible refine Cs.set2 ?_ _ _ | (with_reducible refine Cs.other2 ?_ ?_ _ _; rotate_left; focus (first | assumption | omega | (simp; done) | (simp; omega))) | (with_reducible refine Cs.other ?_ ?_ _; rotate_left; focus (first | assumption | omega | (simp; done) | (simp; omega))) | with_reducible refine Cs.keep ?_ (by assumption) | assumption))
    have A2 : Cs W (w.heap.size + 1 + 1) #[.int .u32 x4, .int .u32 x5] := by rw [← hW]; exact (by repeat (first | with_reducible assumption | (with_reducible refine Cs.new _ _ _ _ ?_; first | rfl | (simp; done)) | with_reducible refine Cs.alloc ?_ _ | with_reducible refine Cs.drewN ?_ _ | with_reducible refine Cs.drew ?_ | with_reducible refine Cs.set4 ?_ _ _ _ _ | (with_reducible refine Cs.other4 ?_ ?_ _ _ _ _; rotate_left; focus (first | assumption | omega | (simp; done) | (simp; omega))) | with_reducible refine Cs.set2 ?_ _ _ | (with_reducible refine Cs.other2 ?_ ?_ _ _; rotate_left; focus (first | assumption | omega | (simp; done) | (simp; omega))) | (with_reducible refine Cs.other ?_ ?_ _; rotate_left; focus (first | assumption | omega | (simp; done) | (simp; omega))) | with_reducible refine Cs.keep ?_ (by assumption) | assumption))
    have A3 : Cs W (w.heap.size + 1 + 1 + 1) #[.int .u32 x6, .int .u32 x7] := by rw [← hW]; exact (by repeat (first | with_reducible assumption | (with_reducible refine Cs.new _ _ _ _ ?_; first | rfl | (simp; done)) | with_reducible refine Cs.alloc ?_ _ | with_reducible refine Cs.drewN ?_ _ | with_reducible refine Cs.drew ?_ | with_reducible refine Cs.set4 ?_ _ _ _ _ | (with_reducible refine Cs.other4 ?_ ?_ _ _ _ _; rotate_left; focus (first | assumption | omega | (simp; done) | (simp; omega))) | with_reducible refine Cs.set2 ?_ _ _ | (with_reducible refine Cs.other2 ?_ ?_ _ _; rotate_left; focus (first | assumption | omega | (simp; done) | (simp; omega))) | (with_reducible refine Cs.other ?_ ?_ _; rotate_left; focus (first | assumption | omega | (simp; done) | (simp; omega))) | with_reducible refine Cs.keep ?_ (by assumption) | assumption))
    have hbW : Below w.heap.size w W := by rw [← hW]; exact (by repeat (first | with_reducible exact Below.refl _ _ | with_reducible assumption | with_reducible refine balloc ?_ _ | with_reducible refine bdrewN ?_ _ | with_reducible refine Below.drew ?_ | (with_reducible refine bset ?_ ?_ _; rotate_left; focus (first | assumption | omega | (simp; done) | (simp; omega))) | with_reducible refine bstep ?_ (by assumption) | assumption))
    rw [hW]
    clear hW
    have hS0 : S5 w x0 x1 x2 x3 x4 x5 x6 x7 W := ⟨A0.c 0, A0.c 1, A1.c 0, A1.c 1, A2.c 0, A2.c 1, A3.c 0, A3.c 1⟩
    refine wp_region_free (S := S5 w x0 x1 x2 x3 x4 x5 x6 x7) [(0, 1), (1, 3), (2, 7), (3, 15), (5, 47), (6, 111), (7, 239), (8, 495), (10, 1519), (11, 3567), (12, 7663), (13, 15855), (15, 48623), (16, 114159), (17, 245231), (18, 507375)] 507375 [(4, []), (9, [4]), (14, [9]), (19, [14]), (20, []), (21, []), (22, []), (23, []), (24, [4, 19, 20, 21, 22, 23]), (25, [4, 9, 20, 21, 22, 23, 24]), (26, [4, 9, 14, 20, 21, 22, 23, 24, 25]), (27, [4, 9, 14, 19, 20, 21, 22, 23, 24, 25, 26])] (by kernel_rfl) (by kernel_rfl) (fun c a d v w h => by cases d <;> exact h) hS0 (fun hHeld => ?_)
    clear hHeld hS0
    refine free_take (v := ?_) rfl (by rfl) ?_ ?_
    rotate_left
    · intro w9 hSw; (unfold S5 at hSw); (go_simp <;> with_reducible rfl)
    try simp only [Act.put, List.setIfInBounds_toArray, List.set_cons_zero, List.set_cons_succ]
    refine free_take (v := ?_) rfl (by rfl) ?_ ?_
    rotate_left
    · intro w9 hSw; (unfold S5 at hSw); (go_simp <;> with_reducible rfl)
    try simp only [Act.put, List.setIfInBounds_toArray, List.set_cons_zero, List.set_cons_succ]
    refine free_take (v := ?_) rfl (by rfl) ?_ ?_
    rotate_left
    · intro w9 hSw; (unfold S5 at hSw); (go_simp <;> with_reducible rfl)
    try simp only [Act.put, List.setIfInBounds_toArray, List.set_cons_zero, List.set_cons_succ]
    refine free_take (v := ?_) rfl (by rfl) ?_ ?_
    rotate_left
    · intro w9 hSw; (unfold S5 at hSw); (go_simp <;> with_reducible rfl)
    try simp only [Act.put, List.setIfInBounds_toArray, List.set_cons_zero, List.set_cons_succ]
    refine free_take (v := ?_) rfl (by rfl) ?_ ?_
    rotate_left
    · intro w9 hSw; (unfold S5 at hSw); (go_simp <;> with_reducible rfl)
    try simp only [Act.put, List.setIfInBounds_toArray, List.set_cons_zero, List.set_cons_succ]
    refine free_take (v := ?_) rfl (by rfl) ?_ ?_
    rotate_left
    · intro w9 hSw; (unfold S5 at hSw); (go_simp <;> with_reducible rfl)
    try simp only [Act.put, List.setIfInBounds_toArray, List.set_cons_zero, List.set_cons_succ]
    refine free_take (v := ?_) rfl (by rfl) ?_ ?_
    rotate_left
    · intro w9 hSw; (unfold S5 at hSw); (go_simp <;> with_reducible rfl)
    try simp only [Act.put, List.setIfInBounds_toArray, List.set_cons_zero, List.set_cons_succ]
    refine free_take (v := ?_) rfl (by rfl) ?_ ?_
    rotate_left
    · intro w9 hSw; (unfold S5 at hSw); (go_simp <;> with_reducible rfl)
    try simp only [Act.put, List.setIfInBounds_toArray, List.set_cons_zero, List.set_cons_succ]
    refine free_take (v := ?_) rfl (by rfl) ?_ ?_
    rotate_left
    · intro w9 hSw; (unfold S5 at hSw); (go_simp <;> with_reducible rfl)
    try simp only [Act.put, List.setIfInBounds_toArray, List.set_cons_zero, List.set_cons_succ]
    refine free_take (v := ?_) rfl (by rfl) ?_ ?_
    rotate_left
    · intro w9 hSw; (unfold S5 at hSw); (go_simp <;> with_reducible rfl)
    try simp only [Act.put, List.setIfInBounds_toArray, List.set_cons_zero, List.set_cons_succ]
    refine free_take (v := ?_) rfl (by rfl) ?_ ?_
    rotate_left
    · intro w9 hSw; (unfold S5 at hSw); (go_simp <;> with_reducible rfl)
    try simp only [Act.put, List.setIfInBounds_toArray, List.set_cons_zero, List.set_cons_succ]
    refine free_take (v := ?_) rfl (by rfl) ?_ ?_
    rotate_left
    · intro w9 hSw; (unfold S5 at hSw); (go_simp <;> with_reducible rfl)
    try simp only [Act.put, List.setIfInBounds_toArray, List.set_cons_zero, List.set_cons_succ]
    refine free_take (v := ?_) rfl (by rfl) ?_ ?_
    rotate_left
    · intro w9 hSw; (unfold S5 at hSw); (go_simp <;> with_reducible rfl)
    try simp only [Act.put, List.setIfInBounds_toArray, List.set_cons_zero, List.set_cons_succ]
    refine free_take (v := ?_) rfl (by rfl) ?_ ?_
    rotate_left
    · intro w9 hSw; (unfold S5 at hSw); (go_simp <;> with_reducible rfl)
    try simp only [Act.put, List.setIfInBounds_toArray, List.set_cons_zero, List.set_cons_succ]
    refine free_take (v := ?_) rfl (by rfl) ?_ ?_
    rotate_left
    · intro w9 hSw; (unfold S5 at hSw); (go_simp <;> with_reducible rfl)
    try simp only [Act.put, List.setIfInBounds_toArray, List.set_cons_zero, List.set_cons_succ]
    refine free_take (v := ?_) rfl (by rfl) ?_ ?_
    rotate_left
    · intro w9 hSw; (unfold S5 at hSw); (go_simp <;> with_reducible rfl)
    try simp only [Act.put, List.setIfInBounds_toArray, List.set_cons_zero, List.set_cons_succ]
    refine free_part [35, 40, 45, 50, 15, 16, 17, 18] (fun d vs W => ∃ v35 v40 v45 v50 v15 v16 v17 v18, vs = [v35, v40, v45, v50, v15, v16, v17, v18] ∧ J5 w x0 x1 x2 x3 x4 x5 x6 x7 g1 g2 s1 s2 a1 a2 b1 b2 d v35 v40 v45 v50 v15 v16 v17 v18 W) (fun d vs W ⟨_, _, _, _, _, _, _, _, _, h⟩ => h.s) ?_ ?_ ?_
    · intro d vs hl hd
      obtain ⟨v35, v40, v45, v50, v15, v16, v17, v18, rfl⟩ := len_eight' hl
      simp only [fsts, noB] at hd
      obtain ⟨n4, n9, n14, n19, n20, n21, n22, n23, n24, n25, n26, n27, -⟩ := hd
      exact ⟨_, _, _, _, _, _, _, _, rfl, A0.drew, A1.drew, A2.drew, A3.drew, hbW.drew, fun h => by simp [n4] at h, fun h => by simp [n9] at h, fun h => by simp [n14] at h, fun h => by simp [n19] at h, Mk2.no n20 n24, Mk2.no n21 n25, Mk2.no n22 n26, Mk2.no n23 n27, fun h => by simp [n20] at h, fun h => by simp [n20] at h, fun h => by simp [n20] at h, fun h => by simp [n21] at h, fun h => by simp [n21] at h, fun h => by simp [n22] at h⟩
    refine free_step rfl ?_ ?_
    · rintro d _ W2 ⟨v35, v40, v45, v50, v15, v16, v17, v18, rfl, hJ⟩ hd hD K9 hS9
      simp only [puts, Act.put, List.setIfInBounds_toArray, List.set_cons_zero, List.set_cons_succ]
      go_simp
      refine (kg _).mono ?_
      rintro e w3 ⟨rfl, hb3⟩
      refine hS9.out _ _ ⟨[.agg #[.int .i64 g1, .int .i64 g2], v40, v45, v50, v15, v16, v17, v18], by simp only [puts, Act.put, List.setIfInBounds_toArray, List.set_cons_zero, List.set_cons_succ], _, _, _, _, _, _, _, _, rfl, ?_⟩
      exact ⟨hJ.q0.keep hb3, hJ.q1.keep hb3, hJ.q2.keep hb3, hJ.q3.keep hb3, bstep hJ.hb hb3, fun _ => rfl, hJ.c1, hJ.c2, hJ.c3, hJ.p0.below hb3, hJ.p1.below hb3, hJ.p2.below hb3, hJ.p3.below hb3, hJ.n01, hJ.n02, hJ.n03, hJ.n12, hJ.n13, hJ.n23⟩
    refine free_step rfl ?_ ?_
    · rintro d _ W2 ⟨v35, v40, v45, v50, v15, v16, v17, v18, rfl, hJ⟩ hd hD K9 hS9
      simp only [puts, Act.put, List.setIfInBounds_toArray, List.set_cons_zero, List.set_cons_succ]
      go_simp
      refine (ks _).mono ?_
      rintro e w3 ⟨rfl, hb3⟩
      refine hS9.out _ _ ⟨[v35, .agg #[.int .i64 s1, .int .i64 s2], v45, v50, v15, v16, v17, v18], by simp only [puts, Act.put, List.setIfInBounds_toArray, List.set_cons_zero, List.set_cons_succ], _, _, _, _, _, _, _, _, rfl, ?_⟩
      exact ⟨hJ.q0.keep hb3, hJ.q1.keep hb3, hJ.q2.keep hb3, hJ.q3.keep hb3, bstep hJ.hb hb3, hJ.c0, fun _ => rfl, hJ.c2, hJ.c3, hJ.p0.below hb3, hJ.p1.below hb3, hJ.p2.below hb3, hJ.p3.below hb3, hJ.n01, hJ.n02, hJ.n03, hJ.n12, hJ.n13, hJ.n23⟩
    refine free_step rfl ?_ ?_
    · rintro d _ W2 ⟨v35, v40, v45, v50, v15, v16, v17, v18, rfl, hJ⟩ hd hD K9 hS9
      simp only [puts, Act.put, List.setIfInBounds_toArray, List.set_cons_zero, List.set_cons_succ]
      go_simp
      refine (ka _).mono ?_
      rintro e w3 ⟨rfl, hb3⟩
      refine hS9.out _ _ ⟨[v35, v40, .agg #[.int .i64 a1, .int .i64 a2], v50, v15, v16, v17, v18], by simp only [puts, Act.put, List.setIfInBounds_toArray, List.set_cons_zero, List.set_cons_succ], _, _, _, _, _, _, _, _, rfl, ?_⟩
      exact ⟨hJ.q0.keep hb3, hJ.q1.keep hb3, hJ.q2.keep hb3, hJ.q3.keep hb3, bstep hJ.hb hb3, hJ.c0, hJ.c1, fun _ => rfl, hJ.c3, hJ.p0.below hb3, hJ.p1.below hb3, hJ.p2.below hb3, hJ.p3.below hb3, hJ.n01, hJ.n02, hJ.n03, hJ.n12, hJ.n13, hJ.n23⟩
    refine free_step rfl ?_ ?_
    · rintro d _ W2 ⟨v35, v40, v45, v50, v15, v16, v17, v18, rfl, hJ⟩ hd hD K9 hS9
      simp only [puts, Act.put, List.setIfInBounds_toArray, List.set_cons_zero, List.set_cons_succ]
      go_simp
      refine (kb _).mono ?_
      rintro e w3 ⟨rfl, hb3⟩
      refine hS9.out _ _ ⟨[v35, v40, v45, .agg #[.int .i64 b1, .int .i64 b2], v15, v16, v17, v18], by simp only [puts, Act.put, List.setIfInBounds_toArray, List.set_cons_zero, List.set_cons_succ], _, _, _, _, _, _, _, _, rfl, ?_⟩
      exact ⟨hJ.q0.keep hb3, hJ.q1.keep hb3, hJ.q2.keep hb3, hJ.q3.keep hb3, bstep hJ.hb hb3, hJ.c0, hJ.c1, hJ.c2, fun _ => rfl, hJ.p0.below hb3, hJ.p1.below hb3, hJ.p2.below hb3, hJ.p3.below hb3, hJ.n01, hJ.n02, hJ.n03, hJ.n12, hJ.n13, hJ.n23⟩
    refine free_step rfl ?_ ?_
    · rintro d _ W2 ⟨v35, v40, v45, v50, v15, v16, v17, v18, rfl, hJ⟩ hd hD K9 hS9
      simp only [puts, Act.put, List.setIfInBounds_toArray, List.set_cons_zero, List.set_cons_succ]
      go_simp
      refine hS9.out _ _ ⟨[v35, v40, v45, v50, .pointer (some ⟨W2.heap.size, 0, none⟩), v16, v17, v18], by simp only [puts, Act.put, List.setIfInBounds_toArray, List.set_cons_zero, List.set_cons_succ], _, _, _, _, _, _, _, _, rfl, ?_⟩
      exact ⟨hJ.q0.alloc _, hJ.q1.alloc _, hJ.q2.alloc _, hJ.q3.alloc _, balloc hJ.hb _, hJ.c0, hJ.c1, hJ.c2, hJ.c3, hJ.p0.new hd (by have := hJ.q3.lt; omega), hJ.p1.alloc _, hJ.p2.alloc _, hJ.p3.alloc _, fun _ h => (hJ.p1.ne h).symm, fun _ h => (hJ.p2.ne h).symm, fun _ h => (hJ.p3.ne h).symm, hJ.n12, hJ.n13, hJ.n23⟩
    refine free_step rfl ?_ ?_
    · rintro d _ W2 ⟨v35, v40, v45, v50, v15, v16, v17, v18, rfl, hJ⟩ hd hD K9 hS9
      simp only [puts, Act.put, List.setIfInBounds_toArray, List.set_cons_zero, List.set_cons_succ]
      go_simp
      refine hS9.out _ _ ⟨[v35, v40, v45, v50, v15, .pointer (some ⟨W2.heap.size, 0, none⟩), v17, v18], by simp only [puts, Act.put, List.setIfInBounds_toArray, List.set_cons_zero, List.set_cons_succ], _, _, _, _, _, _, _, _, rfl, ?_⟩
      exact ⟨hJ.q0.alloc _, hJ.q1.alloc _, hJ.q2.alloc _, hJ.q3.alloc _, balloc hJ.hb _, hJ.c0, hJ.c1, hJ.c2, hJ.c3, hJ.p0.alloc _, hJ.p1.new hd (by have := hJ.q3.lt; omega), hJ.p2.alloc _, hJ.p3.alloc _, fun h _ => hJ.p0.ne h, hJ.n02, hJ.n03, fun _ h => (hJ.p2.ne h).symm, fun _ h => (hJ.p3.ne h).symm, hJ.n23⟩
    refine free_step rfl ?_ ?_
    · rintro d _ W2 ⟨v35, v40, v45, v50, v15, v16, v17, v18, rfl, hJ⟩ hd hD K9 hS9
      simp only [puts, Act.put, List.setIfInBounds_toArray, List.set_cons_zero, List.set_cons_succ]
      go_simp
      refine hS9.out _ _ ⟨[v35, v40, v45, v50, v15, v16, .pointer (some ⟨W2.heap.size, 0, none⟩), v18], by simp only [puts, Act.put, List.setIfInBounds_toArray, List.set_cons_zero, List.set_cons_succ], _, _, _, _, _, _, _, _, rfl, ?_⟩
      exact ⟨hJ.q0.alloc _, hJ.q1.alloc _, hJ.q2.alloc _, hJ.q3.alloc _, balloc hJ.hb _, hJ.c0, hJ.c1, hJ.c2, hJ.c3, hJ.p0.alloc _, hJ.p1.alloc _, hJ.p2.new hd (by have := hJ.q3.lt; omega), hJ.p3.alloc _, hJ.n01, fun h _ => hJ.p0.ne h, hJ.n03, fun h _ => hJ.p1.ne h, hJ.n13, fun _ h => (hJ.p3.ne h).symm⟩
    refine free_step rfl ?_ ?_
    · rintro d _ W2 ⟨v35, v40, v45, v50, v15, v16, v17, v18, rfl, hJ⟩ hd hD K9 hS9
      simp only [puts, Act.put, List.setIfInBounds_toArray, List.set_cons_zero, List.set_cons_succ]
      go_simp
      refine hS9.out _ _ ⟨[v35, v40, v45, v50, v15, v16, v17, .pointer (some ⟨W2.heap.size, 0, none⟩)], by simp only [puts, Act.put, List.setIfInBounds_toArray, List.set_cons_zero, List.set_cons_succ], _, _, _, _, _, _, _, _, rfl, ?_⟩
      exact ⟨hJ.q0.alloc _, hJ.q1.alloc _, hJ.q2.alloc _, hJ.q3.alloc _, balloc hJ.hb _, hJ.c0, hJ.c1, hJ.c2, hJ.c3, hJ.p0.alloc _, hJ.p1.alloc _, hJ.p2.alloc _, hJ.p3.new hd (by have := hJ.q3.lt; omega), hJ.n01, hJ.n02, fun h _ => hJ.p0.ne h, hJ.n12, fun h _ => hJ.p1.ne h, fun h _ => hJ.p2.ne h⟩
    refine free_step rfl ?_ ?_
    · rintro d _ W2 ⟨v35, v40, v45, v50, v15, v16, v17, v18, rfl, hJ⟩ hd hD K9 hS9
      simp only [puts, Act.put, List.setIfInBounds_toArray, List.set_cons_zero, List.set_cons_succ]
      obtain ⟨h4, h19, h20, h21, h22, h23, -⟩ := hD
      obtain rfl := hJ.c0 h4
      obtain ⟨g, a, b, rfl, hBg, hg⟩ := hJ.p0.at_ h20
      have cg := hg.c
      have fg := hg.f
      have lg := hg.lt
      go_simp
      refine hS9.out _ _ ⟨[.agg #[.int .i64 g1, .int .i64 g2], v40, v45, v50, .pointer (some ⟨g, 0, none⟩), v16, v17, v18], by simp only [puts, Act.put, List.setIfInBounds_toArray, List.set_cons_zero, List.set_cons_succ], _, _, _, _, _, _, _, _, rfl, ?_⟩
      exact ⟨hJ.q0.other2 (by omega) _ _, hJ.q1.other2 (by omega) _ _, hJ.q2.other2 (by omega) _ _, hJ.q3.other2 (by omega) _ _, bset2 hJ.hb (by omega) _ _, hJ.c0, hJ.c1, hJ.c2, hJ.c3, hJ.p0.set h20, hJ.p1.other (fun h => (hJ.n01 h20 h).symm), hJ.p2.other (fun h => (hJ.n02 h20 h).symm), hJ.p3.other (fun h => (hJ.n03 h20 h).symm), hJ.n01, hJ.n02, hJ.n03, hJ.n12, hJ.n13, hJ.n23⟩
    refine free_step rfl ?_ ?_
    · rintro d _ W2 ⟨v35, v40, v45, v50, v15, v16, v17, v18, rfl, hJ⟩ hd hD K9 hS9
      simp only [puts, Act.put, List.setIfInBounds_toArray, List.set_cons_zero, List.set_cons_succ]
      obtain ⟨h4, h9, h20, h21, h22, h23, h24, -⟩ := hD
      obtain rfl := hJ.c1 h9
      obtain ⟨g, a, b, rfl, hBg, hg⟩ := hJ.p1.at_ h21
      have cg := hg.c
      have fg := hg.f
      have lg := hg.lt
      go_simp
      refine hS9.out _ _ ⟨[v35, .agg #[.int .i64 s1, .int .i64 s2], v45, v50, v15, .pointer (some ⟨g, 0, none⟩), v17, v18], by simp only [puts, Act.put, List.setIfInBounds_toArray, List.set_cons_zero, List.set_cons_succ], _, _, _, _, _, _, _, _, rfl, ?_⟩
      exact ⟨hJ.q0.other2 (by omega) _ _, hJ.q1.other2 (by omega) _ _, hJ.q2.other2 (by omega) _ _, hJ.q3.other2 (by omega) _ _, bset2 hJ.hb (by omega) _ _, hJ.c0, hJ.c1, hJ.c2, hJ.c3, hJ.p0.other (fun h => hJ.n01 h h21), hJ.p1.set h21, hJ.p2.other (fun h => (hJ.n12 h21 h).symm), hJ.p3.other (fun h => (hJ.n13 h21 h).symm), hJ.n01, hJ.n02, hJ.n03, hJ.n12, hJ.n13, hJ.n23⟩
    refine free_step rfl ?_ ?_
    · rintro d _ W2 ⟨v35, v40, v45, v50, v15, v16, v17, v18, rfl, hJ⟩ hd hD K9 hS9
      simp only [puts, Act.put, List.setIfInBounds_toArray, List.set_cons_zero, List.set_cons_succ]
      obtain ⟨h4, h9, h14, h20, h21, h22, h23, h24, h25, -⟩ := hD
      obtain rfl := hJ.c2 h14
      obtain ⟨g, a, b, rfl, hBg, hg⟩ := hJ.p2.at_ h22
      have cg := hg.c
      have fg := hg.f
      have lg := hg.lt
      go_simp
      refine hS9.out _ _ ⟨[v35, v40, .agg #[.int .i64 a1, .int .i64 a2], v50, v15, v16, .pointer (some ⟨g, 0, none⟩), v18], by simp only [puts, Act.put, List.setIfInBounds_toArray, List.set_cons_zero, List.set_cons_succ], _, _, _, _, _, _, _, _, rfl, ?_⟩
      exact ⟨hJ.q0.other2 (by omega) _ _, hJ.q1.other2 (by omega) _ _, hJ.q2.other2 (by omega) _ _, hJ.q3.other2 (by omega) _ _, bset2 hJ.hb (by omega) _ _, hJ.c0, hJ.c1, hJ.c2, hJ.c3, hJ.p0.other (fun h => hJ.n02 h h22), hJ.p1.other (fun h => hJ.n12 h h22), hJ.p2.set h22, hJ.p3.other (fun h => (hJ.n23 h22 h).symm), hJ.n01, hJ.n02, hJ.n03, hJ.n12, hJ.n13, hJ.n23⟩
    refine free_step rfl ?_ ?_
    · rintro d _ W2 ⟨v35, v40, v45, v50, v15, v16, v17, v18, rfl, hJ⟩ hd hD K9 hS9
      simp only [puts, Act.put, List.setIfInBounds_toArray, List.set_cons_zero, List.set_cons_succ]
      obtain ⟨h4, h9, h14, h19, h20, h21, h22, h23, h24, h25, h26, -⟩ := hD
      obtain rfl := hJ.c3 h19
      obtain ⟨g, a, b, rfl, hBg, hg⟩ := hJ.p3.at_ h23
      have cg := hg.c
      have fg := hg.f
      have lg := hg.lt
      go_simp
      refine hS9.out _ _ ⟨[v35, v40, v45, .agg #[.int .i64 b1, .int .i64 b2], v15, v16, v17, .pointer (some ⟨g, 0, none⟩)], by simp only [puts, Act.put, List.setIfInBounds_toArray, List.set_cons_zero, List.set_cons_succ], _, _, _, _, _, _, _, _, rfl, ?_⟩
      exact ⟨hJ.q0.other2 (by omega) _ _, hJ.q1.other2 (by omega) _ _, hJ.q2.other2 (by omega) _ _, hJ.q3.other2 (by omega) _ _, bset2 hJ.hb (by omega) _ _, hJ.c0, hJ.c1, hJ.c2, hJ.c3, hJ.p0.other (fun h => hJ.n03 h h23), hJ.p1.other (fun h => hJ.n13 h h23), hJ.p2.other (fun h => hJ.n23 h h23), hJ.p3.set h23, hJ.n01, hJ.n02, hJ.n03, hJ.n12, hJ.n13, hJ.n23⟩
    · exact free_done
    rintro d _ W2 hd ⟨v35, v40, v45, v50, v15, v16, v17, v18, rfl, hJ⟩
    simp only [fsts, allB] at hd
    obtain ⟨h4, h9, h14, h19, h20, h21, h22, h23, h24, h25, h26, h27, -⟩ := hd
    obtain rfl := hJ.c0 h4
    obtain ⟨g15, rfl, -, B15⟩ := hJ.p0.out h20 h24
    obtain rfl := hJ.c1 h9
    obtain ⟨g16, rfl, -, B16⟩ := hJ.p1.out h21 h25
    obtain rfl := hJ.c2 h14
    obtain ⟨g17, rfl, -, B17⟩ := hJ.p2.out h22 h26
    obtain rfl := hJ.c3 h19
    obtain ⟨g18, rfl, -, B18⟩ := hJ.p3.out h23 h27
    simp only [puts, Act.put, List.setIfInBounds_toArray, List.set_cons_zero, List.set_cons_succ]
    go_wp2_with fail
    go_meet
    exact ⟨_, _, _, _, rfl, rfl, rfl, rfl, B15, B16, B17, B18, hJ.hb⟩
  case rest =>
    obtain ⟨b15, b16, b17, b18, rfl, rfl, rfl, rfl, B15, B16, B17, B18, hbw⟩ := hcut
    have cB15 := B15.c
    have fB15 := B15.f
    have lB15 := B15.lt
    have cB16 := B16.c
    have fB16 := B16.f
    have lB16 := B16.lt
    have cB17 := B17.c
    have fB17 := B17.f
    have lB17 := B17.lt
    have cB18 := B18.c
    have fB18 := B18.f
    have lB18 := B18.lt
    clear kg ks ka kb
    have hg := HHg.out
    have hs := HHs.out
    have ha := HHa.out
    have hb := HHb.out
    obtain ⟨hn1, hn2⟩ := Hn2.out
    have hrn := Hrn.out
    have hask := askedP hg hs ha hb
    have kP := fun W => plan_any g1 g2 s1 s2 a1 a2 b1 b2 W
    rw [planE_ok hg hs ha hb] at kP
    obtain ⟨kb, hkb⟩ : ∃ kb, planQ g1 g2 s1 s2 a1 a2 b1 b2 n r = kb := ⟨_, rfl⟩
    have kk := fun W => keeps_any n r g1 g2 s1 s2 a1 a2 b1 b2 W hn2 hrn hask kb hkb.symm
    unfold planP at kP
    unfold RetPL at kP
    dsimp only at kP
    obtain ⟨o, ho⟩ : ∃ o, Em.planFrom (planQ g1 g2 s1 s2 a1 a2 b1 b2) 1 12 = o := ⟨_, rfl⟩
    rw [ho] at kP
    cases o with
    | none =>
      obtain rfl : false = kb := by rw [← hkb, Em.planFrom_none ho n r hn1 (by omega) hrn]
      dsimp only at kP
      clear ho hkb hask hg hs ha hb HHg HHs HHa HHb Hrn Hn2 HM hn1 hn2 hrn
      go_wp2_with fail
      refine (kP _).mono ?_
      rintro e w1 ⟨rfl, hb1⟩
      replace B15 : Cs w1 b15 #[.int .i64 g1, .int .i64 g2] := Cs.keep (by repeat (first | with_reducible assumption | (with_reducible refine Cs.new _ _ _ _ ?_; first | rfl | (simp; done)) | with_reducible refine Cs.alloc ?_ _ | with_reducible refine Cs.drewN ?_ _ | with_reducible refine Cs.drew ?_ | with_reducible refine Cs.set4 ?_ _ _ _ _ | (with_reducible refine Cs.other4 ?_ ?_ _ _ _ _; rotate_left; focus (first | assumption | omega | (simp; done) | (simp; omega))) | with_reducible refine Cs.set2 ?_ _ _ | (with_reducible refine Cs.other2 ?_ ?_ _ _; rotate_left; focus (first | assumption | omega | (simp; done) | (simp; omega))) | (with_reducible refine Cs.other ?_ ?_ _; rotate_left; focus (first | assumption | omega | (simp; done) | (simp; omega))) | with_reducible refine Cs.keep ?_ (by assumption) | assumption)) hb1
      replace B16 : Cs w1 b16 #[.int .i64 s1, .int .i64 s2] := Cs.keep (by repeat (first | with_reducible assumption | (with_reducible refine Cs.new _ _ _ _ ?_; first | rfl | (simp; done)) | with_reducible refine Cs.alloc ?_ _ | with_reducible refine Cs.drewN ?_ _ | with_reducible refine Cs.drew ?_ | with_reducible refine Cs.set4 ?_ _ _ _ _ | (with_reducible refine Cs.other4 ?_ ?_ _ _ _ _; rotate_left; focus (first | assumption | omega | (simp; done) | (simp; omega))) | with_reducible refine Cs.set2 ?_ _ _ | (with_reducible refine Cs.other2 ?_ ?_ _ _; rotate_left; focus (first | assumption | omega | (simp; done) | (simp; omega))) | (with_reducible refine Cs.other ?_ ?_ _; rotate_left; focus (first | assumption | omega | (simp; done) | (simp; omega))) | with_reducible refine Cs.keep ?_ (by assumption) | assumption)) hb1
      replace B17 : Cs w1 b17 #[.int .i64 a1, .int .i64 a2] := Cs.keep (by repeat (first | with_reducible assumption | (with_reducible refine Cs.new _ _ _ _ ?_; first | rfl | (simp; done)) | with_reducible refine Cs.alloc ?_ _ | with_reducible refine Cs.drewN ?_ _ | with_reducible refine Cs.drew ?_ | with_reducible refine Cs.set4 ?_ _ _ _ _ | (with_reducible refine Cs.other4 ?_ ?_ _ _ _ _; rotate_left; focus (first | assumption | omega | (simp; done) | (simp; omega))) | with_reducible refine Cs.set2 ?_ _ _ | (with_reducible refine Cs.other2 ?_ ?_ _ _; rotate_left; focus (first | assumption | omega | (simp; done) | (simp; omega))) | (with_reducible refine Cs.other ?_ ?_ _; rotate_left; focus (first | assumption | omega | (simp; done) | (simp; omega))) | with_reducible refine Cs.keep ?_ (by assumption) | assumption)) hb1
      replace B18 : Cs w1 b18 #[.int .i64 b1, .int .i64 b2] := Cs.keep (by repeat (first | with_reducible assumption | (with_reducible refine Cs.new _ _ _ _ ?_; first | rfl | (simp; done)) | with_reducible refine Cs.alloc ?_ _ | with_reducible refine Cs.drewN ?_ _ | with_reducible refine Cs.drew ?_ | with_reducible refine Cs.set4 ?_ _ _ _ _ | (with_reducible refine Cs.other4 ?_ ?_ _ _ _ _; rotate_left; focus (first | assumption | omega | (simp; done) | (simp; omega))) | with_reducible refine Cs.set2 ?_ _ _ | (with_reducible refine Cs.other2 ?_ ?_ _ _; rotate_left; focus (first | assumption | omega | (simp; done) | (simp; omega))) | (with_reducible refine Cs.other ?_ ?_ _; rotate_left; focus (first | assumption | omega | (simp; done) | (simp; omega))) | with_reducible refine Cs.keep ?_ (by assumption) | assumption)) hb1
      replace hbw : Below w.heap.size w w1 := (by repeat (first | with_reducible exact Below.refl _ _ | with_reducible assumption | with_reducible refine balloc ?_ _ | with_reducible refine bdrewN ?_ _ | with_reducible refine Below.drew ?_ | (with_reducible refine bset ?_ ?_ _; rotate_left; focus (first | assumption | omega | (simp; done) | (simp; omega))) | with_reducible refine bstep ?_ (by assumption) | assumption))
      replace cB15 := B15.c
      replace fB15 := B15.f
      replace lB15 := B15.lt
      replace cB16 := B16.c
      replace fB16 := B16.f
      replace lB16 := B16.lt
      replace cB17 := B17.c
      replace fB17 := B17.f
      replace lB17 := B17.lt
      replace cB18 := B18.c
      replace fB18 := B18.f
      replace lB18 := B18.lt
      clear hb1
      go_wp2_with fail
      refine (kk _).mono ?_
      rintro e w2 ⟨rfl, hb2⟩
      try clear cB15 fB15 lB15
      try clear B15
      try clear cB16 fB16 lB16
      try clear B16
      try clear cB17 fB17 lB17
      try clear B17
      try clear cB18 fB18 lB18
      try clear B18
      replace B19 : Cs w2 (w1.heap.size) #[.int .i64 0, .int .i64 0] := Cs.keep (by repeat (first | with_reducible assumption | (with_reducible refine Cs.new _ _ _ _ ?_; first | rfl | (simp; done)) | with_reducible refine Cs.alloc ?_ _ | with_reducible refine Cs.drewN ?_ _ | with_reducible refine Cs.drew ?_ | with_reducible refine Cs.set4 ?_ _ _ _ _ | (with_reducible refine Cs.other4 ?_ ?_ _ _ _ _; rotate_left; focus (first | assumption | omega | (simp; done) | (simp; omega))) | with_reducible refine Cs.set2 ?_ _ _ | (with_reducible refine Cs.other2 ?_ ?_ _ _; rotate_left; focus (first | assumption | omega | (simp; done) | (simp; omega))) | (with_reducible refine Cs.other ?_ ?_ _; rotate_left; focus (first | assumption | omega | (simp; done) | (simp; omega))) | with_reducible refine Cs.keep ?_ (by assumption) | assumption)) hb2
      replace B22 : Cs w2 (w1.heap.size + 1) #[.int .i64 n, .int .i64 r] := Cs.keep (by repeat (first | with_reducible assumption | (with_reducible refine Cs.new _ _ _ _ ?_; first | rfl | (simp; done)) | with_reducible refine Cs.alloc ?_ _ | with_reducible refine Cs.drewN ?_ _ | with_reducible refine Cs.drew ?_ | with_reducible refine Cs.set4 ?_ _ _ _ _ | (with_reducible refine Cs.other4 ?_ ?_ _ _ _ _; rotate_left; focus (first | assumption | omega | (simp; done) | (simp; omega))) | with_reducible refine Cs.set2 ?_ _ _ | (with_reducible refine Cs.other2 ?_ ?_ _ _; rotate_left; focus (first | assumption | omega | (simp; done) | (simp; omega))) | (with_reducible refine Cs.other ?_ ?_ _; rotate_left; focus (first | assumption | omega | (simp; done) | (simp; omega))) | with_reducible refine Cs.keep ?_ (by assumption) | assumption)) hb2
      replace hbw : Below w.heap.size w w2 := (by repeat (first | with_reducible exact Below.refl _ _ | with_reducible assumption | with_reducible refine balloc ?_ _ | with_reducible refine bdrewN ?_ _ | with_reducible refine Below.drew ?_ | (with_reducible refine bset ?_ ?_ _; rotate_left; focus (first | assumption | omega | (simp; done) | (simp; omega))) | with_reducible refine bstep ?_ (by assumption) | assumption))
      replace cB19 := B19.c
      replace fB19 := B19.f
      replace lB19 := B19.lt
      replace cB22 := B22.c
      replace fB22 := B22.f
      replace lB22 := B22.lt
      clear hb2
      clear kP kk
      go_wp2_with fail
      refine (kw _).mono ?_
      rintro e w3 ⟨rfl, hb3⟩
      try clear cB15 fB15 lB15
      try clear B15
      try clear cB16 fB16 lB16
      try clear B16
      try clear cB17 fB17 lB17
      try clear B17
      try clear cB18 fB18 lB18
      try clear B18
      try clear cB19 fB19 lB19
      try clear B19
      try clear cB22 fB22 lB22
      try clear B22
      replace hbw : Below w.heap.size w w3 := (by repeat (first | with_reducible exact Below.refl _ _ | with_reducible assumption | with_reducible refine balloc ?_ _ | with_reducible refine bdrewN ?_ _ | with_reducible refine Below.drew ?_ | (with_reducible refine bset ?_ ?_ _; rotate_left; focus (first | assumption | omega | (simp; done) | (simp; omega))) | with_reducible refine bstep ?_ (by assumption) | assumption))
      clear hb3
      go_wp2_with fail
      go_ret
      exact ⟨rfl, (by repeat (first | with_reducible exact Below.refl _ _ | with_reducible assumption | with_reducible refine balloc ?_ _ | with_reducible refine bdrewN ?_ _ | with_reducible refine Below.drew ?_ | (with_reducible refine bset ?_ ?_ _; rotate_left; focus (first | assumption | omega | (simp; done) | (simp; omega))) | with_reducible refine bstep ?_ (by assumption) | assumption))⟩
    | some xy =>
      obtain ⟨x, y⟩ := xy
      dsimp only at kP
      obtain ⟨x1, x2, y1, hq, hbest, hright⟩ := Em.planFrom_some ho
      have kX := fun W => keeps_any x y g1 g2 s1 s2 a1 a2 b1 b2 W (by omega) y1 hask true hq.symm
      have ki := fun W => risPlan_any x y W
      rw [decide_eq_true (show (1 : Int) ≤ (x : Nat) ∧ ((x : Nat) : Int) ≤ 12 ∧ (0 : Int) ≤ (y : Nat) ∧ ((y : Nat) : Int) ≤ (x : Nat) by omega)] at ki
      have hno : kb = true → ¬ n < x ∧ (n = x → ¬ r < y) := fun h => by
        subst h
        refine ⟨fun h => ?_, fun h h' => ?_⟩
        · rw [hbest n r hn1 h hrn] at hkb; cases hkb
        · subst h; rw [hright r h'] at hkb; cases hkb
      have Hno := Lib.hid hno
      have Hq := Lib.hid hq
      clear ho hkb hask hg hs ha hb hrn hbest hright hno hq
      go_wp2_with fail
      refine (kP _).mono ?_
      rintro e w1 ⟨rfl, hb1⟩
      replace B15 : Cs w1 b15 #[.int .i64 g1, .int .i64 g2] := Cs.keep (by repeat (first | with_reducible assumption | (with_reducible refine Cs.new _ _ _ _ ?_; first | rfl | (simp; done)) | with_reducible refine Cs.alloc ?_ _ | with_reducible refine Cs.drewN ?_ _ | with_reducible refine Cs.drew ?_ | with_reducible refine Cs.set4 ?_ _ _ _ _ | (with_reducible refine Cs.other4 ?_ ?_ _ _ _ _; rotate_left; focus (first | assumption | omega | (simp; done) | (simp; omega))) | with_reducible refine Cs.set2 ?_ _ _ | (with_reducible refine Cs.other2 ?_ ?_ _ _; rotate_left; focus (first | assumption | omega | (simp; done) | (simp; omega))) | (with_reducible refine Cs.other ?_ ?_ _; rotate_left; focus (first | assumption | omega | (simp; done) | (simp; omega))) | with_reducible refine Cs.keep ?_ (by assumption) | assumption)) hb1
      replace B16 : Cs w1 b16 #[.int .i64 s1, .int .i64 s2] := Cs.keep (by repeat (first | with_reducible assumption | (with_reducible refine Cs.new _ _ _ _ ?_; first | rfl | (simp; done)) | with_reducible refine Cs.alloc ?_ _ | with_reducible refine Cs.drewN ?_ _ | with_reducible refine Cs.drew ?_ | with_reducible refine Cs.set4 ?_ _ _ _ _ | (with_reducible refine Cs.other4 ?_ ?_ _ _ _ _; rotate_left; focus (first | assumption | omega | (simp; done) | (simp; omega))) | with_reducible refine Cs.set2 ?_ _ _ | (with_reducible refine Cs.other2 ?_ ?_ _ _; rotate_left; focus (first | assumption | omega | (simp; done) | (simp; omega))) | (with_reducible refine Cs.other ?_ ?_ _; rotate_left; focus (first | assumption | omega | (simp; done) | (simp; omega))) | with_reducible refine Cs.keep ?_ (by assumption) | assumption)) hb1
      replace B17 : Cs w1 b17 #[.int .i64 a1, .int .i64 a2] := Cs.keep (by repeat (first | with_reducible assumption | (with_reducible refine Cs.new _ _ _ _ ?_; first | rfl | (simp; done)) | with_reducible refine Cs.alloc ?_ _ | with_reducible refine Cs.drewN ?_ _ | with_reducible refine Cs.drew ?_ | with_reducible refine Cs.set4 ?_ _ _ _ _ | (with_reducible refine Cs.other4 ?_ ?_ _ _ _ _; rotate_left; focus (first | assumption | omega | (simp; done) | (simp; omega))) | with_reducible refine Cs.set2 ?_ _ _ | (with_reducible refine Cs.other2 ?_ ?_ _ _; rotate_left; focus (first | assumption | omega | (simp; done) | (simp; omega))) | (with_reducible refine Cs.other ?_ ?_ _; rotate_left; focus (first | assumption | omega | (simp; done) | (simp; omega))) | with_reducible refine Cs.keep ?_ (by assumption) | assumption)) hb1
      replace B18 : Cs w1 b18 #[.int .i64 b1, .int .i64 b2] := Cs.keep (by repeat (first | with_reducible assumption | (with_reducible refine Cs.new _ _ _ _ ?_; first | rfl | (simp; done)) | with_reducible refine Cs.alloc ?_ _ | with_reducible refine Cs.drewN ?_ _ | with_reducible refine Cs.drew ?_ | with_reducible refine Cs.set4 ?_ _ _ _ _ | (with_reducible refine Cs.other4 ?_ ?_ _ _ _ _; rotate_left; focus (first | assumption | omega | (simp; done) | (simp; omega))) | with_reducible refine Cs.set2 ?_ _ _ | (with_reducible refine Cs.other2 ?_ ?_ _ _; rotate_left; focus (first | assumption | omega | (simp; done) | (simp; omega))) | (with_reducible refine Cs.other ?_ ?_ _; rotate_left; focus (first | assumption | omega | (simp; done) | (simp; omega))) | with_reducible refine Cs.keep ?_ (by assumption) | assumption)) hb1
      replace hbw : Below w.heap.size w w1 := (by repeat (first | with_reducible exact Below.refl _ _ | with_reducible assumption | with_reducible refine balloc ?_ _ | with_reducible refine bdrewN ?_ _ | with_reducible refine Below.drew ?_ | (with_reducible refine bset ?_ ?_ _; rotate_left; focus (first | assumption | omega | (simp; done) | (simp; omega))) | with_reducible refine bstep ?_ (by assumption) | assumption))
      replace cB15 := B15.c
      replace fB15 := B15.f
      replace lB15 := B15.lt
      replace cB16 := B16.c
      replace fB16 := B16.f
      replace lB16 := B16.lt
      replace cB17 := B17.c
      replace fB17 := B17.f
      replace lB17 := B17.lt
      replace cB18 := B18.c
      replace fB18 := B18.f
      replace lB18 := B18.lt
      clear hb1
      go_wp2_with fail
      refine (kk _).mono ?_
      rintro e w2 ⟨rfl, hb2⟩
      replace B15 : Cs w2 b15 #[.int .i64 g1, .int .i64 g2] := Cs.keep (by repeat (first | with_reducible assumption | (with_reducible refine Cs.new _ _ _ _ ?_; first | rfl | (simp; done)) | with_reducible refine Cs.alloc ?_ _ | with_reducible refine Cs.drewN ?_ _ | with_reducible refine Cs.drew ?_ | with_reducible refine Cs.set4 ?_ _ _ _ _ | (with_reducible refine Cs.other4 ?_ ?_ _ _ _ _; rotate_left; focus (first | assumption | omega | (simp; done) | (simp; omega))) | with_reducible refine Cs.set2 ?_ _ _ | (with_reducible refine Cs.other2 ?_ ?_ _ _; rotate_left; focus (first | assumption | omega | (simp; done) | (simp; omega))) | (with_reducible refine Cs.other ?_ ?_ _; rotate_left; focus (first | assumption | omega | (simp; done) | (simp; omega))) | with_reducible refine Cs.keep ?_ (by assumption) | assumption)) hb2
      replace B16 : Cs w2 b16 #[.int .i64 s1, .int .i64 s2] := Cs.keep (by repeat (first | with_reducible assumption | (with_reducible refine Cs.new _ _ _ _ ?_; first | rfl | (simp; done)) | with_reducible refine Cs.alloc ?_ _ | with_reducible refine Cs.drewN ?_ _ | with_reducible refine Cs.drew ?_ | with_reducible refine Cs.set4 ?_ _ _ _ _ | (with_reducible refine Cs.other4 ?_ ?_ _ _ _ _; rotate_left; focus (first | assumption | omega | (simp; done) | (simp; omega))) | with_reducible refine Cs.set2 ?_ _ _ | (with_reducible refine Cs.other2 ?_ ?_ _ _; rotate_left; focus (first | assumption | omega | (simp; done) | (simp; omega))) | (with_reducible refine Cs.other ?_ ?_ _; rotate_left; focus (first | assumption | omega | (simp; done) | (simp; omega))) | with_reducible refine Cs.keep ?_ (by assumption) | assumption)) hb2
      replace B17 : Cs w2 b17 #[.int .i64 a1, .int .i64 a2] := Cs.keep (by repeat (first | with_reducible assumption | (with_reducible refine Cs.new _ _ _ _ ?_; first | rfl | (simp; done)) | with_reducible refine Cs.alloc ?_ _ | with_reducible refine Cs.drewN ?_ _ | with_reducible refine Cs.drew ?_ | with_reducible refine Cs.set4 ?_ _ _ _ _ | (with_reducible refine Cs.other4 ?_ ?_ _ _ _ _; rotate_left; focus (first | assumption | omega | (simp; done) | (simp; omega))) | with_reducible refine Cs.set2 ?_ _ _ | (with_reducible refine Cs.other2 ?_ ?_ _ _; rotate_left; focus (first | assumption | omega | (simp; done) | (simp; omega))) | (with_reducible refine Cs.other ?_ ?_ _; rotate_left; focus (first | assumption | omega | (simp; done) | (simp; omega))) | with_reducible refine Cs.keep ?_ (by assumption) | assumption)) hb2
      replace B18 : Cs w2 b18 #[.int .i64 b1, .int .i64 b2] := Cs.keep (by repeat (first | with_reducible assumption | (with_reducible refine Cs.new _ _ _ _ ?_; first | rfl | (simp; done)) | with_reducible refine Cs.alloc ?_ _ | with_reducible refine Cs.drewN ?_ _ | with_reducible refine Cs.drew ?_ | with_reducible refine Cs.set4 ?_ _ _ _ _ | (with_reducible refine Cs.other4 ?_ ?_ _ _ _ _; rotate_left; focus (first | assumption | omega | (simp; done) | (simp; omega))) | with_reducible refine Cs.set2 ?_ _ _ | (with_reducible refine Cs.other2 ?_ ?_ _ _; rotate_left; focus (first | assumption | omega | (simp; done) | (simp; omega))) | (with_reducible refine Cs.other ?_ ?_ _; rotate_left; focus (first | assumption | omega | (simp; done) | (simp; omega))) | with_reducible refine Cs.keep ?_ (by assumption) | assumption)) hb2
      replace B19 : Cs w2 (w1.heap.size) #[.int .i64 x, .int .i64 y] := Cs.keep (by repeat (first | with_reducible assumption | (with_reducible refine Cs.new _ _ _ _ ?_; first | rfl | (simp; done)) | with_reducible refine Cs.alloc ?_ _ | with_reducible refine Cs.drewN ?_ _ | with_reducible refine Cs.drew ?_ | with_reducible refine Cs.set4 ?_ _ _ _ _ | (with_reducible refine Cs.other4 ?_ ?_ _ _ _ _; rotate_left; focus (first | assumption | omega | (simp; done) | (simp; omega))) | with_reducible refine Cs.set2 ?_ _ _ | (with_reducible refine Cs.other2 ?_ ?_ _ _; rotate_left; focus (first | assumption | omega | (simp; done) | (simp; omega))) | (with_reducible refine Cs.other ?_ ?_ _; rotate_left; focus (first | assumption | omega | (simp; done) | (simp; omega))) | with_reducible refine Cs.keep ?_ (by assumption) | assumption)) hb2
      replace B22 : Cs w2 (w1.heap.size + 1) #[.int .i64 n, .int .i64 r] := Cs.keep (by repeat (first | with_reducible assumption | (with_reducible refine Cs.new _ _ _ _ ?_; first | rfl | (simp; done)) | with_reducible refine Cs.alloc ?_ _ | with_reducible refine Cs.drewN ?_ _ | with_reducible refine Cs.drew ?_ | with_reducible refine Cs.set4 ?_ _ _ _ _ | (with_reducible refine Cs.other4 ?_ ?_ _ _ _ _; rotate_left; focus (first | assumption | omega | (simp; done) | (simp; omega))) | with_reducible refine Cs.set2 ?_ _ _ | (with_reducible refine Cs.other2 ?_ ?_ _ _; rotate_left; focus (first | assumption | omega | (simp; done) | (simp; omega))) | (with_reducible refine Cs.other ?_ ?_ _; rotate_left; focus (first | assumption | omega | (simp; done) | (simp; omega))) | with_reducible refine Cs.keep ?_ (by assumption) | assumption)) hb2
      replace hbw : Below w.heap.size w w2 := (by repeat (first | with_reducible exact Below.refl _ _ | with_reducible assumption | with_reducible refine balloc ?_ _ | with_reducible refine bdrewN ?_ _ | with_reducible refine Below.drew ?_ | (with_reducible refine bset ?_ ?_ _; rotate_left; focus (first | assumption | omega | (simp; done) | (simp; omega))) | with_reducible refine bstep ?_ (by assumption) | assumption))
      replace cB15 := B15.c
      replace fB15 := B15.f
      replace lB15 := B15.lt
      replace cB16 := B16.c
      replace fB16 := B16.f
      replace lB16 := B16.lt
      replace cB17 := B17.c
      replace fB17 := B17.f
      replace lB17 := B17.lt
      replace cB18 := B18.c
      replace fB18 := B18.f
      replace lB18 := B18.lt
      replace cB19 := B19.c
      replace fB19 := B19.f
      replace lB19 := B19.lt
      replace cB22 := B22.c
      replace fB22 := B22.f
      replace lB22 := B22.lt
      clear hb2
      clear kP kk
      go_upto_region 8 with fail
      go_cut [127] (fun s127 wx => s127 = .bool false ∧ Cs wx b15 #[.int .i64 g1, .int .i64 g2] ∧ Cs wx b16 #[.int .i64 s1, .int .i64 s2] ∧ Cs wx b17 #[.int .i64 a1, .int .i64 a2] ∧ Cs wx b18 #[.int .i64 b1, .int .i64 b2] ∧ Cs wx w1.heap.size #[.int .i64 x, .int .i64 y] ∧ Below w.heap.size w wx)
      case first =>
       as_aux_lemma =>
        clear kw HHg HHs HHa HHb Hrn Hn2 HM Hq f0 f1 f2 f3 f4 f5 f6 f7 f8 fM
        go_wp2_with fail
        refine (ki _).mono ?_
        rintro e w3 ⟨rfl, hb3⟩
        replace B15 : Cs w3 b15 #[.int .i64 g1, .int .i64 g2] := Cs.keep (by repeat (first | with_reducible assumption | (with_reducible refine Cs.new _ _ _ _ ?_; first | rfl | (simp; done)) | with_reducible refine Cs.alloc ?_ _ | with_reducible refine Cs.drewN ?_ _ | with_reducible refine Cs.drew ?_ | with_reducible refine Cs.set4 ?_ _ _ _ _ | (with_reducible refine Cs.other4 ?_ ?_ _ _ _ _; rotate_left; focus (first | assumption | omega | (simp; done) | (simp; omega))) | with_reducible refine Cs.set2 ?_ _ _ | (with_reducible refine Cs.other2 ?_ ?_ _ _; rotate_left; focus (first | assumption | omega | (simp; done) | (simp; omega))) | (with_reducible refine Cs.other ?_ ?_ _; rotate_left; focus (first | assumption | omega | (simp; done) | (simp; omega))) | with_reducible refine Cs.keep ?_ (by assumption) | assumption)) hb3
        replace B16 : Cs w3 b16 #[.int .i64 s1, .int .i64 s2] := Cs.keep (by repeat (first | with_reducible assumption | (with_reducible refine Cs.new _ _ _ _ ?_; first | rfl | (simp; done)) | with_reducible refine Cs.alloc ?_ _ | with_reducible refine Cs.drewN ?_ _ | with_reducible refine Cs.drew ?_ | with_reducible refine Cs.set4 ?_ _ _ _ _ | (with_reducible refine Cs.other4 ?_ ?_ _ _ _ _; rotate_left; focus (first | assumption | omega | (simp; done) | (simp; omega))) | with_reducible refine Cs.set2 ?_ _ _ | (with_reducible refine Cs.other2 ?_ ?_ _ _; rotate_left; focus (first | assumption | omega | (simp; done) | (simp; omega))) | (with_reducible refine Cs.other ?_ ?_ _; rotate_left; focus (first | assumption | omega | (simp; done) | (simp; omega))) | with_reducible refine Cs.keep ?_ (by assumption) | assumption)) hb3
        replace B17 : Cs w3 b17 #[.int .i64 a1, .int .i64 a2] := Cs.keep (by repeat (first | with_reducible assumption | (with_reducible refine Cs.new _ _ _ _ ?_; first | rfl | (simp; done)) | with_reducible refine Cs.alloc ?_ _ | with_reducible refine Cs.drewN ?_ _ | with_reducible refine Cs.drew ?_ | with_reducible refine Cs.set4 ?_ _ _ _ _ | (with_reducible refine Cs.other4 ?_ ?_ _ _ _ _; rotate_left; focus (first | assumption | omega | (simp; done) | (simp; omega))) | with_reducible refine Cs.set2 ?_ _ _ | (with_reducible refine Cs.other2 ?_ ?_ _ _; rotate_left; focus (first | assumption | omega | (simp; done) | (simp; omega))) | (with_reducible refine Cs.other ?_ ?_ _; rotate_left; focus (first | assumption | omega | (simp; done) | (simp; omega))) | with_reducible refine Cs.keep ?_ (by assumption) | assumption)) hb3
        replace B18 : Cs w3 b18 #[.int .i64 b1, .int .i64 b2] := Cs.keep (by repeat (first | with_reducible assumption | (with_reducible refine Cs.new _ _ _ _ ?_; first | rfl | (simp; done)) | with_reducible refine Cs.alloc ?_ _ | with_reducible refine Cs.drewN ?_ _ | with_reducible refine Cs.drew ?_ | with_reducible refine Cs.set4 ?_ _ _ _ _ | (with_reducible refine Cs.other4 ?_ ?_ _ _ _ _; rotate_left; focus (first | assumption | omega | (simp; done) | (simp; omega))) | with_reducible refine Cs.set2 ?_ _ _ | (with_reducible refine Cs.other2 ?_ ?_ _ _; rotate_left; focus (first | assumption | omega | (simp; done) | (simp; omega))) | (with_reducible refine Cs.other ?_ ?_ _; rotate_left; focus (first | assumption | omega | (simp; done) | (simp; omega))) | with_reducible refine Cs.keep ?_ (by assumption) | assumption)) hb3
        replace B19 : Cs w3 (w1.heap.size) #[.int .i64 x, .int .i64 y] := Cs.keep (by repeat (first | with_reducible assumption | (with_reducible refine Cs.new _ _ _ _ ?_; first | rfl | (simp; done)) | with_reducible refine Cs.alloc ?_ _ | with_reducible refine Cs.drewN ?_ _ | with_reducible refine Cs.drew ?_ | with_reducible refine Cs.set4 ?_ _ _ _ _ | (with_reducible refine Cs.other4 ?_ ?_ _ _ _ _; rotate_left; focus (first | assumption | omega | (simp; done) | (simp; omega))) | with_reducible refine Cs.set2 ?_ _ _ | (with_reducible refine Cs.other2 ?_ ?_ _ _; rotate_left; focus (first | assumption | omega | (simp; done) | (simp; omega))) | (with_reducible refine Cs.other ?_ ?_ _; rotate_left; focus (first | assumption | omega | (simp; done) | (simp; omega))) | with_reducible refine Cs.keep ?_ (by assumption) | assumption)) hb3
        replace B22 : Cs w3 (w1.heap.size + 1) #[.int .i64 n, .int .i64 r] := Cs.keep (by repeat (first | with_reducible assumption | (with_reducible refine Cs.new _ _ _ _ ?_; first | rfl | (simp; done)) | with_reducible refine Cs.alloc ?_ _ | with_reducible refine Cs.drewN ?_ _ | with_reducible refine Cs.drew ?_ | with_reducible refine Cs.set4 ?_ _ _ _ _ | (with_reducible refine Cs.other4 ?_ ?_ _ _ _ _; rotate_left; focus (first | assumption | omega | (simp; done) | (simp; omega))) | with_reducible refine Cs.set2 ?_ _ _ | (with_reducible refine Cs.other2 ?_ ?_ _ _; rotate_left; focus (first | assumption | omega | (simp; done) | (simp; omega))) | (with_reducible refine Cs.other ?_ ?_ _; rotate_left; focus (first | assumption | omega | (simp; done) | (simp; omega))) | with_reducible refine Cs.keep ?_ (by assumption) | assumption)) hb3
        replace hbw : Below w.heap.size w w3 := (by repeat (first | with_reducible exact Below.refl _ _ | with_reducible assumption | with_reducible refine balloc ?_ _ | with_reducible refine bdrewN ?_ _ | with_reducible refine Below.drew ?_ | (with_reducible refine bset ?_ ?_ _; rotate_left; focus (first | assumption | omega | (simp; done) | (simp; omega))) | with_reducible refine bstep ?_ (by assumption) | assumption))
        replace cB15 := B15.c
        replace fB15 := B15.f
        replace lB15 := B15.lt
        replace cB16 := B16.c
        replace fB16 := B16.f
        replace lB16 := B16.lt
        replace cB17 := B17.c
        replace fB17 := B17.f
        replace lB17 := B17.lt
        replace cB18 := B18.c
        replace fB18 := B18.f
        replace lB18 := B18.lt
        replace cB19 := B19.c
        replace fB19 := B19.f
        replace lB19 := B19.lt
        replace cB22 := B22.c
        replace fB22 := B22.f
        replace lB22 := B22.lt
        clear hb3
        go_wp2_with fail
        refine (kX _).mono ?_
        rintro e w4 ⟨rfl, hb4⟩
        replace B15 : Cs w4 b15 #[.int .i64 g1, .int .i64 g2] := Cs.keep (by repeat (first | with_reducible assumption | (with_reducible refine Cs.new _ _ _ _ ?_; first | rfl | (simp; done)) | with_reducible refine Cs.alloc ?_ _ | with_reducible refine Cs.drewN ?_ _ | with_reducible refine Cs.drew ?_ | with_reducible refine Cs.set4 ?_ _ _ _ _ | (with_reducible refine Cs.other4 ?_ ?_ _ _ _ _; rotate_left; focus (first | assumption | omega | (simp; done) | (simp; omega))) | with_reducible refine Cs.set2 ?_ _ _ | (with_reducible refine Cs.other2 ?_ ?_ _ _; rotate_left; focus (first | assumption | omega | (simp; done) | (simp; omega))) | (with_reducible refine Cs.other ?_ ?_ _; rotate_left; focus (first | assumption | omega | (simp; done) | (simp; omega))) | with_reducible refine Cs.keep ?_ (by assumption) | assumption)) hb4
        replace B16 : Cs w4 b16 #[.int .i64 s1, .int .i64 s2] := Cs.keep (by repeat (first | with_reducible assumption | (with_reducible refine Cs.new _ _ _ _ ?_; first | rfl | (simp; done)) | with_reducible refine Cs.alloc ?_ _ | with_reducible refine Cs.drewN ?_ _ | with_reducible refine Cs.drew ?_ | with_reducible refine Cs.set4 ?_ _ _ _ _ | (with_reducible refine Cs.other4 ?_ ?_ _ _ _ _; rotate_left; focus (first | assumption | omega | (simp; done) | (simp; omega))) | with_reducible refine Cs.set2 ?_ _ _ | (with_reducible refine Cs.other2 ?_ ?_ _ _; rotate_left; focus (first | assumption | omega | (simp; done) | (simp; omega))) | (with_reducible refine Cs.other ?_ ?_ _; rotate_left; focus (first | assumption | omega | (simp; done) | (simp; omega))) | with_reducible refine Cs.keep ?_ (by assumption) | assumption)) hb4
        replace B17 : Cs w4 b17 #[.int .i64 a1, .int .i64 a2] := Cs.keep (by repeat (first | with_reducible assumption | (with_reducible refine Cs.new _ _ _ _ ?_; first | rfl | (simp; done)) | with_reducible refine Cs.alloc ?_ _ | with_reducible refine Cs.drewN ?_ _ | with_reducible refine Cs.drew ?_ | with_reducible refine Cs.set4 ?_ _ _ _ _ | (with_reducible refine Cs.other4 ?_ ?_ _ _ _ _; rotate_left; focus (first | assumption | omega | (simp; done) | (simp; omega))) | with_reducible refine Cs.set2 ?_ _ _ | (with_reducible refine Cs.other2 ?_ ?_ _ _; rotate_left; focus (first | assumption | omega | (simp; done) | (simp; omega))) | (with_reducible refine Cs.other ?_ ?_ _; rotate_left; focus (first | assumption | omega | (simp; done) | (simp; omega))) | with_reducible refine Cs.keep ?_ (by assumption) | assumption)) hb4
        replace B18 : Cs w4 b18 #[.int .i64 b1, .int .i64 b2] := Cs.keep (by repeat (first | with_reducible assumption | (with_reducible refine Cs.new _ _ _ _ ?_; first | rfl | (simp; done)) | with_reducible refine Cs.alloc ?_ _ | with_reducible refine Cs.drewN ?_ _ | with_reducible refine Cs.drew ?_ | with_reducible refine Cs.set4 ?_ _ _ _ _ | (with_reducible refine Cs.other4 ?_ ?_ _ _ _ _; rotate_left; focus (first | assumption | omega | (simp; done) | (simp; omega))) | with_reducible refine Cs.set2 ?_ _ _ | (with_reducible refine Cs.other2 ?_ ?_ _ _; rotate_left; focus (first | assumption | omega | (simp; done) | (simp; omega))) | (with_reducible refine Cs.other ?_ ?_ _; rotate_left; focus (first | assumption | omega | (simp; done) | (simp; omega))) | with_reducible refine Cs.keep ?_ (by assumption) | assumption)) hb4
        replace B19 : Cs w4 (w1.heap.size) #[.int .i64 x, .int .i64 y] := Cs.keep (by repeat (first | with_reducible assumption | (with_reducible refine Cs.new _ _ _ _ ?_; first | rfl | (simp; done)) | with_reducible refine Cs.alloc ?_ _ | with_reducible refine Cs.drewN ?_ _ | with_reducible refine Cs.drew ?_ | with_reducible refine Cs.set4 ?_ _ _ _ _ | (with_reducible refine Cs.other4 ?_ ?_ _ _ _ _; rotate_left; focus (first | assumption | omega | (simp; done) | (simp; omega))) | with_reducible refine Cs.set2 ?_ _ _ | (with_reducible refine Cs.other2 ?_ ?_ _ _; rotate_left; focus (first | assumption | omega | (simp; done) | (simp; omega))) | (with_reducible refine Cs.other ?_ ?_ _; rotate_left; focus (first | assumption | omega | (simp; done) | (simp; omega))) | with_reducible refine Cs.keep ?_ (by assumption) | assumption)) hb4
        replace B22 : Cs w4 (w1.heap.size + 1) #[.int .i64 n, .int .i64 r] := Cs.keep (by repeat (first | with_reducible assumption | (with_reducible refine Cs.new _ _ _ _ ?_; first | rfl | (simp; done)) | with_reducible refine Cs.alloc ?_ _ | with_reducible refine Cs.drewN ?_ _ | with_reducible refine Cs.drew ?_ | with_reducible refine Cs.set4 ?_ _ _ _ _ | (with_reducible refine Cs.other4 ?_ ?_ _ _ _ _; rotate_left; focus (first | assumption | omega | (simp; done) | (simp; omega))) | with_reducible refine Cs.set2 ?_ _ _ | (with_reducible refine Cs.other2 ?_ ?_ _ _; rotate_left; focus (first | assumption | omega | (simp; done) | (simp; omega))) | (with_reducible refine Cs.other ?_ ?_ _; rotate_left; focus (first | assumption | omega | (simp; done) | (simp; omega))) | with_reducible refine Cs.keep ?_ (by assumption) | assumption)) hb4
        replace hbw : Below w.heap.size w w4 := (by repeat (first | with_reducible exact Below.refl _ _ | with_reducible assumption | with_reducible refine balloc ?_ _ | with_reducible refine bdrewN ?_ _ | with_reducible refine Below.drew ?_ | (with_reducible refine bset ?_ ?_ _; rotate_left; focus (first | assumption | omega | (simp; done) | (simp; omega))) | with_reducible refine bstep ?_ (by assumption) | assumption))
        replace cB15 := B15.c
        replace fB15 := B15.f
        replace lB15 := B15.lt
        replace cB16 := B16.c
        replace fB16 := B16.f
        replace lB16 := B16.lt
        replace cB17 := B17.c
        replace fB17 := B17.f
        replace lB17 := B17.lt
        replace cB18 := B18.c
        replace fB18 := B18.f
        replace lB18 := B18.lt
        replace cB19 := B19.c
        replace fB19 := B19.f
        replace lB19 := B19.lt
        replace cB22 := B22.c
        replace fB22 := B22.f
        replace lB22 := B22.lt
        clear hb4
        clear ki kX
        cases kb with
        | false =>
          go_wp2_with fail
          go_meet
          exact ⟨rfl, B15, B16, B17, B18, B19, hbw⟩
        | true =>
          obtain ⟨h1, h2⟩ := Hno.out rfl
          have h1I : ¬ (n : Int) < (x : Int) := by omega
          by_cases h3 : n = x
          · have h4 := h2 h3
            have h4I : ¬ (r : Int) < (y : Int) := by omega
            subst h3
            go_wp2_with fail
            go_meet
            exact ⟨rfl, B15, B16, B17, B18, B19, hbw⟩
          · have h3I : ¬ (n : Int) = (x : Int) := by omega
            have h3B : ((n : Int) == (x : Int)) = false := by simp; omega
            go_wp2_with fail
            go_meet
            exact ⟨rfl, B15, B16, B17, B18, B19, hbw⟩
      case rest =>
        clear B15 cB15 fB15 lB15 B16 cB16 fB16 lB16 B17 cB17 fB17 lB17 B18 cB18 fB18 lB18 B19 cB19 fB19 lB19 B22 cB22 fB22 lB22 hbw ki kX Hno
        obtain ⟨rfl, B15, B16, B17, B18, B19, hbw⟩ := hcut
        have cB15 := B15.c
        have fB15 := B15.f
        have lB15 := B15.lt
        have cB16 := B16.c
        have fB16 := B16.f
        have lB16 := B16.lt
        have cB17 := B17.c
        have fB17 := B17.f
        have lB17 := B17.lt
        have cB18 := B18.c
        have fB18 := B18.f
        have lB18 := B18.lt
        have cB19 := B19.c
        have fB19 := B19.f
        have lB19 := B19.lt
        have hg := HHg.out
        have hs := HHs.out
        have ha := HHa.out
        have hb := HHb.out
        have hq := Hq.out
        have kt := tailC x y g1 g2 hg x1 (by omega) y1
        have ku := tailC x y s1 s2 hs x1 (by omega) y1
        have pt := properC x y g1 g2 hg (by omega)
        have pu := properC x y s1 s2 hs (by omega)
        have l1 := lessC (a1, a2) (Em.tailT x y (g1, g2)) (prn_bd ha) (tailT_bd hg x y (by omega)) (Em.keep_most (g := (g1, g2)) (s := (s1, s2)) (a := (a1, a2)) (b := (b1, b2)) hg ha hq)
        have l2 := lessC (Em.tailT x y (s1, s2)) (b2 - b1, b2) (tailT_bd hs x y (by omega)) (by have := prn_bd hb; have := hb.n1; dsimp only at *; omega) (Em.keep_miss (g := (g1, g2)) (s := (s1, s2)) (a := (a1, a2)) (b := (b1, b2)) hs hb hq)
        obtain ⟨⟨t1, t2⟩, ht⟩ : ∃ t, Em.tailT x y (g1, g2) = t := ⟨_, rfl⟩
        obtain ⟨⟨u1, u2⟩, hu⟩ : ∃ t, Em.tailT x y (s1, s2) = t := ⟨_, rfl⟩
        rw [ht] at kt pt l1
        rw [hu] at ku pu l2
        dsimp only at kt ku pt pu l1 l2
        have fb : IntKind.i64.wrap (b2 - b1) = b2 - b1 := IntWalk.i64_in _ (by have := hb.n0; have := hb.n1; have := hb.d1; dsimp only at *; omega)
        clear ht hu hg hs ha hb hq
        go_wp2_with fail
        refine (kt _).mono ?_
        rintro e w5 ⟨rfl, hb5⟩
        replace B15 : Cs w5 b15 #[.int .i64 g1, .int .i64 g2] := Cs.keep (by repeat (first | with_reducible assumption | (with_reducible refine Cs.new _ _ _ _ ?_; first | rfl | (simp; done)) | with_reducible refine Cs.alloc ?_ _ | with_reducible refine Cs.drewN ?_ _ | with_reducible refine Cs.drew ?_ | with_reducible refine Cs.set4 ?_ _ _ _ _ | (with_reducible refine Cs.other4 ?_ ?_ _ _ _ _; rotate_left; focus (first | assumption | omega | (simp; done) | (simp; omega))) | with_reducible refine Cs.set2 ?_ _ _ | (with_reducible refine Cs.other2 ?_ ?_ _ _; rotate_left; focus (first | assumption | omega | (simp; done) | (simp; omega))) | (with_reducible refine Cs.other ?_ ?_ _; rotate_left; focus (first | assumption | omega | (simp; done) | (simp; omega))) | with_reducible refine Cs.keep ?_ (by assumption) | assumption)) hb5
        replace B16 : Cs w5 b16 #[.int .i64 s1, .int .i64 s2] := Cs.keep (by repeat (first | with_reducible assumption | (with_reducible refine Cs.new _ _ _ _ ?_; first | rfl | (simp; done)) | with_reducible refine Cs.alloc ?_ _ | with_reducible refine Cs.drewN ?_ _ | with_reducible refine Cs.drew ?_ | with_reducible refine Cs.set4 ?_ _ _ _ _ | (with_reducible refine Cs.other4 ?_ ?_ _ _ _ _; rotate_left; focus (first | assumption | omega | (simp; done) | (simp; omega))) | with_reducible refine Cs.set2 ?_ _ _ | (with_reducible refine Cs.other2 ?_ ?_ _ _; rotate_left; focus (first | assumption | omega | (simp; done) | (simp; omega))) | (with_reducible refine Cs.other ?_ ?_ _; rotate_left; focus (first | assumption | omega | (simp; done) | (simp; omega))) | with_reducible refine Cs.keep ?_ (by assumption) | assumption)) hb5
        replace B17 : Cs w5 b17 #[.int .i64 a1, .int .i64 a2] := Cs.keep (by repeat (first | with_reducible assumption | (with_reducible refine Cs.new _ _ _ _ ?_; first | rfl | (simp; done)) | with_reducible refine Cs.alloc ?_ _ | with_reducible refine Cs.drewN ?_ _ | with_reducible refine Cs.drew ?_ | with_reducible refine Cs.set4 ?_ _ _ _ _ | (with_reducible refine Cs.other4 ?_ ?_ _ _ _ _; rotate_left; focus (first | assumption | omega | (simp; done) | (simp; omega))) | with_reducible refine Cs.set2 ?_ _ _ | (with_reducible refine Cs.other2 ?_ ?_ _ _; rotate_left; focus (first | assumption | omega | (simp; done) | (simp; omega))) | (with_reducible refine Cs.other ?_ ?_ _; rotate_left; focus (first | assumption | omega | (simp; done) | (simp; omega))) | with_reducible refine Cs.keep ?_ (by assumption) | assumption)) hb5
        replace B18 : Cs w5 b18 #[.int .i64 b1, .int .i64 b2] := Cs.keep (by repeat (first | with_reducible assumption | (with_reducible refine Cs.new _ _ _ _ ?_; first | rfl | (simp; done)) | with_reducible refine Cs.alloc ?_ _ | with_reducible refine Cs.drewN ?_ _ | with_reducible refine Cs.drew ?_ | with_reducible refine Cs.set4 ?_ _ _ _ _ | (with_reducible refine Cs.other4 ?_ ?_ _ _ _ _; rotate_left; focus (first | assumption | omega | (simp; done) | (simp; omega))) | with_reducible refine Cs.set2 ?_ _ _ | (with_reducible refine Cs.other2 ?_ ?_ _ _; rotate_left; focus (first | assumption | omega | (simp; done) | (simp; omega))) | (with_reducible refine Cs.other ?_ ?_ _; rotate_left; focus (first | assumption | omega | (simp; done) | (simp; omega))) | with_reducible refine Cs.keep ?_ (by assumption) | assumption)) hb5
        replace B19 : Cs w5 (w1.heap.size) #[.int .i64 x, .int .i64 y] := Cs.keep (by repeat (first | with_reducible assumption | (with_reducible refine Cs.new _ _ _ _ ?_; first | rfl | (simp; done)) | with_reducible refine Cs.alloc ?_ _ | with_reducible refine Cs.drewN ?_ _ | with_reducible refine Cs.drew ?_ | with_reducible refine Cs.set4 ?_ _ _ _ _ | (with_reducible refine Cs.other4 ?_ ?_ _ _ _ _; rotate_left; focus (first | assumption | omega | (simp; done) | (simp; omega))) | with_reducible refine Cs.set2 ?_ _ _ | (with_reducible refine Cs.other2 ?_ ?_ _ _; rotate_left; focus (first | assumption | omega | (simp; done) | (simp; omega))) | (with_reducible refine Cs.other ?_ ?_ _; rotate_left; focus (first | assumption | omega | (simp; done) | (simp; omega))) | with_reducible refine Cs.keep ?_ (by assumption) | assumption)) hb5
        replace hbw : Below w.heap.size w w5 := (by repeat (first | with_reducible exact Below.refl _ _ | with_reducible assumption | with_reducible refine balloc ?_ _ | with_reducible refine bdrewN ?_ _ | with_reducible refine Below.drew ?_ | (with_reducible refine bset ?_ ?_ _; rotate_left; focus (first | assumption | omega | (simp; done) | (simp; omega))) | with_reducible refine bstep ?_ (by assumption) | assumption))
        replace cB15 := B15.c
        replace fB15 := B15.f
        replace lB15 := B15.lt
        replace cB16 := B16.c
        replace fB16 := B16.f
        replace lB16 := B16.lt
        replace cB17 := B17.c
        replace fB17 := B17.f
        replace lB17 := B17.lt
        replace cB18 := B18.c
        replace fB18 := B18.f
        replace lB18 := B18.lt
        replace cB19 := B19.c
        replace fB19 := B19.f
        replace lB19 := B19.lt
        clear hb5
        go_wp2_with fail
        refine (ku _).mono ?_
        rintro e w6 ⟨rfl, hb6⟩
        replace B15 : Cs w6 b15 #[.int .i64 g1, .int .i64 g2] := Cs.keep (by repeat (first | with_reducible assumption | (with_reducible refine Cs.new _ _ _ _ ?_; first | rfl | (simp; done)) | with_reducible refine Cs.alloc ?_ _ | with_reducible refine Cs.drewN ?_ _ | with_reducible refine Cs.drew ?_ | with_reducible refine Cs.set4 ?_ _ _ _ _ | (with_reducible refine Cs.other4 ?_ ?_ _ _ _ _; rotate_left; focus (first | assumption | omega | (simp; done) | (simp; omega))) | with_reducible refine Cs.set2 ?_ _ _ | (with_reducible refine Cs.other2 ?_ ?_ _ _; rotate_left; focus (first | assumption | omega | (simp; done) | (simp; omega))) | (with_reducible refine Cs.other ?_ ?_ _; rotate_left; focus (first | assumption | omega | (simp; done) | (simp; omega))) | with_reducible refine Cs.keep ?_ (by assumption) | assumption)) hb6
        replace B16 : Cs w6 b16 #[.int .i64 s1, .int .i64 s2] := Cs.keep (by repeat (first | with_reducible assumption | (with_reducible refine Cs.new _ _ _ _ ?_; first | rfl | (simp; done)) | with_reducible refine Cs.alloc ?_ _ | with_reducible refine Cs.drewN ?_ _ | with_reducible refine Cs.drew ?_ | with_reducible refine Cs.set4 ?_ _ _ _ _ | (with_reducible refine Cs.other4 ?_ ?_ _ _ _ _; rotate_left; focus (first | assumption | omega | (simp; done) | (simp; omega))) | with_reducible refine Cs.set2 ?_ _ _ | (with_reducible refine Cs.other2 ?_ ?_ _ _; rotate_left; focus (first | assumption | omega | (simp; done) | (simp; omega))) | (with_reducible refine Cs.other ?_ ?_ _; rotate_left; focus (first | assumption | omega | (simp; done) | (simp; omega))) | with_reducible refine Cs.keep ?_ (by assumption) | assumption)) hb6
        replace B17 : Cs w6 b17 #[.int .i64 a1, .int .i64 a2] := Cs.keep (by repeat (first | with_reducible assumption | (with_reducible refine Cs.new _ _ _ _ ?_; first | rfl | (simp; done)) | with_reducible refine Cs.alloc ?_ _ | with_reducible refine Cs.drewN ?_ _ | with_reducible refine Cs.drew ?_ | with_reducible refine Cs.set4 ?_ _ _ _ _ | (with_reducible refine Cs.other4 ?_ ?_ _ _ _ _; rotate_left; focus (first | assumption | omega | (simp; done) | (simp; omega))) | with_reducible refine Cs.set2 ?_ _ _ | (with_reducible refine Cs.other2 ?_ ?_ _ _; rotate_left; focus (first | assumption | omega | (simp; done) | (simp; omega))) | (with_reducible refine Cs.other ?_ ?_ _; rotate_left; focus (first | assumption | omega | (simp; done) | (simp; omega))) | with_reducible refine Cs.keep ?_ (by assumption) | assumption)) hb6
        replace B18 : Cs w6 b18 #[.int .i64 b1, .int .i64 b2] := Cs.keep (by repeat (first | with_reducible assumption | (with_reducible refine Cs.new _ _ _ _ ?_; first | rfl | (simp; done)) | with_reducible refine Cs.alloc ?_ _ | with_reducible refine Cs.drewN ?_ _ | with_reducible refine Cs.drew ?_ | with_reducible refine Cs.set4 ?_ _ _ _ _ | (with_reducible refine Cs.other4 ?_ ?_ _ _ _ _; rotate_left; focus (first | assumption | omega | (simp; done) | (simp; omega))) | with_reducible refine Cs.set2 ?_ _ _ | (with_reducible refine Cs.other2 ?_ ?_ _ _; rotate_left; focus (first | assumption | omega | (simp; done) | (simp; omega))) | (with_reducible refine Cs.other ?_ ?_ _; rotate_left; focus (first | assumption | omega | (simp; done) | (simp; omega))) | with_reducible refine Cs.keep ?_ (by assumption) | assumption)) hb6
        replace B19 : Cs w6 (w1.heap.size) #[.int .i64 x, .int .i64 y] := Cs.keep (by repeat (first | with_reducible assumption | (with_reducible refine Cs.new _ _ _ _ ?_; first | rfl | (simp; done)) | with_reducible refine Cs.alloc ?_ _ | with_reducible refine Cs.drewN ?_ _ | with_reducible refine Cs.drew ?_ | with_reducible refine Cs.set4 ?_ _ _ _ _ | (with_reducible refine Cs.other4 ?_ ?_ _ _ _ _; rotate_left; focus (first | assumption | omega | (simp; done) | (simp; omega))) | with_reducible refine Cs.set2 ?_ _ _ | (with_reducible refine Cs.other2 ?_ ?_ _ _; rotate_left; focus (first | assumption | omega | (simp; done) | (simp; omega))) | (with_reducible refine Cs.other ?_ ?_ _; rotate_left; focus (first | assumption | omega | (simp; done) | (simp; omega))) | with_reducible refine Cs.keep ?_ (by assumption) | assumption)) hb6
        replace B24 : Cs w6 (w5.heap.size) #[.int .i64 t1, .int .i64 t2] := Cs.keep (by repeat (first | with_reducible assumption | (with_reducible refine Cs.new _ _ _ _ ?_; first | rfl | (simp; done)) | with_reducible refine Cs.alloc ?_ _ | with_reducible refine Cs.drewN ?_ _ | with_reducible refine Cs.drew ?_ | with_reducible refine Cs.set4 ?_ _ _ _ _ | (with_reducible refine Cs.other4 ?_ ?_ _ _ _ _; rotate_left; focus (first | assumption | omega | (simp; done) | (simp; omega))) | with_reducible refine Cs.set2 ?_ _ _ | (with_reducible refine Cs.other2 ?_ ?_ _ _; rotate_left; focus (first | assumption | omega | (simp; done) | (simp; omega))) | (with_reducible refine Cs.other ?_ ?_ _; rotate_left; focus (first | assumption | omega | (simp; done) | (simp; omega))) | with_reducible refine Cs.keep ?_ (by assumption) | assumption)) hb6
        replace hbw : Below w.heap.size w w6 := (by repeat (first | with_reducible exact Below.refl _ _ | with_reducible assumption | with_reducible refine balloc ?_ _ | with_reducible refine bdrewN ?_ _ | with_reducible refine Below.drew ?_ | (with_reducible refine bset ?_ ?_ _; rotate_left; focus (first | assumption | omega | (simp; done) | (simp; omega))) | with_reducible refine bstep ?_ (by assumption) | assumption))
        replace cB15 := B15.c
        replace fB15 := B15.f
        replace lB15 := B15.lt
        replace cB16 := B16.c
        replace fB16 := B16.f
        replace lB16 := B16.lt
        replace cB17 := B17.c
        replace fB17 := B17.f
        replace lB17 := B17.lt
        replace cB18 := B18.c
        replace fB18 := B18.f
        replace lB18 := B18.lt
        replace cB19 := B19.c
        replace fB19 := B19.f
        replace lB19 := B19.lt
        replace cB24 := B24.c
        replace fB24 := B24.f
        replace lB24 := B24.lt
        clear hb6
        clear kt ku
        go_upto_region 12 with fail
        go_cut [172] (fun s172 wx => s172 = .bool false ∧ Cs wx b15 #[.int .i64 g1, .int .i64 g2] ∧ Cs wx b16 #[.int .i64 s1, .int .i64 s2] ∧ Cs wx b17 #[.int .i64 a1, .int .i64 a2] ∧ Cs wx b18 #[.int .i64 b1, .int .i64 b2] ∧ Cs wx w1.heap.size #[.int .i64 x, .int .i64 y] ∧ Below w.heap.size w wx)
        case first =>
         as_aux_lemma =>
          clear kw HHg HHs HHa HHb Hrn Hn2 HM Hq f0 f1 f2 f3 f4 f5 f6 f7 f8 fM
          obtain ⟨W, hW⟩ : ∃ W, (w6.alloc (.cells #[.int .i64 u1, .int .i64 u2] 25)) = W := ⟨_, rfl⟩
          replace B15 : Cs W b15 #[.int .i64 g1, .int .i64 g2] := by rw [← hW]; exact B15.alloc _
          replace B16 : Cs W b16 #[.int .i64 s1, .int .i64 s2] := by rw [← hW]; exact B16.alloc _
          replace B17 : Cs W b17 #[.int .i64 a1, .int .i64 a2] := by rw [← hW]; exact B17.alloc _
          replace B18 : Cs W b18 #[.int .i64 b1, .int .i64 b2] := by rw [← hW]; exact B18.alloc _
          replace B19 : Cs W w1.heap.size #[.int .i64 x, .int .i64 y] := by rw [← hW]; exact B19.alloc _
          replace B24 : Cs W w5.heap.size #[.int .i64 t1, .int .i64 t2] := by rw [← hW]; exact B24.alloc _
          have B26 : Cs W w6.heap.size #[.int .i64 u1, .int .i64 u2] := by rw [← hW]; exact (by repeat (first | with_reducible assumption | (with_reducible refine Cs.new _ _ _ _ ?_; first | rfl | (simp; done)) | with_reducible refine Cs.alloc ?_ _ | with_reducible refine Cs.drewN ?_ _ | with_reducible refine Cs.drew ?_ | with_reducible refine Cs.set4 ?_ _ _ _ _ | (with_reducible refine Cs.other4 ?_ ?_ _ _ _ _; rotate_left; focus (first | assumption | omega | (simp; done) | (simp; omega))) | with_reducible refine Cs.set2 ?_ _ _ | (with_reducible refine Cs.other2 ?_ ?_ _ _; rotate_left; focus (first | assumption | omega | (simp; done) | (simp; omega))) | (with_reducible refine Cs.other ?_ ?_ _; rotate_left; focus (first | assumption | omega | (simp; done) | (simp; omega))) | with_reducible refine Cs.keep ?_ (by assumption) | assumption))
          replace hbw : Below w.heap.size w W := by rw [← hW]; exact (by repeat (first | with_reducible exact Below.refl _ _ | with_reducible assumption | with_reducible refine balloc ?_ _ | with_reducible refine bdrewN ?_ _ | with_reducible refine Below.drew ?_ | (with_reducible refine bset ?_ ?_ _; rotate_left; focus (first | assumption | omega | (simp; done) | (simp; omega))) | with_reducible refine bstep ?_ (by assumption) | assumption))
          rw [hW]
          clear hW cB15 fB15 lB15 cB16 fB16 lB16 cB17 fB17 lB17 cB18 fB18 lB18 cB19 fB19 lB19 cB24 fB24 lB24
          go_region_held3 (fun w' => w'.cell? ⟨b15, 0, none⟩ = some (.int .i64 g1) ∧ w'.cell? ⟨b15, 1, none⟩ = some (.int .i64 g2) ∧ w'.cell? ⟨b16, 0, none⟩ = some (.int .i64 s1) ∧ w'.cell? ⟨b16, 1, none⟩ = some (.int .i64 s2) ∧ w'.cell? ⟨b17, 0, none⟩ = some (.int .i64 a1) ∧ w'.cell? ⟨b17, 1, none⟩ = some (.int .i64 a2) ∧ w'.cell? ⟨b18, 0, none⟩ = some (.int .i64 b1) ∧ w'.cell? ⟨b18, 1, none⟩ = some (.int .i64 b2) ∧ w'.cell? ⟨w1.heap.size, 0, none⟩ = some (.int .i64 x) ∧ w'.cell? ⟨w1.heap.size, 1, none⟩ = some (.int .i64 y) ∧ w'.cell? ⟨w5.heap.size, 0, none⟩ = some (.int .i64 t1) ∧ w'.cell? ⟨w5.heap.size, 1, none⟩ = some (.int .i64 t2) ∧ w'.cell? ⟨w6.heap.size, 0, none⟩ = some (.int .i64 u1) ∧ w'.cell? ⟨w6.heap.size, 1, none⟩ = some (.int .i64 u2))
            (first | exact ⟨B15.c 0, B15.c 1, B16.c 0, B16.c 1, B17.c 0, B17.c 1, B18.c 0, B18.c 1, B19.c 0, B19.c 1, B24.c 0, B24.c 1, B26.c 0, B26.c 1⟩ | exact ⟨(Cs.alloc B15 _).c 0, (Cs.alloc B15 _).c 1, (Cs.alloc B16 _).c 0, (Cs.alloc B16 _).c 1, (Cs.alloc B17 _).c 0, (Cs.alloc B17 _).c 1, (Cs.alloc B18 _).c 0, (Cs.alloc B18 _).c 1, (Cs.alloc B19 _).c 0, (Cs.alloc B19 _).c 1, (Cs.alloc B24 _).c 0, (Cs.alloc B24 _).c 1, (Cs.alloc B26 _).c 0, (Cs.alloc B26 _).c 1⟩ | go_keep)
            (first | (go_at_call 27; (with_reducible refine (pt _).mono ?_); rintro e w7 ⟨rfl, hb7⟩; have B15 : Cs w7 b15 #[.int .i64 g1, .int .i64 g2] := Cs.keep (by repeat (first | with_reducible assumption | (with_reducible refine Cs.new _ _ _ _ ?_; first | rfl | (simp; done)) | with_reducible refine Cs.alloc ?_ _ | with_reducible refine Cs.drewN ?_ _ | with_reducible refine Cs.drew ?_ | with_reducible refine Cs.set4 ?_ _ _ _ _ | (with_reducible refine Cs.other4 ?_ ?_ _ _ _ _; rotate_left; focus (first | assumption | omega | (simp; done) | (simp; omega))) | with_reducible refine Cs.set2 ?_ _ _ | (with_reducible refine Cs.other2 ?_ ?_ _ _; rotate_left; focus (first | assumption | omega | (simp; done) | (simp; omega))) | (with_reducible refine Cs.other ?_ ?_ _; rotate_left; focus (first | assumption | omega | (simp; done) | (simp; omega))) | with_reducible refine Cs.keep ?_ (by assumption) | assumption)) hb7; have B16 : Cs w7 b16 #[.int .i64 s1, .int .i64 s2] := Cs.keep (by repeat (first | with_reducible assumption | (with_reducible refine Cs.new _ _ _ _ ?_; first | rfl | (simp; done)) | with_reducible refine Cs.alloc ?_ _ | with_reducible refine Cs.drewN ?_ _ | with_reducible refine Cs.drew ?_ | with_reducible refine Cs.set4 ?_ _ _ _ _ | (with_reducible refine Cs.other4 ?_ ?_ _ _ _ _; rotate_left; focus (first | assumption | omega | (simp; done) | (simp; omega))) | with_reducible refine Cs.set2 ?_ _ _ | (with_reducible refine Cs.other2 ?_ ?_ _ _; rotate_left; focus (first | assumption | omega | (simp; done) | (simp; omega))) | (with_reducible refine Cs.other ?_ ?_ _; rotate_left; focus (first | assumption | omega | (simp; done) | (simp; omega))) | with_reducible refine Cs.keep ?_ (by assumption) | assumption)) hb7; have B17 : Cs w7 b17 #[.int .i64 a1, .int .i64 a2] := Cs.keep (by repeat (first | with_reducible assumption | (with_reducible refine Cs.new _ _ _ _ ?_; first | rfl | (simp; done)) | with_reducible refine Cs.alloc ?_ _ | with_reducible refine Cs.drewN ?_ _ | with_reducible refine Cs.drew ?_ | with_reducible refine Cs.set4 ?_ _ _ _ _ | (with_reducible refine Cs.other4 ?_ ?_ _ _ _ _; rotate_left; focus (first | assumption | omega | (simp; done) | (simp; omega))) | with_reducible refine Cs.set2 ?_ _ _ | (with_reducible refine Cs.other2 ?_ ?_ _ _; rotate_left; focus (first | assumption | omega | (simp; done) | (simp; omega))) | (with_reducible refine Cs.other ?_ ?_ _; rotate_left; focus (first | assumption | omega | (simp; done) | (simp; omega))) | with_reducible refine Cs.keep ?_ (by assumption) | assumption)) hb7; have B18 : Cs w7 b18 #[.int .i64 b1, .int .i64 b2] := Cs.keep (by repeat (first | with_reducible assumption | (with_reducible refine Cs.new _ _ _ _ ?_; first | rfl | (simp; done)) | with_reducible refine Cs.alloc ?_ _ | with_reducible refine Cs.drewN ?_ _ | with_reducible refine Cs.drew ?_ | with_reducible refine Cs.set4 ?_ _ _ _ _ | (with_reducible refine Cs.other4 ?_ ?_ _ _ _ _; rotate_left; focus (first | assumption | omega | (simp; done) | (simp; omega))) | with_reducible refine Cs.set2 ?_ _ _ | (with_reducible refine Cs.other2 ?_ ?_ _ _; rotate_left; focus (first | assumption | omega | (simp; done) | (simp; omega))) | (with_reducible refine Cs.other ?_ ?_ _; rotate_left; focus (first | assumption | omega | (simp; done) | (simp; omega))) | with_reducible refine Cs.keep ?_ (by assumption) | assumption)) hb7; have B19 : Cs w7 (w1.heap.size) #[.int .i64 x, .int .i64 y] := Cs.keep (by repeat (first | with_reducible assumption | (with_reducible refine Cs.new _ _ _ _ ?_; first | rfl | (simp; done)) | with_reducible refine Cs.alloc ?_ _ | with_reducible refine Cs.drewN ?_ _ | with_reducible refine Cs.drew ?_ | with_reducible refine Cs.set4 ?_ _ _ _ _ | (with_reducible refine Cs.other4 ?_ ?_ _ _ _ _; rotate_left; focus (first | assumption | omega | (simp; done) | (simp; omega))) | with_reducible refine Cs.set2 ?_ _ _ | (with_reducible refine Cs.other2 ?_ ?_ _ _; rotate_left; focus (first | assumption | omega | (simp; done) | (simp; omega))) | (with_reducible refine Cs.other ?_ ?_ _; rotate_left; focus (first | assumption | omega | (simp; done) | (simp; omega))) | with_reducible refine Cs.keep ?_ (by assumption) | assumption)) hb7; have B24 : Cs w7 (w5.heap.size) #[.int .i64 t1, .int .i64 t2] := Cs.keep (by repeat (first | with_reducible assumption | (with_reducible refine Cs.new _ _ _ _ ?_; first | rfl | (simp; done)) | with_reducible refine Cs.alloc ?_ _ | with_reducible refine Cs.drewN ?_ _ | with_reducible refine Cs.drew ?_ | with_reducible refine Cs.set4 ?_ _ _ _ _ | (with_reducible refine Cs.other4 ?_ ?_ _ _ _ _; rotate_left; focus (first | assumption | omega | (simp; done) | (simp; omega))) | with_reducible refine Cs.set2 ?_ _ _ | (with_reducible refine Cs.other2 ?_ ?_ _ _; rotate_left; focus (first | assumption | omega | (simp; done) | (simp; omega))) | (with_reducible refine Cs.other ?_ ?_ _; rotate_left; focus (first | assumption | omega | (simp; done) | (simp; omega))) | with_reducible refine Cs.keep ?_ (by assumption) | assumption)) hb7; have B26 : Cs w7 (w6.heap.size) #[.int .i64 u1, .int .i64 u2] := Cs.keep (by repeat (first | with_reducible assumption | (with_reducible refine Cs.new _ _ _ _ ?_; first | rfl | (simp; done)) | with_reducible refine Cs.alloc ?_ _ | with_reducible refine Cs.drewN ?_ _ | with_reducible refine Cs.drew ?_ | with_reducible refine Cs.set4 ?_ _ _ _ _ | (with_reducible refine Cs.other4 ?_ ?_ _ _ _ _; rotate_left; focus (first | assumption | omega | (simp; done) | (simp; omega))) | with_reducible refine Cs.set2 ?_ _ _ | (with_reducible refine Cs.other2 ?_ ?_ _ _; rotate_left; focus (first | assumption | omega | (simp; done) | (simp; omega))) | (with_reducible refine Cs.other ?_ ?_ _; rotate_left; focus (first | assumption | omega | (simp; done) | (simp; omega))) | with_reducible refine Cs.keep ?_ (by assumption) | assumption)) hb7; have hbw : Below w.heap.size w w7 := (by repeat (first | with_reducible exact Below.refl _ _ | with_reducible assumption | with_reducible refine balloc ?_ _ | with_reducible refine bdrewN ?_ _ | with_reducible refine Below.drew ?_ | (with_reducible refine bset ?_ ?_ _; rotate_left; focus (first | assumption | omega | (simp; done) | (simp; omega))) | with_reducible refine bstep ?_ (by assumption) | assumption)); clear hb7) | (go_at_call 27; (with_reducible refine (pu _).mono ?_); rintro e w7 ⟨rfl, hb7⟩; have B15 : Cs w7 b15 #[.int .i64 g1, .int .i64 g2] := Cs.keep (by repeat (first | with_reducible assumption | (with_reducible refine Cs.new _ _ _ _ ?_; first | rfl | (simp; done)) | with_reducible refine Cs.alloc ?_ _ | with_reducible refine Cs.drewN ?_ _ | with_reducible refine Cs.drew ?_ | with_reducible refine Cs.set4 ?_ _ _ _ _ | (with_reducible refine Cs.other4 ?_ ?_ _ _ _ _; rotate_left; focus (first | assumption | omega | (simp; done) | (simp; omega))) | with_reducible refine Cs.set2 ?_ _ _ | (with_reducible refine Cs.other2 ?_ ?_ _ _; rotate_left; focus (first | assumption | omega | (simp; done) | (simp; omega))) | (with_reducible refine Cs.other ?_ ?_ _; rotate_left; focus (first | assumption | omega | (simp; done) | (simp; omega))) | with_reducible refine Cs.keep ?_ (by assumption) | assumption)) hb7; have B16 : Cs w7 b16 #[.int .i64 s1, .int .i64 s2] := Cs.keep (by repeat (first | with_reducible assumption | (with_reducible refine Cs.new _ _ _ _ ?_; first | rfl | (simp; done)) | with_reducible refine Cs.alloc ?_ _ | with_reducible refine Cs.drewN ?_ _ | with_reducible refine Cs.drew ?_ | with_reducible refine Cs.set4 ?_ _ _ _ _ | (with_reducible refine Cs.other4 ?_ ?_ _ _ _ _; rotate_left; focus (first | assumption | omega | (simp; done) | (simp; omega))) | with_reducible refine Cs.set2 ?_ _ _ | (with_reducible refine Cs.other2 ?_ ?_ _ _; rotate_left; focus (first | assumption | omega | (simp; done) | (simp; omega))) | (with_reducible refine Cs.other ?_ ?_ _; rotate_left; focus (first | assumption | omega | (simp; done) | (simp; omega))) | with_reducible refine Cs.keep ?_ (by assumption) | assumption)) hb7; have B17 : Cs w7 b17 #[.int .i64 a1, .int .i64 a2] := Cs.keep (by repeat (first | with_reducible assumption | (with_reducible refine Cs.new _ _ _ _ ?_; first | rfl | (simp; done)) | with_reducible refine Cs.alloc ?_ _ | with_reducible refine Cs.drewN ?_ _ | with_reducible refine Cs.drew ?_ | with_reducible refine Cs.set4 ?_ _ _ _ _ | (with_reducible refine Cs.other4 ?_ ?_ _ _ _ _; rotate_left; focus (first | assumption | omega | (simp; done) | (simp; omega))) | with_reducible refine Cs.set2 ?_ _ _ | (with_reducible refine Cs.other2 ?_ ?_ _ _; rotate_left; focus (first | assumption | omega | (simp; done) | (simp; omega))) | (with_reducible refine Cs.other ?_ ?_ _; rotate_left; focus (first | assumption | omega | (simp; done) | (simp; omega))) | with_reducible refine Cs.keep ?_ (by assumption) | assumption)) hb7; have B18 : Cs w7 b18 #[.int .i64 b1, .int .i64 b2] := Cs.keep (by repeat (first | with_reducible assumption | (with_reducible refine Cs.new _ _ _ _ ?_; first | rfl | (simp; done)) | with_reducible refine Cs.alloc ?_ _ | with_reducible refine Cs.drewN ?_ _ | with_reducible refine Cs.drew ?_ | with_reducible refine Cs.set4 ?_ _ _ _ _ | (with_reducible refine Cs.other4 ?_ ?_ _ _ _ _; rotate_left; focus (first | assumption | omega | (simp; done) | (simp; omega))) | with_reducible refine Cs.set2 ?_ _ _ | (with_reducible refine Cs.other2 ?_ ?_ _ _; rotate_left; focus (first | assumption | omega | (simp; done) | (simp; omega))) | (with_reducible refine Cs.other ?_ ?_ _; rotate_left; focus (first | assumption | omega | (simp; done) | (simp; omega))) | with_reducible refine Cs.keep ?_ (by assumption) | assumption)) hb7; have B19 : Cs w7 (w1.heap.size) #[.int .i64 x, .int .i64 y] := Cs.keep (by repeat (first | with_reducible assumption | (with_reducible refine Cs.new _ _ _ _ ?_; first | rfl | (simp; done)) | with_reducible refine Cs.alloc ?_ _ | with_reducible refine Cs.drewN ?_ _ | with_reducible refine Cs.drew ?_ | with_reducible refine Cs.set4 ?_ _ _ _ _ | (with_reducible refine Cs.other4 ?_ ?_ _ _ _ _; rotate_left; focus (first | assumption | omega | (simp; done) | (simp; omega))) | with_reducible refine Cs.set2 ?_ _ _ | (with_reducible refine Cs.other2 ?_ ?_ _ _; rotate_left; focus (first | assumption | omega | (simp; done) | (simp; omega))) | (with_reducible refine Cs.other ?_ ?_ _; rotate_left; focus (first | assumption | omega | (simp; done) | (simp; omega))) | with_reducible refine Cs.keep ?_ (by assumption) | assumption)) hb7; have B24 : Cs w7 (w5.heap.size) #[.int .i64 t1, .int .i64 t2] := Cs.keep (by repeat (first | with_reducible assumption | (with_reducible refine Cs.new _ _ _ _ ?_; first | rfl | (simp; done)) | with_reducible refine Cs.alloc ?_ _ | with_reducible refine Cs.drewN ?_ _ | with_reducible refine Cs.drew ?_ | with_reducible refine Cs.set4 ?_ _ _ _ _ | (with_reducible refine Cs.other4 ?_ ?_ _ _ _ _; rotate_left; focus (first | assumption | omega | (simp; done) | (simp; omega))) | with_reducible refine Cs.set2 ?_ _ _ | (with_reducible refine Cs.other2 ?_ ?_ _ _; rotate_left; focus (first | assumption | omega | (simp; done) | (simp; omega))) | (with_reducible refine Cs.other ?_ ?_ _; rotate_left; focus (first | assumption | omega | (simp; done) | (simp; omega))) | with_reducible refine Cs.keep ?_ (by assumption) | assumption)) hb7; have B26 : Cs w7 (w6.heap.size) #[.int .i64 u1, .int .i64 u2] := Cs.keep (by repeat (first | with_reducible assumption | (with_reducible refine Cs.new _ _ _ _ ?_; first | rfl | (simp; done)) | with_reducible refine Cs.alloc ?_ _ | with_reducible refine Cs.drewN ?_ _ | with_reducible refine Cs.drew ?_ | with_reducible refine Cs.set4 ?_ _ _ _ _ | (with_reducible refine Cs.other4 ?_ ?_ _ _ _ _; rotate_left; focus (first | assumption | omega | (simp; done) | (simp; omega))) | with_reducible refine Cs.set2 ?_ _ _ | (with_reducible refine Cs.other2 ?_ ?_ _ _; rotate_left; focus (first | assumption | omega | (simp; done) | (simp; omega))) | (with_reducible refine Cs.other ?_ ?_ _; rotate_left; focus (first | assumption | omega | (simp; done) | (simp; omega))) | with_reducible refine Cs.keep ?_ (by assumption) | assumption)) hb7; have hbw : Below w.heap.size w w7 := (by repeat (first | with_reducible exact Below.refl _ _ | with_reducible assumption | with_reducible refine balloc ?_ _ | with_reducible refine bdrewN ?_ _ | with_reducible refine Below.drew ?_ | (with_reducible refine bset ?_ ?_ _; rotate_left; focus (first | assumption | omega | (simp; done) | (simp; omega))) | with_reducible refine bstep ?_ (by assumption) | assumption)); clear hb7) | (go_at_call 29; (with_reducible refine (l1 _).mono ?_); rintro e w7 ⟨rfl, hb7⟩; have B15 : Cs w7 b15 #[.int .i64 g1, .int .i64 g2] := Cs.keep (by repeat (first | with_reducible assumption | (with_reducible refine Cs.new _ _ _ _ ?_; first | rfl | (simp; done)) | with_reducible refine Cs.alloc ?_ _ | with_reducible refine Cs.drewN ?_ _ | with_reducible refine Cs.drew ?_ | with_reducible refine Cs.set4 ?_ _ _ _ _ | (with_reducible refine Cs.other4 ?_ ?_ _ _ _ _; rotate_left; focus (first | assumption | omega | (simp; done) | (simp; omega))) | with_reducible refine Cs.set2 ?_ _ _ | (with_reducible refine Cs.other2 ?_ ?_ _ _; rotate_left; focus (first | assumption | omega | (simp; done) | (simp; omega))) | (with_reducible refine Cs.other ?_ ?_ _; rotate_left; focus (first | assumption | omega | (simp; done) | (simp; omega))) | with_reducible refine Cs.keep ?_ (by assumption) | assumption)) hb7; have B16 : Cs w7 b16 #[.int .i64 s1, .int .i64 s2] := Cs.keep (by repeat (first | with_reducible assumption | (with_reducible refine Cs.new _ _ _ _ ?_; first | rfl | (simp; done)) | with_reducible refine Cs.alloc ?_ _ | with_reducible refine Cs.drewN ?_ _ | with_reducible refine Cs.drew ?_ | with_reducible refine Cs.set4 ?_ _ _ _ _ | (with_reducible refine Cs.other4 ?_ ?_ _ _ _ _; rotate_left; focus (first | assumption | omega | (simp; done) | (simp; omega))) | with_reducible refine Cs.set2 ?_ _ _ | (with_reducible refine Cs.other2 ?_ ?_ _ _; rotate_left; focus (first | assumption | omega | (simp; done) | (simp; omega))) | (with_reducible refine Cs.other ?_ ?_ _; rotate_left; focus (first | assumption | omega | (simp; done) | (simp; omega))) | with_reducible refine Cs.keep ?_ (by assumption) | assumption)) hb7; have B17 : Cs w7 b17 #[.int .i64 a1, .int .i64 a2] := Cs.keep (by repeat (first | with_reducible assumption | (with_reducible refine Cs.new _ _ _ _ ?_; first | rfl | (simp; done)) | with_reducible refine Cs.alloc ?_ _ | with_reducible refine Cs.drewN ?_ _ | with_reducible refine Cs.drew ?_ | with_reducible refine Cs.set4 ?_ _ _ _ _ | (with_reducible refine Cs.other4 ?_ ?_ _ _ _ _; rotate_left; focus (first | assumption | omega | (simp; done) | (simp; omega))) | with_reducible refine Cs.set2 ?_ _ _ | (with_reducible refine Cs.other2 ?_ ?_ _ _; rotate_left; focus (first | assumption | omega | (simp; done) | (simp; omega))) | (with_reducible refine Cs.other ?_ ?_ _; rotate_left; focus (first | assumption | omega | (simp; done) | (simp; omega))) | with_reducible refine Cs.keep ?_ (by assumption) | assumption)) hb7; have B18 : Cs w7 b18 #[.int .i64 b1, .int .i64 b2] := Cs.keep (by repeat (first | with_reducible assumption | (with_reducible refine Cs.new _ _ _ _ ?_; first | rfl | (simp; done)) | with_reducible refine Cs.alloc ?_ _ | with_reducible refine Cs.drewN ?_ _ | with_reducible refine Cs.drew ?_ | with_reducible refine Cs.set4 ?_ _ _ _ _ | (with_reducible refine Cs.other4 ?_ ?_ _ _ _ _; rotate_left; focus (first | assumption | omega | (simp; done) | (simp; omega))) | with_reducible refine Cs.set2 ?_ _ _ | (with_reducible refine Cs.other2 ?_ ?_ _ _; rotate_left; focus (first | assumption | omega | (simp; done) | (simp; omega))) | (with_reducible refine Cs.other ?_ ?_ _; rotate_left; focus (first | assumption | omega | (simp; done) | (simp; omega))) | with_reducible refine Cs.keep ?_ (by assumption) | assumption)) hb7; have B19 : Cs w7 (w1.heap.size) #[.int .i64 x, .int .i64 y] := Cs.keep (by repeat (first | with_reducible assumption | (with_reducible refine Cs.new _ _ _ _ ?_; first | rfl | (simp; done)) | with_reducible refine Cs.alloc ?_ _ | with_reducible refine Cs.drewN ?_ _ | with_reducible refine Cs.drew ?_ | with_reducible refine Cs.set4 ?_ _ _ _ _ | (with_reducible refine Cs.other4 ?_ ?_ _ _ _ _; rotate_left; focus (first | assumption | omega | (simp; done) | (simp; omega))) | with_reducible refine Cs.set2 ?_ _ _ | (with_reducible refine Cs.other2 ?_ ?_ _ _; rotate_left; focus (first | assumption | omega | (simp; done) | (simp; omega))) | (with_reducible refine Cs.other ?_ ?_ _; rotate_left; focus (first | assumption | omega | (simp; done) | (simp; omega))) | with_reducible refine Cs.keep ?_ (by assumption) | assumption)) hb7; have B24 : Cs w7 (w5.heap.size) #[.int .i64 t1, .int .i64 t2] := Cs.keep (by repeat (first | with_reducible assumption | (with_reducible refine Cs.new _ _ _ _ ?_; first | rfl | (simp; done)) | with_reducible refine Cs.alloc ?_ _ | with_reducible refine Cs.drewN ?_ _ | with_reducible refine Cs.drew ?_ | with_reducible refine Cs.set4 ?_ _ _ _ _ | (with_reducible refine Cs.other4 ?_ ?_ _ _ _ _; rotate_left; focus (first | assumption | omega | (simp; done) | (simp; omega))) | with_reducible refine Cs.set2 ?_ _ _ | (with_reducible refine Cs.other2 ?_ ?_ _ _; rotate_left; focus (first | assumption | omega | (simp; done) | (simp; omega))) | (with_reducible refine Cs.other ?_ ?_ _; rotate_left; focus (first | assumption | omega | (simp; done) | (simp; omega))) | with_reducible refine Cs.keep ?_ (by assumption) | assumption)) hb7; have B26 : Cs w7 (w6.heap.size) #[.int .i64 u1, .int .i64 u2] := Cs.keep (by repeat (first | with_reducible assumption | (with_reducible refine Cs.new _ _ _ _ ?_; first | rfl | (simp; done)) | with_reducible refine Cs.alloc ?_ _ | with_reducible refine Cs.drewN ?_ _ | with_reducible refine Cs.drew ?_ | with_reducible refine Cs.set4 ?_ _ _ _ _ | (with_reducible refine Cs.other4 ?_ ?_ _ _ _ _; rotate_left; focus (first | assumption | omega | (simp; done) | (simp; omega))) | with_reducible refine Cs.set2 ?_ _ _ | (with_reducible refine Cs.other2 ?_ ?_ _ _; rotate_left; focus (first | assumption | omega | (simp; done) | (simp; omega))) | (with_reducible refine Cs.other ?_ ?_ _; rotate_left; focus (first | assumption | omega | (simp; done) | (simp; omega))) | with_reducible refine Cs.keep ?_ (by assumption) | assumption)) hb7; have hbw : Below w.heap.size w w7 := (by repeat (first | with_reducible exact Below.refl _ _ | with_reducible assumption | with_reducible refine balloc ?_ _ | with_reducible refine bdrewN ?_ _ | with_reducible refine Below.drew ?_ | (with_reducible refine bset ?_ ?_ _; rotate_left; focus (first | assumption | omega | (simp; done) | (simp; omega))) | with_reducible refine bstep ?_ (by assumption) | assumption)); clear hb7) | (go_at_call 28; (with_reducible refine (of_any _ _ _).mono ?_); rintro e w7 ⟨rfl, hb7⟩; have B15 : Cs w7 b15 #[.int .i64 g1, .int .i64 g2] := Cs.keep (by repeat (first | with_reducible assumption | (with_reducible refine Cs.new _ _ _ _ ?_; first | rfl | (simp; done)) | with_reducible refine Cs.alloc ?_ _ | with_reducible refine Cs.drewN ?_ _ | with_reducible refine Cs.drew ?_ | with_reducible refine Cs.set4 ?_ _ _ _ _ | (with_reducible refine Cs.other4 ?_ ?_ _ _ _ _; rotate_left; focus (first | assumption | omega | (simp; done) | (simp; omega))) | with_reducible refine Cs.set2 ?_ _ _ | (with_reducible refine Cs.other2 ?_ ?_ _ _; rotate_left; focus (first | assumption | omega | (simp; done) | (simp; omega))) | (with_reducible refine Cs.other ?_ ?_ _; rotate_left; focus (first | assumption | omega | (simp; done) | (simp; omega))) | with_reducible refine Cs.keep ?_ (by assumption) | assumption)) hb7; have B16 : Cs w7 b16 #[.int .i64 s1, .int .i64 s2] := Cs.keep (by repeat (first | with_reducible assumption | (with_reducible refine Cs.new _ _ _ _ ?_; first | rfl | (simp; done)) | with_reducible refine Cs.alloc ?_ _ | with_reducible refine Cs.drewN ?_ _ | with_reducible refine Cs.drew ?_ | with_reducible refine Cs.set4 ?_ _ _ _ _ | (with_reducible refine Cs.other4 ?_ ?_ _ _ _ _; rotate_left; focus (first | assumption | omega | (simp; done) | (simp; omega))) | with_reducible refine Cs.set2 ?_ _ _ | (with_reducible refine Cs.other2 ?_ ?_ _ _; rotate_left; focus (first | assumption | omega | (simp; done) | (simp; omega))) | (with_reducible refine Cs.other ?_ ?_ _; rotate_left; focus (first | assumption | omega | (simp; done) | (simp; omega))) | with_reducible refine Cs.keep ?_ (by assumption) | assumption)) hb7; have B17 : Cs w7 b17 #[.int .i64 a1, .int .i64 a2] := Cs.keep (by repeat (first | with_reducible assumption | (with_reducible refine Cs.new _ _ _ _ ?_; first | rfl | (simp; done)) | with_reducible refine Cs.alloc ?_ _ | with_reducible refine Cs.drewN ?_ _ | with_reducible refine Cs.drew ?_ | with_reducible refine Cs.set4 ?_ _ _ _ _ | (with_reducible refine Cs.other4 ?_ ?_ _ _ _ _; rotate_left; focus (first | assumption | omega | (simp; done) | (simp; omega))) | with_reducible refine Cs.set2 ?_ _ _ | (with_reducible refine Cs.other2 ?_ ?_ _ _; rotate_left; focus (first | assumption | omega | (simp; done) | (simp; omega))) | (with_reducible refine Cs.other ?_ ?_ _; rotate_left; focus (first | assumption | omega | (simp; done) | (simp; omega))) | with_reducible refine Cs.keep ?_ (by assumption) | assumption)) hb7; have B18 : Cs w7 b18 #[.int .i64 b1, .int .i64 b2] := Cs.keep (by repeat (first | with_reducible assumption | (with_reducible refine Cs.new _ _ _ _ ?_; first | rfl | (simp; done)) | with_reducible refine Cs.alloc ?_ _ | with_reducible refine Cs.drewN ?_ _ | with_reducible refine Cs.drew ?_ | with_reducible refine Cs.set4 ?_ _ _ _ _ | (with_reducible refine Cs.other4 ?_ ?_ _ _ _ _; rotate_left; focus (first | assumption | omega | (simp; done) | (simp; omega))) | with_reducible refine Cs.set2 ?_ _ _ | (with_reducible refine Cs.other2 ?_ ?_ _ _; rotate_left; focus (first | assumption | omega | (simp; done) | (simp; omega))) | (with_reducible refine Cs.other ?_ ?_ _; rotate_left; focus (first | assumption | omega | (simp; done) | (simp; omega))) | with_reducible refine Cs.keep ?_ (by assumption) | assumption)) hb7; have B19 : Cs w7 (w1.heap.size) #[.int .i64 x, .int .i64 y] := Cs.keep (by repeat (first | with_reducible assumption | (with_reducible refine Cs.new _ _ _ _ ?_; first | rfl | (simp; done)) | with_reducible refine Cs.alloc ?_ _ | with_reducible refine Cs.drewN ?_ _ | with_reducible refine Cs.drew ?_ | with_reducible refine Cs.set4 ?_ _ _ _ _ | (with_reducible refine Cs.other4 ?_ ?_ _ _ _ _; rotate_left; focus (first | assumption | omega | (simp; done) | (simp; omega))) | with_reducible refine Cs.set2 ?_ _ _ | (with_reducible refine Cs.other2 ?_ ?_ _ _; rotate_left; focus (first | assumption | omega | (simp; done) | (simp; omega))) | (with_reducible refine Cs.other ?_ ?_ _; rotate_left; focus (first | assumption | omega | (simp; done) | (simp; omega))) | with_reducible refine Cs.keep ?_ (by assumption) | assumption)) hb7; have B24 : Cs w7 (w5.heap.size) #[.int .i64 t1, .int .i64 t2] := Cs.keep (by repeat (first | with_reducible assumption | (with_reducible refine Cs.new _ _ _ _ ?_; first | rfl | (simp; done)) | with_reducible refine Cs.alloc ?_ _ | with_reducible refine Cs.drewN ?_ _ | with_reducible refine Cs.drew ?_ | with_reducible refine Cs.set4 ?_ _ _ _ _ | (with_reducible refine Cs.other4 ?_ ?_ _ _ _ _; rotate_left; focus (first | assumption | omega | (simp; done) | (simp; omega))) | with_reducible refine Cs.set2 ?_ _ _ | (with_reducible refine Cs.other2 ?_ ?_ _ _; rotate_left; focus (first | assumption | omega | (simp; done) | (simp; omega))) | (with_reducible refine Cs.other ?_ ?_ _; rotate_left; focus (first | assumption | omega | (simp; done) | (simp; omega))) | with_reducible refine Cs.keep ?_ (by assumption) | assumption)) hb7; have B26 : Cs w7 (w6.heap.size) #[.int .i64 u1, .int .i64 u2] := Cs.keep (by repeat (first | with_reducible assumption | (with_reducible refine Cs.new _ _ _ _ ?_; first | rfl | (simp; done)) | with_reducible refine Cs.alloc ?_ _ | with_reducible refine Cs.drewN ?_ _ | with_reducible refine Cs.drew ?_ | with_reducible refine Cs.set4 ?_ _ _ _ _ | (with_reducible refine Cs.other4 ?_ ?_ _ _ _ _; rotate_left; focus (first | assumption | omega | (simp; done) | (simp; omega))) | with_reducible refine Cs.set2 ?_ _ _ | (with_reducible refine Cs.other2 ?_ ?_ _ _; rotate_left; focus (first | assumption | omega | (simp; done) | (simp; omega))) | (with_reducible refine Cs.other ?_ ?_ _; rotate_left; focus (first | assumption | omega | (simp; done) | (simp; omega))) | with_reducible refine Cs.keep ?_ (by assumption) | assumption)) hb7; have hbw : Below w.heap.size w w7 := (by repeat (first | with_reducible exact Below.refl _ _ | with_reducible assumption | with_reducible refine balloc ?_ _ | with_reducible refine bdrewN ?_ _ | with_reducible refine Below.drew ?_ | (with_reducible refine bset ?_ ?_ _; rotate_left; focus (first | assumption | omega | (simp; done) | (simp; omega))) | with_reducible refine bstep ?_ (by assumption) | assumption)); clear hb7) | (go_at_call 29; (with_reducible refine (l2 _).mono ?_); rintro e w7 ⟨rfl, hb7⟩; have B15 : Cs w7 b15 #[.int .i64 g1, .int .i64 g2] := Cs.keep (by repeat (first | with_reducible assumption | (with_reducible refine Cs.new _ _ _ _ ?_; first | rfl | (simp; done)) | with_reducible refine Cs.alloc ?_ _ | with_reducible refine Cs.drewN ?_ _ | with_reducible refine Cs.drew ?_ | with_reducible refine Cs.set4 ?_ _ _ _ _ | (with_reducible refine Cs.other4 ?_ ?_ _ _ _ _; rotate_left; focus (first | assumption | omega | (simp; done) | (simp; omega))) | with_reducible refine Cs.set2 ?_ _ _ | (with_reducible refine Cs.other2 ?_ ?_ _ _; rotate_left; focus (first | assumption | omega | (simp; done) | (simp; omega))) | (with_reducible refine Cs.other ?_ ?_ _; rotate_left; focus (first | assumption | omega | (simp; done) | (simp; omega))) | with_reducible refine Cs.keep ?_ (by assumption) | assumption)) hb7; have B16 : Cs w7 b16 #[.int .i64 s1, .int .i64 s2] := Cs.keep (by repeat (first | with_reducible assumption | (with_reducible refine Cs.new _ _ _ _ ?_; first | rfl | (simp; done)) | with_reducible refine Cs.alloc ?_ _ | with_reducible refine Cs.drewN ?_ _ | with_reducible refine Cs.drew ?_ | with_reducible refine Cs.set4 ?_ _ _ _ _ | (with_reducible refine Cs.other4 ?_ ?_ _ _ _ _; rotate_left; focus (first | assumption | omega | (simp; done) | (simp; omega))) | with_reducible refine Cs.set2 ?_ _ _ | (with_reducible refine Cs.other2 ?_ ?_ _ _; rotate_left; focus (first | assumption | omega | (simp; done) | (simp; omega))) | (with_reducible refine Cs.other ?_ ?_ _; rotate_left; focus (first | assumption | omega | (simp; done) | (simp; omega))) | with_reducible refine Cs.keep ?_ (by assumption) | assumption)) hb7; have B17 : Cs w7 b17 #[.int .i64 a1, .int .i64 a2] := Cs.keep (by repeat (first | with_reducible assumption | (with_reducible refine Cs.new _ _ _ _ ?_; first | rfl | (simp; done)) | with_reducible refine Cs.alloc ?_ _ | with_reducible refine Cs.drewN ?_ _ | with_reducible refine Cs.drew ?_ | with_reducible refine Cs.set4 ?_ _ _ _ _ | (with_reducible refine Cs.other4 ?_ ?_ _ _ _ _; rotate_left; focus (first | assumption | omega | (simp; done) | (simp; omega))) | with_reducible refine Cs.set2 ?_ _ _ | (with_reducible refine Cs.other2 ?_ ?_ _ _; rotate_left; focus (first | assumption | omega | (simp; done) | (simp; omega))) | (with_reducible refine Cs.other ?_ ?_ _; rotate_left; focus (first | assumption | omega | (simp; done) | (simp; omega))) | with_reducible refine Cs.keep ?_ (by assumption) | assumption)) hb7; have B18 : Cs w7 b18 #[.int .i64 b1, .int .i64 b2] := Cs.keep (by repeat (first | with_reducible assumption | (with_reducible refine Cs.new _ _ _ _ ?_; first | rfl | (simp; done)) | with_reducible refine Cs.alloc ?_ _ | with_reducible refine Cs.drewN ?_ _ | with_reducible refine Cs.drew ?_ | with_reducible refine Cs.set4 ?_ _ _ _ _ | (with_reducible refine Cs.other4 ?_ ?_ _ _ _ _; rotate_left; focus (first | assumption | omega | (simp; done) | (simp; omega))) | with_reducible refine Cs.set2 ?_ _ _ | (with_reducible refine Cs.other2 ?_ ?_ _ _; rotate_left; focus (first | assumption | omega | (simp; done) | (simp; omega))) | (with_reducible refine Cs.other ?_ ?_ _; rotate_left; focus (first | assumption | omega | (simp; done) | (simp; omega))) | with_reducible refine Cs.keep ?_ (by assumption) | assumption)) hb7; have B19 : Cs w7 (w1.heap.size) #[.int .i64 x, .int .i64 y] := Cs.keep (by repeat (first | with_reducible assumption | (with_reducible refine Cs.new _ _ _ _ ?_; first | rfl | (simp; done)) | with_reducible refine Cs.alloc ?_ _ | with_reducible refine Cs.drewN ?_ _ | with_reducible refine Cs.drew ?_ | with_reducible refine Cs.set4 ?_ _ _ _ _ | (with_reducible refine Cs.other4 ?_ ?_ _ _ _ _; rotate_left; focus (first | assumption | omega | (simp; done) | (simp; omega))) | with_reducible refine Cs.set2 ?_ _ _ | (with_reducible refine Cs.other2 ?_ ?_ _ _; rotate_left; focus (first | assumption | omega | (simp; done) | (simp; omega))) | (with_reducible refine Cs.other ?_ ?_ _; rotate_left; focus (first | assumption | omega | (simp; done) | (simp; omega))) | with_reducible refine Cs.keep ?_ (by assumption) | assumption)) hb7; have B24 : Cs w7 (w5.heap.size) #[.int .i64 t1, .int .i64 t2] := Cs.keep (by repeat (first | with_reducible assumption | (with_reducible refine Cs.new _ _ _ _ ?_; first | rfl | (simp; done)) | with_reducible refine Cs.alloc ?_ _ | with_reducible refine Cs.drewN ?_ _ | with_reducible refine Cs.drew ?_ | with_reducible refine Cs.set4 ?_ _ _ _ _ | (with_reducible refine Cs.other4 ?_ ?_ _ _ _ _; rotate_left; focus (first | assumption | omega | (simp; done) | (simp; omega))) | with_reducible refine Cs.set2 ?_ _ _ | (with_reducible refine Cs.other2 ?_ ?_ _ _; rotate_left; focus (first | assumption | omega | (simp; done) | (simp; omega))) | (with_reducible refine Cs.other ?_ ?_ _; rotate_left; focus (first | assumption | omega | (simp; done) | (simp; omega))) | with_reducible refine Cs.keep ?_ (by assumption) | assumption)) hb7; have B26 : Cs w7 (w6.heap.size) #[.int .i64 u1, .int .i64 u2] := Cs.keep (by repeat (first | with_reducible assumption | (with_reducible refine Cs.new _ _ _ _ ?_; first | rfl | (simp; done)) | with_reducible refine Cs.alloc ?_ _ | with_reducible refine Cs.drewN ?_ _ | with_reducible refine Cs.drew ?_ | with_reducible refine Cs.set4 ?_ _ _ _ _ | (with_reducible refine Cs.other4 ?_ ?_ _ _ _ _; rotate_left; focus (first | assumption | omega | (simp; done) | (simp; omega))) | with_reducible refine Cs.set2 ?_ _ _ | (with_reducible refine Cs.other2 ?_ ?_ _ _; rotate_left; focus (first | assumption | omega | (simp; done) | (simp; omega))) | (with_reducible refine Cs.other ?_ ?_ _; rotate_left; focus (first | assumption | omega | (simp; done) | (simp; omega))) | with_reducible refine Cs.keep ?_ (by assumption) | assumption)) hb7; have hbw : Below w.heap.size w w7 := (by repeat (first | with_reducible exact Below.refl _ _ | with_reducible assumption | with_reducible refine balloc ?_ _ | with_reducible refine bdrewN ?_ _ | with_reducible refine Below.drew ?_ | (with_reducible refine bset ?_ ?_ _; rotate_left; focus (first | assumption | omega | (simp; done) | (simp; omega))) | with_reducible refine bstep ?_ (by assumption) | assumption)); clear hb7))
          all_goals (
            go_wp2_with fail
            go_meet
            exact ⟨rfl, B15, B16, B17, B18, B19, hbw⟩)
        case rest =>
          clear B15 cB15 fB15 lB15 B16 cB16 fB16 lB16 B17 cB17 fB17 lB17 B18 cB18 fB18 lB18 B19 cB19 fB19 lB19 B24 cB24 fB24 lB24 hbw pt pu l1 l2 fb
          obtain ⟨rfl, B15, B16, B17, B18, B19, hbw⟩ := hcut
          have cB15 := B15.c
          have fB15 := B15.f
          have lB15 := B15.lt
          have cB16 := B16.c
          have fB16 := B16.f
          have lB16 := B16.lt
          have cB17 := B17.c
          have fB17 := B17.f
          have lB17 := B17.lt
          have cB18 := B18.c
          have fB18 := B18.f
          have lB18 := B18.lt
          have cB19 := B19.c
          have fB19 := B19.f
          have lB19 := B19.lt
          have hg := HHg.out
          have hs := HHs.out
          have ha := HHa.out
          have hb := HHb.out
          have hq := Hq.out
          have hM := HM.out
          have cP := Em.moreP_prn (a := (a1, a2)) ha (k := M) hM.1
          have dP := Em.moreP_prn (a := (b1, b2)) hb (k := M) hM.1
          have hq2 := Em.keep_more (c := Em.moreP (a1, a2) M) (d := Em.moreP (b1, b2) M) hg hs ha hb cP.1 dP.1 cP.2 dP.2 hq
          obtain ⟨m1, hm1⟩ : ∃ m, (if a1 + M < a2 then a1 + M else a2) = m := ⟨_, rfl⟩
          obtain ⟨m2, hm2⟩ : ∃ m, (if b1 + M < b2 then b1 + M else b2) = m := ⟨_, rfl⟩
          have e1 : Em.moreP (a1, a2) M = Em.red m1 a2 := by unfold Em.moreP; rw [← hm1]; congr 1; dsimp only; split <;> split <;> omega
          have e2 : Em.moreP (b1, b2) M = Em.red m2 b2 := by unfold Em.moreP; rw [← hm2]; congr 1; dsimp only; split <;> split <;> omega
          have a0 := ha.n0
          have a3 := ha.n1
          have a4 := ha.d0
          have a5 := ha.d1
          have b0 := hb.n0
          have b3 := hb.n1
          have b4 := hb.d0
          have b5 := hb.d1
          dsimp only at a0 a3 a4 a5 b0 b3 b4 b5
          have m3 : 0 ≤ m1 ∧ m1 ≤ a2 := by rw [← hm1]; split <;> omega
          have m4 : 0 ≤ m2 ∧ m2 ≤ b2 := by rw [← hm2]; split <;> omega
          have kf := fun W => fraction_any m1 a2 W m3.1 a4 (by omega) (by omega)
          have kg := fun W => fraction_any m2 b2 W m4.1 b4 (by omega) (by omega)
          have fa : IntKind.i64.wrap (a1 + M) = a1 + M := IntWalk.i64_in _ (by omega)
          have fb : IntKind.i64.wrap (b1 + M) = b1 + M := IntWalk.i64_in _ (by omega)
          rw [e1] at hq2 cP
          rw [e2] at hq2 dP
          generalize Em.red m1 a2 = c at *
          generalize Em.red m2 b2 = d at *
          obtain ⟨c1, c2⟩ := c
          obtain ⟨d1, d2⟩ := d
          dsimp only at kf kg hq2
          have kR := fun W => plan_any g1 g2 s1 s2 c1 c2 d1 d2 W
          rw [planE_ok (a := (c1, c2)) (b := (d1, d2)) hg hs cP.1 dP.1] at kR
          obtain ⟨z, u, hz, hzx⟩ := Em.planFrom_le (k := 12) (n := 1) (m := x) (r := y) x1 (by omega) y1 hq2
          unfold planP at kR
          unfold RetPL at kR
          dsimp only at kR
          rw [hz] at kR
          dsimp only at kR
          have hzI : (z : Int) ≤ (x : Int) := by omega
          clear hg hs ha hb hq cP dP hq2 e1 e2 a0 a3 a4 a5 b0 b3 b4 b5 m3 m4 hz hzx HHg HHs HHa HHb Hrn Hn2 HM Hq f0 f1 f2 f3 f4 f5 f6 f7 f8
          go_wp2_with fail
          refine (kf _).mono ?_
          rintro e w7 ⟨rfl, hb7⟩
          replace B15 : Cs w7 b15 #[.int .i64 g1, .int .i64 g2] := Cs.keep (by repeat (first | with_reducible assumption | (with_reducible refine Cs.new _ _ _ _ ?_; first | rfl | (simp; done)) | with_reducible refine Cs.alloc ?_ _ | with_reducible refine Cs.drewN ?_ _ | with_reducible refine Cs.drew ?_ | with_reducible refine Cs.set4 ?_ _ _ _ _ | (with_reducible refine Cs.other4 ?_ ?_ _ _ _ _; rotate_left; focus (first | assumption | omega | (simp; done) | (simp; omega))) | with_reducible refine Cs.set2 ?_ _ _ | (with_reducible refine Cs.other2 ?_ ?_ _ _; rotate_left; focus (first | assumption | omega | (simp; done) | (simp; omega))) | (with_reducible refine Cs.other ?_ ?_ _; rotate_left; focus (first | assumption | omega | (simp; done) | (simp; omega))) | with_reducible refine Cs.keep ?_ (by assumption) | assumption)) hb7
          replace B16 : Cs w7 b16 #[.int .i64 s1, .int .i64 s2] := Cs.keep (by repeat (first | with_reducible assumption | (with_reducible refine Cs.new _ _ _ _ ?_; first | rfl | (simp; done)) | with_reducible refine Cs.alloc ?_ _ | with_reducible refine Cs.drewN ?_ _ | with_reducible refine Cs.drew ?_ | with_reducible refine Cs.set4 ?_ _ _ _ _ | (with_reducible refine Cs.other4 ?_ ?_ _ _ _ _; rotate_left; focus (first | assumption | omega | (simp; done) | (simp; omega))) | with_reducible refine Cs.set2 ?_ _ _ | (with_reducible refine Cs.other2 ?_ ?_ _ _; rotate_left; focus (first | assumption | omega | (simp; done) | (simp; omega))) | (with_reducible refine Cs.other ?_ ?_ _; rotate_left; focus (first | assumption | omega | (simp; done) | (simp; omega))) | with_reducible refine Cs.keep ?_ (by assumption) | assumption)) hb7
          replace B17 : Cs w7 b17 #[.int .i64 a1, .int .i64 a2] := Cs.keep (by repeat (first | with_reducible assumption | (with_reducible refine Cs.new _ _ _ _ ?_; first | rfl | (simp; done)) | with_reducible refine Cs.alloc ?_ _ | with_reducible refine Cs.drewN ?_ _ | with_reducible refine Cs.drew ?_ | with_reducible refine Cs.set4 ?_ _ _ _ _ | (with_reducible refine Cs.other4 ?_ ?_ _ _ _ _; rotate_left; focus (first | assumption | omega | (simp; done) | (simp; omega))) | with_reducible refine Cs.set2 ?_ _ _ | (with_reducible refine Cs.other2 ?_ ?_ _ _; rotate_left; focus (first | assumption | omega | (simp; done) | (simp; omega))) | (with_reducible refine Cs.other ?_ ?_ _; rotate_left; focus (first | assumption | omega | (simp; done) | (simp; omega))) | with_reducible refine Cs.keep ?_ (by assumption) | assumption)) hb7
          replace B18 : Cs w7 b18 #[.int .i64 b1, .int .i64 b2] := Cs.keep (by repeat (first | with_reducible assumption | (with_reducible refine Cs.new _ _ _ _ ?_; first | rfl | (simp; done)) | with_reducible refine Cs.alloc ?_ _ | with_reducible refine Cs.drewN ?_ _ | with_reducible refine Cs.drew ?_ | with_reducible refine Cs.set4 ?_ _ _ _ _ | (with_reducible refine Cs.other4 ?_ ?_ _ _ _ _; rotate_left; focus (first | assumption | omega | (simp; done) | (simp; omega))) | with_reducible refine Cs.set2 ?_ _ _ | (with_reducible refine Cs.other2 ?_ ?_ _ _; rotate_left; focus (first | assumption | omega | (simp; done) | (simp; omega))) | (with_reducible refine Cs.other ?_ ?_ _; rotate_left; focus (first | assumption | omega | (simp; done) | (simp; omega))) | with_reducible refine Cs.keep ?_ (by assumption) | assumption)) hb7
          replace B19 : Cs w7 (w1.heap.size) #[.int .i64 x, .int .i64 y] := Cs.keep (by repeat (first | with_reducible assumption | (with_reducible refine Cs.new _ _ _ _ ?_; first | rfl | (simp; done)) | with_reducible refine Cs.alloc ?_ _ | with_reducible refine Cs.drewN ?_ _ | with_reducible refine Cs.drew ?_ | with_reducible refine Cs.set4 ?_ _ _ _ _ | (with_reducible refine Cs.other4 ?_ ?_ _ _ _ _; rotate_left; focus (first | assumption | omega | (simp; done) | (simp; omega))) | with_reducible refine Cs.set2 ?_ _ _ | (with_reducible refine Cs.other2 ?_ ?_ _ _; rotate_left; focus (first | assumption | omega | (simp; done) | (simp; omega))) | (with_reducible refine Cs.other ?_ ?_ _; rotate_left; focus (first | assumption | omega | (simp; done) | (simp; omega))) | with_reducible refine Cs.keep ?_ (by assumption) | assumption)) hb7
          replace hbw : Below w.heap.size w w7 := (by repeat (first | with_reducible exact Below.refl _ _ | with_reducible assumption | with_reducible refine balloc ?_ _ | with_reducible refine bdrewN ?_ _ | with_reducible refine Below.drew ?_ | (with_reducible refine bset ?_ ?_ _; rotate_left; focus (first | assumption | omega | (simp; done) | (simp; omega))) | with_reducible refine bstep ?_ (by assumption) | assumption))
          replace cB15 := B15.c
          replace fB15 := B15.f
          replace lB15 := B15.lt
          replace cB16 := B16.c
          replace fB16 := B16.f
          replace lB16 := B16.lt
          replace cB17 := B17.c
          replace fB17 := B17.f
          replace lB17 := B17.lt
          replace cB18 := B18.c
          replace fB18 := B18.f
          replace lB18 := B18.lt
          replace cB19 := B19.c
          replace fB19 := B19.f
          replace lB19 := B19.lt
          clear hb7
          go_wp2_with fail
          refine (kg _).mono ?_
          rintro e w8 ⟨rfl, hb8⟩
          try clear cB17 fB17 lB17
          try clear B17
          try clear cB18 fB18 lB18
          try clear B18
          replace B15 : Cs w8 b15 #[.int .i64 g1, .int .i64 g2] := Cs.keep (by repeat (first | with_reducible assumption | (with_reducible refine Cs.new _ _ _ _ ?_; first | rfl | (simp; done)) | with_reducible refine Cs.alloc ?_ _ | with_reducible refine Cs.drewN ?_ _ | with_reducible refine Cs.drew ?_ | with_reducible refine Cs.set4 ?_ _ _ _ _ | (with_reducible refine Cs.other4 ?_ ?_ _ _ _ _; rotate_left; focus (first | assumption | omega | (simp; done) | (simp; omega))) | with_reducible refine Cs.set2 ?_ _ _ | (with_reducible refine Cs.other2 ?_ ?_ _ _; rotate_left; focus (first | assumption | omega | (simp; done) | (simp; omega))) | (with_reducible refine Cs.other ?_ ?_ _; rotate_left; focus (first | assumption | omega | (simp; done) | (simp; omega))) | with_reducible refine Cs.keep ?_ (by assumption) | assumption)) hb8
          replace B16 : Cs w8 b16 #[.int .i64 s1, .int .i64 s2] := Cs.keep (by repeat (first | with_reducible assumption | (with_reducible refine Cs.new _ _ _ _ ?_; first | rfl | (simp; done)) | with_reducible refine Cs.alloc ?_ _ | with_reducible refine Cs.drewN ?_ _ | with_reducible refine Cs.drew ?_ | with_reducible refine Cs.set4 ?_ _ _ _ _ | (with_reducible refine Cs.other4 ?_ ?_ _ _ _ _; rotate_left; focus (first | assumption | omega | (simp; done) | (simp; omega))) | with_reducible refine Cs.set2 ?_ _ _ | (with_reducible refine Cs.other2 ?_ ?_ _ _; rotate_left; focus (first | assumption | omega | (simp; done) | (simp; omega))) | (with_reducible refine Cs.other ?_ ?_ _; rotate_left; focus (first | assumption | omega | (simp; done) | (simp; omega))) | with_reducible refine Cs.keep ?_ (by assumption) | assumption)) hb8
          replace B19 : Cs w8 (w1.heap.size) #[.int .i64 x, .int .i64 y] := Cs.keep (by repeat (first | with_reducible assumption | (with_reducible refine Cs.new _ _ _ _ ?_; first | rfl | (simp; done)) | with_reducible refine Cs.alloc ?_ _ | with_reducible refine Cs.drewN ?_ _ | with_reducible refine Cs.drew ?_ | with_reducible refine Cs.set4 ?_ _ _ _ _ | (with_reducible refine Cs.other4 ?_ ?_ _ _ _ _; rotate_left; focus (first | assumption | omega | (simp; done) | (simp; omega))) | with_reducible refine Cs.set2 ?_ _ _ | (with_reducible refine Cs.other2 ?_ ?_ _ _; rotate_left; focus (first | assumption | omega | (simp; done) | (simp; omega))) | (with_reducible refine Cs.other ?_ ?_ _; rotate_left; focus (first | assumption | omega | (simp; done) | (simp; omega))) | with_reducible refine Cs.keep ?_ (by assumption) | assumption)) hb8
          replace B28 : Cs w8 (w7.heap.size) #[.int .i64 c1, .int .i64 c2] := Cs.keep (by repeat (first | with_reducible assumption | (with_reducible refine Cs.new _ _ _ _ ?_; first | rfl | (simp; done)) | with_reducible refine Cs.alloc ?_ _ | with_reducible refine Cs.drewN ?_ _ | with_reducible refine Cs.drew ?_ | with_reducible refine Cs.set4 ?_ _ _ _ _ | (with_reducible refine Cs.other4 ?_ ?_ _ _ _ _; rotate_left; focus (first | assumption | omega | (simp; done) | (simp; omega))) | with_reducible refine Cs.set2 ?_ _ _ | (with_reducible refine Cs.other2 ?_ ?_ _ _; rotate_left; focus (first | assumption | omega | (simp; done) | (simp; omega))) | (with_reducible refine Cs.other ?_ ?_ _; rotate_left; focus (first | assumption | omega | (simp; done) | (simp; omega))) | with_reducible refine Cs.keep ?_ (by assumption) | assumption)) hb8
          replace hbw : Below w.heap.size w w8 := (by repeat (first | with_reducible exact Below.refl _ _ | with_reducible assumption | with_reducible refine balloc ?_ _ | with_reducible refine bdrewN ?_ _ | with_reducible refine Below.drew ?_ | (with_reducible refine bset ?_ ?_ _; rotate_left; focus (first | assumption | omega | (simp; done) | (simp; omega))) | with_reducible refine bstep ?_ (by assumption) | assumption))
          replace cB15 := B15.c
          replace fB15 := B15.f
          replace lB15 := B15.lt
          replace cB16 := B16.c
          replace fB16 := B16.f
          replace lB16 := B16.lt
          replace cB19 := B19.c
          replace fB19 := B19.f
          replace lB19 := B19.lt
          replace cB28 := B28.c
          replace fB28 := B28.f
          replace lB28 := B28.lt
          clear hb8
          go_wp2_with fail
          refine (kR _).mono ?_
          rintro e w9 ⟨rfl, hb9⟩
          try clear cB15 fB15 lB15
          try clear B15
          try clear cB16 fB16 lB16
          try clear B16
          try clear cB17 fB17 lB17
          try clear B17
          try clear cB18 fB18 lB18
          try clear B18
          try clear cB28 fB28 lB28
          try clear B28
          try clear cB29 fB29 lB29
          try clear B29
          replace B19 : Cs w9 (w1.heap.size) #[.int .i64 x, .int .i64 y] := Cs.keep (by repeat (first | with_reducible assumption | (with_reducible refine Cs.new _ _ _ _ ?_; first | rfl | (simp; done)) | with_reducible refine Cs.alloc ?_ _ | with_reducible refine Cs.drewN ?_ _ | with_reducible refine Cs.drew ?_ | with_reducible refine Cs.set4 ?_ _ _ _ _ | (with_reducible refine Cs.other4 ?_ ?_ _ _ _ _; rotate_left; focus (first | assumption | omega | (simp; done) | (simp; omega))) | with_reducible refine Cs.set2 ?_ _ _ | (with_reducible refine Cs.other2 ?_ ?_ _ _; rotate_left; focus (first | assumption | omega | (simp; done) | (simp; omega))) | (with_reducible refine Cs.other ?_ ?_ _; rotate_left; focus (first | assumption | omega | (simp; done) | (simp; omega))) | with_reducible refine Cs.keep ?_ (by assumption) | assumption)) hb9
          replace hbw : Below w.heap.size w w9 := (by repeat (first | with_reducible exact Below.refl _ _ | with_reducible assumption | with_reducible refine balloc ?_ _ | with_reducible refine bdrewN ?_ _ | with_reducible refine Below.drew ?_ | (with_reducible refine bset ?_ ?_ _; rotate_left; focus (first | assumption | omega | (simp; done) | (simp; omega))) | with_reducible refine bstep ?_ (by assumption) | assumption))
          replace cB19 := B19.c
          replace fB19 := B19.f
          replace lB19 := B19.lt
          clear hb9
          go_wp2_with fail
          refine (kw _).mono ?_
          rintro e w10 ⟨rfl, hb10⟩
          try clear cB15 fB15 lB15
          try clear B15
          try clear cB16 fB16 lB16
          try clear B16
          try clear cB17 fB17 lB17
          try clear B17
          try clear cB18 fB18 lB18
          try clear B18
          try clear cB19 fB19 lB19
          try clear B19
          try clear cB28 fB28 lB28
          try clear B28
          try clear cB29 fB29 lB29
          try clear B29
          try clear cB30 fB30 lB30
          try clear B30
          replace hbw : Below w.heap.size w w10 := (by repeat (first | with_reducible exact Below.refl _ _ | with_reducible assumption | with_reducible refine balloc ?_ _ | with_reducible refine bdrewN ?_ _ | with_reducible refine Below.drew ?_ | (with_reducible refine bset ?_ ?_ _; rotate_left; focus (first | assumption | omega | (simp; done) | (simp; omega))) | with_reducible refine bstep ?_ (by assumption) | assumption))
          clear hb10
          go_wp2_with fail
          go_ret
          exact ⟨rfl, (by repeat (first | with_reducible exact Below.refl _ _ | with_reducible assumption | with_reducible refine balloc ?_ _ | with_reducible refine bdrewN ?_ _ | with_reducible refine Below.drew ?_ | (with_reducible refine bset ?_ ?_ _; rotate_left; focus (first | assumption | omega | (simp; done) | (simp; omega))) | with_reducible refine bstep ?_ (by assumption) | assumption))⟩
end Go.Proofs.Ytcmllkjgggcghaa
end

/- The walk of EyePlanned. -/
section
namespace Go.Proofs.Ytcmllkjgggcghaa
open Go.RowKit Go.Shelf

theorem eyePlanned_any (x0 x1 x2 x3 x4 x5 x6 x7 M P R : Int) (w : World) (hx0 : 0 ≤ x0 ∧ x0 ≤ 255) (hx1 : 0 ≤ x1 ∧ x1 ≤ 255) (hx2 : 0 ≤ x2 ∧ x2 ≤ 255) (hx3 : 0 ≤ x3 ∧ x3 ≤ 255) (hx4 : 0 ≤ x4 ∧ x4 ≤ 4294967295) (hx5 : 0 ≤ x5 ∧ x5 ≤ 4294967295) (hx6 : 0 ≤ x6 ∧ x6 ≤ 4294967295) (hx7 : 0 ≤ x7 ∧ x7 ≤ 4294967295) (hM : 0 ≤ M ∧ M ≤ 65535) (hP : 0 ≤ P ∧ P ≤ 255) (hR : 0 ≤ R ∧ R ≤ 255) :
    Calls Try.prog 7 #[.agg #[.int .u8 x0, .int .u8 x1], .agg #[.int .u8 x2, .int .u8 x3], .agg #[.int .u32 x4, .int .u32 x5], .agg #[.int .u32 x6, .int .u32 x7], .int .u16 M, .int .u8 P, .int .u8 R] w fun e w' => e = .returned (.bool true) ∧ Below w.heap.size w w' :=
  eyePlanned_walk works_any x0 x1 x2 x3 x4 x5 x6 x7 M P R w hx0 hx1 hx2 hx3 hx4 hx5 hx6 hx7 hM hP hR

end Go.Proofs.Ytcmllkjgggcghaa
end
