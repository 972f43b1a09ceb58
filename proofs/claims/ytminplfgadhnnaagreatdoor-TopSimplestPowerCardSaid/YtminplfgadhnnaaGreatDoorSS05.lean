/- LC BM1 BM4 BA1 BA2 BA3 BM2 BM3 BA4 BA5 BB1 BR1 BR2 BL1 BR3 BR4 BR5 BR6 BA6 BR7 BA7 BA8 BR8 BA9 BA10 -/
import Derived.Test.YtminplfgadhnnaaGreatDoorSS04
import Derived.Test.YtminplfgadhnnaaGreatDoorSS01
import Derived.Test.YtminplfgadhnnaaGreatDoorSS02
import Derived.Deep.RegionHeld3
import Derived.Laws.OwnMore
import Derived.OwnWalk
import Derived.Laws.CopyOwn
import Derived.Laws.Rows
import Derived.Deep.OwnRows
import Derived.Deep.WholeRow
import Derived.WideShapes
import Derived.Laws.AppendOwn
import Derived.Deep.AppendLies
import Derived.Lib.SliceRun
/- What a proof that is returned is. -/
section
namespace Go.Proofs.YtminplfgadhnnaaGreatDoor
open Go.RowKit Go.Shelf
set_option linter.unusedSimpArgs false
set_option linter.unusedVariables false
open Um (frac S4 spanB spanE Simp turn4)

theorem parts_check {s : S4} (h : spanB s = true) : Um.checkP s (Um.parts (Um.fw Um.first (Um.best s))) = ((Um.ev (Um.best s)).2, 0) := by
  have hB := Um.best_ok s h
  have hb1 := best1 h
  have hdet := Um.det_first (Um.best s)
  obtain ⟨h1, h2, h3⟩ := (Um.spanB_iff s).1 h
  obtain ⟨a1, a2, b1, b2⟩ := Um.frac_bd h1
  obtain ⟨c1, c2, d1, d2⟩ := Um.frac_bd h2
  have e0 := hB.x0
  have e1 := hB.x1
  have p0 := hB.p0
  have p1 := hB.p1
  have q0 := hB.q0
  have q1 := hB.q1
  have n2 := hb1.n2
  have m2 := hb1.m2
  have hs := hb1.simp
  rw [← e0, ← e1] at hs
  rw [← e0] at n2
  rw [← e1] at m2 ⊢
  generalize Um.fw Um.first (Um.best s) = x at *
  obtain ⟨x1, x2, x3, x4⟩ := x
  dsimp only at *
  have hd : x1 * x4 - x3 * x2 = 1 ∨ x1 * x4 - x3 * x2 = -1 := hdet
  have r1 : (x1 - x3) * x4 = x1 * x4 - x3 * x4 := by rw [Int.sub_mul]
  have r2 : x3 * (x2 - x4) = x3 * x2 - x3 * x4 := by rw [Int.mul_sub]
  have key : ∀ l1 l2 r1 r2 : Int, 0 ≤ l1 → 0 ≤ l2 → 0 ≤ r1 → 0 ≤ r2 → l1 + r1 = x1 → l2 + r2 = x2 → l2 * r1 - l1 * r2 = 1 → Um.checkP s (l1, l2, r1, r2) = (x2, 0) := by
    intro l1 l2 r1 r2 k1 k2 k3 k4 k5 k6 k7
    obtain ⟨u1, u2, u3, u4, u5, u6, u7⟩ := Um.parts_proof hs (by omega) (by omega) (by omega) (by omega) k1 k2 k3 k4 k5 k6 k7
    unfold Um.checkP
    rw [if_neg (by rw [h]; decide), if_neg (fun k => k ⟨by show 0 ≤ l1; omega, by show l1 ≤ 1000000000; omega, by show 0 ≤ r2; omega, by show r2 ≤ 1000000000; omega, by show 1 ≤ l2; omega, by show l2 ≤ 1000000000; omega, by show 1 ≤ r1; omega, by show r1 ≤ 1000000000; omega⟩),
      if_neg (fun k => k ⟨u5, u6, u7⟩)]
    show (l2 + r2, (0 : Int)) = _
    rw [k6]
  unfold Um.parts
  by_cases hlt : (x1 - x3) * x4 < x3 * (x2 - x4)
  · rw [if_pos hlt]
    refine key (x1 - x3) (x2 - x4) x3 x4 (by omega) (by omega) (by omega) (by omega) (by omega) (by omega) ?_
    have g1 : (x2 - x4) * x3 = x3 * x2 - x3 * x4 := by rw [Int.mul_comm, Int.mul_sub]
    show (x2 - x4) * x3 - (x1 - x3) * x4 = 1
    omega
  · rw [if_neg hlt]
    refine key x3 x4 (x1 - x3) (x2 - x4) (by omega) (by omega) (by omega) (by omega) (by omega) (by omega) ?_
    have g1 : x4 * (x1 - x3) = x1 * x4 - x3 * x4 := by rw [Int.mul_comm, Int.sub_mul]
    show x4 * (x1 - x3) - x3 * (x2 - x4) = 1
    omega

/-- the simplest fraction and the proof of a valid span, by letters -/
theorem proof_let (a b c d : Int) (h : spanB (a, b, c, d) = true) : ∃ n m p q r t : Int, Best1 (a, b, c, d) n m ∧ Um.checkP (a, b, c, d) (p, q, r, t) = (m, 0) ∧
    (∀ w, FirstAt w → Calls Tryz.prog 15 #[.agg #[.int .i64 a, .int .i64 b, .int .i64 c, .int .i64 d]] w fun e w' => e = .returned (.tuple #[.agg #[.int .i64 n, .int .i64 m], .int .i64 0]) ∧ Below w.heap.size w w') ∧
    (∀ w, FirstAt w → Calls Tryz.prog 27 #[.agg #[.int .i64 a, .int .i64 b, .int .i64 c, .int .i64 d]] w fun e w' => e = .returned (.tuple #[.agg #[.int .i64 p, .int .i64 q, .int .i64 r, .int .i64 t], .int .i64 0]) ∧ Below w.heap.size w w') :=
  ⟨_, _, _, _, _, _, best1 h, parts_check h, fun w hf => simplestE_ok a b c d w h hf, fun w hf => proofE_ok a b c d w h hf⟩

end Go.Proofs.YtminplfgadhnnaaGreatDoor
end

/- Plain laws of programmes: rows, rows of dark and bright lamps, the principle of zeros and ones. -/
section
set_option linter.unusedSimpArgs false
set_option linter.unusedVariables false
namespace Bm

abbrev Pr := Nat × Nat
/-- a pair compares two lamps of a row -/
def cex (x : Pr) (l : List Int) : List Int := (l.set x.1 (max (l.getD x.1 0) (l.getD x.2 0))).set x.2 (min (l.getD x.1 0) (l.getD x.2 0))
def runL (p : List Pr) (l : List Int) : List Int := p.foldl (fun l x => cex x l) l
def OkP (n : Nat) (p : List Pr) : Prop := ∀ x ∈ p, x.1 < x.2 ∧ x.2 < n
/-- the same for rows that are functions -/
def cexF (x : Pr) (f : Nat → Int) : Nat → Int := fun i => if i = x.2 then min (f x.1) (f x.2) else if i = x.1 then max (f x.1) (f x.2) else f i
def runF (p : List Pr) (f : Nat → Int) : Nat → Int := p.foldl (fun f x => cexF x f) f
/-- the same for rows of dark and bright lamps -/
def xch (x : Pr) (r : Nat → Bool) : Nat → Bool := fun i => if i = x.2 then r x.1 && r x.2 else if i = x.1 then r x.1 || r x.2 else r i
def runB (p : List Pr) (r : Nat → Bool) : Nat → Bool := p.foldl (fun r x => xch x r) r

theorem OkP.tail {n : Nat} {x : Pr} {p : List Pr} (h : OkP n (x :: p)) : OkP n p := fun y hy => h y (List.mem_cons_of_mem _ hy)
/-- which lamps reach a power -/
def thr (t : Int) (f : Nat → Int) : Nat → Bool := fun i => decide (t ≤ f i)
def b2i (b : Bool) : Int := if b then 1 else 0
/-- the lamps of the row with a number -/
def tab (n k : Nat) : Nat → Bool := fun i => k.testBit (n - 1 - i)
def rowL (n k : Nat) : List Int := (List.range n).map fun i => b2i (tab n k i)
/-- the number of a row -/
def num (r : Nat → Bool) : Nat → Nat
  | 0 => 0
  | n + 1 => 2 * num r n + (if r n then 1 else 0)
/-- some pair of places is wrong -/
def unord (n : Nat) (bf : Nat → Nat → Bool) (r : Nat → Bool) : Bool := (List.range n).any fun k => (List.range k).any fun i => bf i k && (r k && !r i)
/-- the same of a row of powers -/
def UnF (n : Nat) (bf : Nat → Nat → Bool) (f : Nat → Int) : Prop := ∃ k i, k < n ∧ i < k ∧ bf i k = true ∧ f i < f k

/-- a row in order -/
def ordB (l : List Int) : Bool := (List.range (l.length - 1)).all fun i => decide (l.getD (i + 1) 0 ≤ l.getD i 0)
/-- a row of which the first places are picked -/
def pickB (l : List Int) (m : Nat) : Bool := (List.range m).all fun i => (List.range l.length).all fun k => decide (k < m) || decide (l.getD k 0 ≤ l.getD i 0)
def bfP (m : Nat) (i k : Nat) : Bool := decide (i < m) && decide (m ≤ k)
/-- the first number of a row that is wrong -/
def fstBad (n : Nat) (bad : Nat → Bool) : Option Nat := (List.range (2 ^ n)).find? bad
end Bm
end

/- Plain laws of bars: fractions in least terms, the power of a lamp, its span; places. -/
section
set_option linter.unusedSimpArgs false
set_option linter.unusedVariables false
namespace Bm

def red (n d : Int) : Int × Int := (n / (Int.gcd n d : Int), d / (Int.gcd n d : Int))
theorem gcd_pos {n d : Int} (hd : 1 ≤ d) : 1 ≤ (Int.gcd n d : Int) := by
  have : 0 < Int.gcd n d := Int.gcd_pos_of_ne_zero_right _ (by omega)
  omega
theorem red_spec {n d : Int} (hn : 0 ≤ n) (hd : 1 ≤ d) : ∃ g : Int, 1 ≤ g ∧ n = (red n d).1 * g ∧ d = (red n d).2 * g ∧ 0 ≤ (red n d).1 ∧ 1 ≤ (red n d).2 ∧ Int.gcd (red n d).1 (red n d).2 = 1 ∧ (red n d).1 ≤ n ∧ (red n d).2 ≤ d := by
  have hg := gcd_pos (n := n) hd
  have e1 : n = (red n d).1 * (Int.gcd n d : Int) := (Int.ediv_mul_cancel (Int.gcd_dvd_left ..)).symm
  have e2 : d = (red n d).2 * (Int.gcd n d : Int) := (Int.ediv_mul_cancel (Int.gcd_dvd_right ..)).symm
  refine ⟨_, hg, e1, e2, Int.ediv_nonneg hn (by omega), ?_, ?_, ?_, ?_⟩
  · rcases Int.lt_or_le 0 (red n d).2 with h | h
    · omega
    · have : (red n d).2 * (Int.gcd n d : Int) ≤ 0 := Int.mul_nonpos_of_nonpos_of_nonneg h (by omega)
      omega
  · exact Int.gcd_ediv_gcd_ediv_gcd (Int.gcd_pos_of_ne_zero_right _ (by omega))
  · exact Int.ediv_le_self _ hn
  · exact Int.ediv_le_self _ (by omega)
theorem dvd_of_cop {a b c : Int} (h : a ∣ c * b) (hg : Int.gcd a b = 1) : a ∣ c := by
  have h1 : (a.natAbs : Nat) ∣ c.natAbs * b.natAbs := by rw [← Int.natAbs_mul]; exact Int.natAbs_dvd_natAbs.2 h
  have h2 : Nat.Coprime a.natAbs b.natAbs := hg
  exact Int.natAbs_dvd_natAbs.1 (h2.dvd_of_dvd_mul_right h1)
theorem red_uniq {a b c d : Int} (hb : 0 < b) (hd : 0 < d) (h1 : Int.gcd a b = 1) (h2 : Int.gcd c d = 1) (h : a * d = c * b) : a = c ∧ b = d := by
  have e1 : b ∣ d := by
    have : b ∣ d * a := ⟨c, by rw [Int.mul_comm d a, h, Int.mul_comm]⟩
    exact dvd_of_cop this (by rw [Int.gcd_comm]; exact h1)
  have e2 : d ∣ b := by
    have : d ∣ b * c := ⟨a, by rw [Int.mul_comm b c, ← h, Int.mul_comm]⟩
    exact dvd_of_cop this (by rw [Int.gcd_comm]; exact h2)
  have e3 : b = d := Int.dvd_antisymm (by omega) (by omega) e1 e2
  subst e3
  exact ⟨Int.eq_of_mul_eq_mul_right (by omega) h, rfl⟩
theorem red_of {n d a b : Int} (hn : 0 ≤ n) (hd : 1 ≤ d) (hb : 1 ≤ b) (hg : Int.gcd a b = 1) (h : a * d = n * b) : red n d = (a, b) := by
  obtain ⟨g, g1, e1, e2, p1, p2, hg2, -, -⟩ := red_spec hn hd
  generalize red n d = r at *
  obtain ⟨x, y⟩ := r
  dsimp only at *
  have hx : a * y = x * b := by
    have : (a * y) * g = (x * b) * g := by
      rw [e1, e2] at h
      calc a * y * g = a * (y * g) := by rw [Int.mul_assoc]
        _ = x * g * b := h
        _ = x * b * g := by rw [Int.mul_assoc, Int.mul_assoc, Int.mul_comm g b]
    exact Int.eq_of_mul_eq_mul_right (by omega) this
  obtain ⟨h3, h4⟩ := red_uniq (by omega) (by omega) hg hg2 hx
  rw [h3, h4]
theorem red_self {a b : Int} (ha : 0 ≤ a) (hb : 1 ≤ b) (hg : Int.gcd a b = 1) : red a b = (a, b) := red_of ha hb hb hg rfl

/-- the light of the lamp alone -/
def lgt (p s t : Int) : Int := max 0 (1000000 * p - t * s * s)
/-- the power of the lamp by a truth -/
def pwr (l p s t : Int) : Int × Int := red (lgt p s t * (l - s) * (l - s)) (1000000 * s * s)
/-- the power as the reference finds it -/
def rpw (f n L : Int) : Int × Int :=
  ((red (red f n).1 (red L 1000000).2).1 * (red (red L 1000000).1 (red f n).2).1, (red (red f n).1 (red L 1000000).2).2 * (red (red L 1000000).1 (red f n).2).2)
theorem mul_mono {a b c d : Int} (h1 : a ≤ b) (h2 : c ≤ d) (hc : 0 ≤ c) (hb : 0 ≤ b) : a * c ≤ b * d :=
  Int.le_trans (Int.mul_le_mul_of_nonneg_right h1 hc) (Int.mul_le_mul_of_nonneg_left h2 hb)
/-- less light, and a screen farther from the standard: less power -/
theorem lgt_mono {p1 p2 s1 s2 t1 t2 : Int} (hp : p1 ≤ p2) (hp0 : 0 ≤ p1) (hs : s2 ≤ s1) (hs0 : 1 ≤ s2) (ht : t2 ≤ t1) (ht0 : 0 ≤ t2) : lgt p1 s1 t1 * (s2 * s2) ≤ lgt p2 s2 t2 * (s1 * s1) := by
  have q1 : 0 ≤ s1 * s1 := Int.mul_nonneg (by omega) (by omega)
  have q2 : 0 ≤ s2 * s2 := Int.mul_nonneg (by omega) (by omega)
  have q3 : s2 * s2 ≤ s1 * s1 := mul_mono hs hs (by omega) (by omega)
  have q0 : 0 ≤ lgt p2 s2 t2 * (s1 * s1) := Int.mul_nonneg (by unfold lgt; omega) q1
  by_cases h : 1000000 * p1 - t1 * s1 * s1 ≤ 0
  · have : lgt p1 s1 t1 = 0 := by unfold lgt; omega
    rw [this, Int.zero_mul]; exact q0
  · have e1 : lgt p1 s1 t1 = 1000000 * p1 - t1 * s1 * s1 := by unfold lgt; omega
    have e2 : 1000000 * p2 - t2 * s2 * s2 ≤ lgt p2 s2 t2 := by unfold lgt; omega
    have e3 := Int.mul_le_mul_of_nonneg_right e2 q1
    refine Int.le_trans ?_ e3
    rw [e1, Int.sub_mul, Int.sub_mul, Int.mul_assoc t1, Int.mul_assoc t2]
    have r1 : 1000000 * p1 * (s2 * s2) ≤ 1000000 * p2 * (s1 * s1) := mul_mono (by omega) q3 q2 (by omega)
    have r2 : t2 * (s2 * s2) * (s1 * s1) ≤ t1 * (s1 * s1) * (s2 * s2) := by
      calc t2 * (s2 * s2) * (s1 * s1) = t2 * ((s1 * s1) * (s2 * s2)) := by ac_rfl
        _ ≤ t1 * ((s1 * s1) * (s2 * s2)) := Int.mul_le_mul_of_nonneg_right ht (Int.mul_nonneg q1 q2)
        _ = t1 * (s1 * s1) * (s2 * s2) := by ac_rfl
    omega
/-- one fraction is at most another one -/
def leR (a b : Int × Int) : Prop := a.1 * b.2 ≤ b.1 * a.2
theorem red_le {n d n' d' : Int} (hn : 0 ≤ n) (hd : 1 ≤ d) (hn' : 0 ≤ n') (hd' : 1 ≤ d') (h : n * d' ≤ n' * d) : leR (red n d) (red n' d') := by
  obtain ⟨g1, a1, e1, e2, p1, p2, c1, -, -⟩ := red_spec hn hd
  obtain ⟨g2, a2, e3, e4, p3, p4, c2, -, -⟩ := red_spec hn' hd'
  unfold leR
  generalize red n d = k at *
  generalize red n' d' = m at *
  obtain ⟨k1, k2⟩ := k
  obtain ⟨m1, m2⟩ := m
  dsimp only at *
  rw [e1, e4, e3, e2] at h
  have h2 : (k1 * m2) * (g1 * g2) ≤ (m1 * k2) * (g1 * g2) := by
    calc (k1 * m2) * (g1 * g2) = k1 * g1 * (m2 * g2) := by ac_rfl
      _ ≤ m1 * g2 * (k2 * g1) := h
      _ = (m1 * k2) * (g1 * g2) := by ac_rfl
  exact Int.le_of_mul_le_mul_right h2 (Int.mul_pos (by omega) (by omega))
theorem pwr_mono {l p1 p2 s1 s2 t1 t2 : Int} (hp : p1 ≤ p2) (hp0 : 0 ≤ p1) (hs : s2 ≤ s1) (hs0 : 1 ≤ s2) (hl : s1 ≤ l) (ht : t2 ≤ t1) (ht0 : 0 ≤ t2) : leR (pwr l p1 s1 t1) (pwr l p2 s2 t2) := by
  have q1 : 1 ≤ s1 * s1 := Int.mul_pos (by omega) (by omega)
  have q2 : 1 ≤ s2 * s2 := Int.mul_pos (by omega) (by omega)
  have f1 : 0 ≤ (l - s1) * (l - s1) := Int.mul_nonneg (by omega) (by omega)
  have f2 : 0 ≤ (l - s2) * (l - s2) := Int.mul_nonneg (by omega) (by omega)
  have f3 : (l - s1) * (l - s1) ≤ (l - s2) * (l - s2) := mul_mono (by omega) (by omega) (by omega) (by omega)
  have g1 : 0 ≤ lgt p1 s1 t1 := by unfold lgt; omega
  have g2 : 0 ≤ lgt p2 s2 t2 := by unfold lgt; omega
  unfold pwr
  rw [Int.mul_assoc, Int.mul_assoc, Int.mul_assoc, Int.mul_assoc 1000000]
  refine red_le (Int.mul_nonneg g1 f1) (by omega) (Int.mul_nonneg g2 f2) (by omega) ?_
  have h := mul_mono (lgt_mono hp hp0 hs hs0 ht ht0) f3 f1 (Int.mul_nonneg g2 (by omega))
  have h2 := Int.mul_le_mul_of_nonneg_left h (show (0 : Int) ≤ 1000000 by omega)
  calc lgt p1 s1 t1 * ((l - s1) * (l - s1)) * (1000000 * (s2 * s2)) = 1000000 * (lgt p1 s1 t1 * (s2 * s2) * ((l - s1) * (l - s1))) := by ac_rfl
    _ ≤ 1000000 * (lgt p2 s2 t2 * (s1 * s1) * ((l - s2) * (l - s2))) := h2
    _ = lgt p2 s2 t2 * ((l - s2) * (l - s2)) * (1000000 * (s1 * s1)) := by ac_rfl
theorem pwr_spec {l p s t : Int} (hs : 1 ≤ s) (hl : s ≤ l) : 0 ≤ (pwr l p s t).1 ∧ 1 ≤ (pwr l p s t).2 ∧ Int.gcd (pwr l p s t).1 (pwr l p s t).2 = 1 := by
  have q1 : 1 ≤ s * s := Int.mul_pos (by omega) (by omega)
  obtain ⟨g, -, -, -, h1, h2, h3, -, -⟩ := red_spec (n := lgt p s t * (l - s) * (l - s)) (d := 1000000 * s * s) (by rw [Int.mul_assoc]; exact Int.mul_nonneg (by unfold lgt; omega) (Int.mul_nonneg (by omega) (by omega))) (by rw [Int.mul_assoc]; omega)
  exact ⟨h1, h2, h3⟩
end Bm
end

/- Walks of the small functions of package bench: divisor, within, ratio. -/
section
namespace Go.Proofs.YtminplfgadhnnaaGreatDoor
open Go.RowKit Go.Shelf
set_option linter.unusedSimpArgs false
set_option linter.unusedVariables false

set_option maxHeartbeats 400000 in
theorem divisor_any (a b : Int) (w : World) (ha : 0 ≤ a) (hb : 0 ≤ b) (hA : a ≤ 9223372036854775807) (hB : b ≤ 9223372036854775807) :
    Calls Tryz.prog 153 #[.int .i64 a, .int .i64 b] w fun e w' => e = .returned (.int .i64 (Int.gcd a b)) ∧ Below w.heap.size w w' := by
  go_enter Tryz.func153, Tryz.ntmps153
  go_wp2
  go_loopw [0, 1] (fun x y wr => ∃ p q : Int, 0 ≤ p ∧ 0 ≤ q ∧ p ≤ 9223372036854775807 ∧ q ≤ 9223372036854775807 ∧ x = .int .i64 p ∧ y = .int .i64 q ∧ Hid (Int.gcd p q = Int.gcd a b) ∧ Below w.heap.size w wr) (fun _ y _ => (intOf y).toNat)
  case atStart => exact ⟨a, b, ha, hb, hA, hB, rfl, rfl, rfl, Below.refl _ _⟩
  case round =>
    obtain ⟨p, q, hp, hq, hP, hQ, rfl, rfl, hg, hbl⟩ := hrel
    by_cases h0 : q = 0
    · subst h0
      go_wp2
      go_ret
      refine ⟨?_, hbl⟩
      have := hg.out
      rw [← this]
      simp
      omega
    · have hm0 := Int.emod_nonneg p (b := q) h0
      have hm1 := Int.emod_lt_of_pos p (b := q) (by omega)
      have h1 : 1 ≤ q := by omega
      have hgc : Hid (Int.gcd q (p % q) = Int.gcd a b) := by
        rw [← hg.out]; show Int.gcd q (p % q) = Int.gcd p q
        exact Um.gcd_step p q hp (by omega)
      clear h0
      go_wp2
      go_quiet (fail)
      go_wp2
      go_roundw
      case rel => exact ⟨q, p % q, by omega, by omega, by omega, by omega, rfl, rfl, hgc, by first | exact hbl.drew | exact bdrewN hbl _⟩
      case measure => simp [intOf]; omega

/-- what a predicate on numbers that is handed on gives, whatever has been made since -/
def PredInts_b (P : Program) (g : Nat) (lb : Array Value) (p : Int → Bool) (zs : List Int) (w : World) : Prop :=
  ∀ x, x ∈ zs → ∀ W, Below w.heap.size w W → Calls P g (#[.int .i64 x] ++ lb) W fun e W' => e = .returned (.bool (p x)) ∧ Below w.heap.size w W'

set_option maxHeartbeats 400000 in
theorem indexInts_any_b (A : Option Addr) (n c g : Nat) (zs : List Int) (lb : Array Value) (p : Int → Bool) (w : World) (eg : ∀ args w, (callFunc g args).run Tryz.prog w = .ok (.enter g args) w)
    (hz : Ints w A n zs) (hn : n ≤ 9223372036854775807) (hp : PredInts_b Tryz.prog g lb p zs w) :
    Calls Tryz.prog 151 #[.slice A n c, .func (.func g) #[] lb] w fun e w' => e = .returned (.int .i64 (Um.idx p zs)) ∧ Below w.heap.size w w' := by
  obtain ⟨hl, hcell⟩ := hz
  have Hcell := Lib.hid hcell
  have Hp := Lib.hid hp
  have Hl := Lib.hid hl
  clear hcell hp hl
  go_enter Tryz.func151, Tryz.ntmps151
  go_wp2
  go_loopw [5, 8] (fun _ i wr => ∃ k : Nat, k ≤ n ∧ i = .int .i64 k ∧ Hid (∀ i y, i < k → zs[i]? = some y → p y = false) ∧ Below w.heap.size w wr) (fun _ i _ => n - (intOf i).toNat)
  case atStart => exact ⟨0, Nat.zero_le _, rfl, fun i y hi => by omega, Below.refl _ _⟩
  case round =>
    obtain ⟨k, hk, rfl, hpre, hbl⟩ := hrel
    by_cases hlt : k < n
    · obtain ⟨b, off, rfl, hb, hc⟩ := Hcell.out (by omega)
      have hx : wr.cell? ⟨b, off + k, none⟩ = some (.int .i64 (zs.getD k 0)) := (hbl.cell (p := ⟨b, off + k, none⟩) hb).trans (hc k hlt)
      have hget : zs[k]? = some (zs.getD k 0) := by
        rw [List.getD_eq_getElem?_getD, List.getElem?_eq_getElem (by have := Hl.out; omega)]; rfl
      have Hget := Lib.hid hget
      have hcall := Hp.out (zs.getD k 0) (List.mem_of_getElem? hget) wr hbl
      clear hc hget
      generalize zs.getD k 0 = x at *
      cases hq : p x with
      | true =>
        rw [hq] at hcall
        have Hq := Lib.hid hq
        clear hq
        go_wp2_with (go_at_fn g; refine hcall.mono ?_; rintro e w' ⟨rfl, hb'⟩)
        go_ret
        exact ⟨ret_int (Um.idx_at p k zs x hpre.out Hget.out Hq.out).symm, hb'⟩
      | false =>
        rw [hq] at hcall
        have Hq := Lib.hid hq
        clear hq
        go_wp2_with (go_at_fn g; refine hcall.mono ?_; rintro e w' ⟨rfl, hb'⟩)
        go_roundw
        case rel =>
          refine ⟨k + 1, by omega, by go_num, fun i y hi hy => ?_, hb'⟩
          by_cases hik : i < k
          · exact hpre.out i y hik hy
          · have : i = k := by omega
            subst this
            have := Hget.out
            rw [hy] at this
            injection this with this
            rw [this]; exact Hq.out
        case measure => simp [intOf]; omega
    · go_wp2
      go_ret
      refine ⟨ret_int (Um.idx_none p zs (fun y hy => ?_)).symm, hbl⟩
      obtain ⟨i, hi, hiy⟩ := List.mem_iff_getElem.1 hy
      exact hpre.out i y (by have := Hl.out; omega) (by rw [List.getElem?_eq_getElem hi, hiy])

set_option maxHeartbeats 400000 in
theorem containsInts_any_b (A : Option Addr) (n c g : Nat) (zs : List Int) (lb : Array Value) (p : Int → Bool) (w : World) (eg : ∀ args w, (callFunc g args).run Tryz.prog w = .ok (.enter g args) w)
    (hz : Ints w A n zs) (hn : n ≤ 9223372036854775807) (hp : PredInts_b Tryz.prog g lb p zs w) :
    Calls Tryz.prog 105 #[.slice A n c, .func (.func g) #[] lb] w fun e w' => e = .returned (.bool (zs.any p)) ∧ Below w.heap.size w w' := by
  have h1 := indexInts_any_b A n c g zs lb p w eg hz hn hp
  have h2 := Um.idx_any p zs
  have H2 := Lib.hid h2
  clear h2 hz hp eg
  generalize zs.any p = r at *
  generalize Um.idx p zs = ix at *
  go_enter Tryz.func105, Tryz.ntmps105
  go_wp2_with (go_at_call 151; refine h1.mono ?_; rintro e w' ⟨rfl, hb'⟩)
  go_ret
  exact ⟨ret_bool H2.out, hb'⟩

/-- a number is not from lo to hi -/
def out_b (lo hi n : Int) : Bool := decide (n < lo) || decide (hi < n)

set_option maxHeartbeats 400000 in
theorem withinC_any_b (lo hi n : Int) (b1 b2 : Nat) (w : World) (h1 : w.cell? ⟨b1, 0, none⟩ = some (.int .i64 lo)) (h2 : w.cell? ⟨b2, 0, none⟩ = some (.int .i64 hi)) :
    Calls Tryz.prog 107 #[.int .i64 n, .pointer (some ⟨b1, 0, none⟩), .pointer (some ⟨b2, 0, none⟩)] w fun e w' => e = .returned (.bool (out_b lo hi n)) ∧ Below w.heap.size w w' := by
  unfold out_b
  by_cases hn : n < lo
  · go_enter Tryz.func107, Tryz.ntmps107
    go_wp2
    go_ret
    exact ⟨ret_bool (by simp [hn]), Below.refl _ _⟩
  · have hn' : decide (n < lo) = false := by simp; omega
    have Hn := Lib.hid hn'
    clear hn'
    go_enter Tryz.func107, Tryz.ntmps107
    go_wp2
    go_ret
    exact ⟨ret_bool (by rw [Hn.out]; simp), Below.refl _ _⟩

set_option maxHeartbeats 400000 in
theorem within_any_b (lo hi : Int) (A : Option Addr) (n c : Nat) (zs : List Int) (w : World) (hz : Ints w A n zs) (hn : n ≤ 9223372036854775807) :
    Calls Tryz.prog 50 #[.int .i64 lo, .int .i64 hi, .slice A n c] w fun e w' => e = .returned (.bool (zs.all fun x => !out_b lo hi x)) ∧ Below w.heap.size w w' := by
  have hw2 : Below w.heap.size w ((w.alloc (.cells #[.int .i64 lo] 2)).alloc (.cells #[.int .i64 hi] 2)) := ((Below.refl _ _).alloc (Nat.le_refl _) _).alloc (by simp) _
  have hsz : ((w.alloc (.cells #[.int .i64 lo] 2)).alloc (.cells #[.int .i64 hi] 2)).heap.size = w.heap.size + 2 := by simp
  have h1 := containsInts_any_b A n c 107 zs #[.pointer (some ⟨w.heap.size, 0, none⟩), .pointer (some ⟨w.heap.size + 1, 0, none⟩)] (out_b lo hi) _
    (enters_of Tryz.func107 (by kernel_rfl) rfl) (hz.below hw2) hn (fun x _ W hW => (withinC_any_b lo hi x w.heap.size (w.heap.size + 1) W
      ((hW.cell (p := ⟨w.heap.size, 0, none⟩) (by rw [hsz]; simp)).trans (by simp)) ((hW.cell (p := ⟨w.heap.size + 1, 0, none⟩) (by rw [hsz]; simp)).trans (by simp))).mono fun e W' ⟨he, hb⟩ => ⟨he, hW.trans (hb.mono hW.size)⟩)
  have hany : Hid ((!zs.any (out_b lo hi)) = zs.all fun x => !out_b lo hi x) := by show _ = _; rw [List.not_any_eq_all_not]
  clear hz hsz
  generalize (zs.all fun x => !out_b lo hi x) = r at *
  generalize zs.any (out_b lo hi) = r' at *
  go_enter Tryz.func50, Tryz.ntmps50
  go_wp2_with (go_at_call 105; refine h1.mono ?_; rintro e w' ⟨rfl, hb'⟩)
  go_ret
  exact ⟨ret_bool (by first | rfl | exact hany.out), hw2.trans (hb'.mono (by simp; omega))⟩
set_option maxHeartbeats 1000000 in
theorem ratio_any (n d : Int) (w : World) (hn : 0 ≤ n) (hd : 1 ≤ d) (hN : n ≤ 9223372036854775807) (hD : d ≤ 9223372036854775807) :
    Calls Tryz.prog 112 #[.int .i64 n, .int .i64 d] w fun e w' => e = .returned (.agg #[.int .i64 (Bm.red n d).1, .int .i64 (Bm.red n d).2]) ∧ Below w.heap.size w w' := by
  have hg : 1 ≤ (Int.gcd n d : Int) := by
    have : 0 < Int.gcd n d := Int.gcd_pos_of_ne_zero_right _ (by omega)
    omega
  have k1 := fun W => divisor_any n d W (by omega) (by omega) hN hD
  unfold Bm.red
  dsimp only
  generalize (Int.gcd n d : Int) = g at *
  have l1 : 0 ≤ n / g := Int.ediv_nonneg (by omega) (by omega)
  have l2 : 0 ≤ d / g := Int.ediv_nonneg (by omega) (by omega)
  have l3 : n / g ≤ n := Int.ediv_le_self _ (by omega)
  have l4 : d / g ≤ d := Int.ediv_le_self _ (by omega)
  have f1 : n.tdiv g = n / g := Int.tdiv_eq_ediv_of_nonneg (by omega)
  have f2 : d.tdiv g = d / g := Int.tdiv_eq_ediv_of_nonneg (by omega)
  have e1 : IntKind.i64.wrap (n / g) = n / g := IntWalk.i64_in _ (by omega)
  have e2 : IntKind.i64.wrap (d / g) = d / g := IntWalk.i64_in _ (by omega)
  have g0 : (g == 0) = false := by simp; omega
  go_enter Tryz.func112, Tryz.ntmps112
  go_wp2_with fail
  refine (k1 _).mono ?_
  rintro e w1 ⟨rfl, hb1⟩
  replace B1 : Cs w1 (w.heap.size) #[.int .i64 0, .int .i64 0] := Cs.keep csA hb1
  replace hbw : Below w.heap.size w w1 := blA
  replace cB1 := B1.c
  replace fB1 := B1.f
  replace lB1 := B1.lt
  clear hb1
  go_wp2_with fail
  go_region
  go_wp2_with fail
  exact bodyPost_ret (v := .agg #[.int .i64 (n / g), .int .i64 (d / g)]) (by simp [results, Tryz.results112, go_sem, cB1, fB1, lB1]) rfl ⟨rfl, blA⟩


end Go.Proofs.YtminplfgadhnnaaGreatDoor
end

/- Walks of package bench: pairs in slices; CheckProgramme. -/
section
namespace Go.Proofs.YtminplfgadhnnaaGreatDoor
open Go.RowKit Go.Shelf
set_option linter.unusedSimpArgs false
set_option linter.unusedVariables false

/-- a slice value that reads as a list of pairs of numbers -/
def Prs (w : World) (A : Option Addr) (n : Nat) (zs : List (Int × Int)) : Prop :=
  zs.length = n ∧ (0 < n → ∃ b off, A = some ⟨b, off, none⟩ ∧ b < w.heap.size ∧ ∀ i x y, zs[i]? = some (x, y) →
    w.cell? ⟨b, off + i * 2, none⟩ = some (.int .i64 x) ∧ w.cell? ⟨b, off + i * 2 + 1, none⟩ = some (.int .i64 y))

theorem Prs.below {w w' : World} {A : Option Addr} {n : Nat} {zs : List (Int × Int)} (h : Prs w A n zs) (hb : Below w.heap.size w w') : Prs w' A n zs := by
  refine ⟨h.1, fun hn => ?_⟩
  obtain ⟨b, off, rfl, hlt, hc⟩ := h.2 hn
  exact ⟨b, off, rfl, Nat.lt_of_lt_of_le hlt hb.size, fun i x y hp => ⟨(hb.cell (p := ⟨b, _, none⟩) hlt).trans (hc i x y hp).1, (hb.cell (p := ⟨b, _, none⟩) hlt).trans (hc i x y hp).2⟩⟩

theorem Prs.nil (w : World) (A : Option Addr) : Prs w A 0 [] := ⟨rfl, fun h => absurd h (by omega)⟩
theorem Prs.alloc {w : World} {A : Option Addr} {n : Nat} {zs : List (Int × Int)} (h : Prs w A n zs) (o : Obj) : Prs (w.alloc o) A n zs := h.below (balloc (Below.refl _ _) o)
theorem Prs.drewN {w : World} {A : Option Addr} {n : Nat} {zs : List (Int × Int)} (h : Prs w A n zs) (k : Nat) : Prs (w.drewN k) A n zs := h
theorem Prs.drew {w : World} {A : Option Addr} {n : Nat} {zs : List (Int × Int)} (h : Prs w A n zs) : Prs w.drew A n zs := h

end Go.Proofs.YtminplfgadhnnaaGreatDoor
end

/- Walks: the reference's CheckProgramme; which programmes the law package looks at. -/
section
namespace Go.Proofs.YtminplfgadhnnaaGreatDoor
open Go.RowKit Go.Shelf
set_option linter.unusedSimpArgs false
set_option linter.unusedVariables false

end Go.Proofs.YtminplfgadhnnaaGreatDoor
end

/- Plain laws of programmes: rows put in order, pairs that never exchange lamps, rounds. -/
section
set_option linter.unusedSimpArgs false
set_option linter.unusedVariables false
namespace Bm

/-- where the greatest of the first numbers is -/
def mxAt (l : List Int) : Nat → Nat
  | 0 => 0
  | i + 1 => if l.getD (mxAt l i) 0 < l.getD (i + 1) 0 then i + 1 else mxAt l i
theorem mxAt_le (l : List Int) : ∀ i, mxAt l i ≤ i
  | 0 => Nat.le_refl _
  | i + 1 => by have := mxAt_le l i; rw [mxAt]; split <;> omega
theorem mxAt_max (l : List Int) : ∀ i j, j ≤ i → l.getD j 0 ≤ l.getD (mxAt l i) 0
  | 0, j, h => by obtain rfl : j = 0 := by omega
                  exact Int.le_refl _
  | i + 1, j, h => by
    rw [mxAt]
    by_cases hj : j = i + 1
    · subst hj; split <;> omega
    · have := mxAt_max l i j (by omega)
      split <;> omega
/-- the greatest that is left, again and again -/
def srt : Nat → List Int → List Int
  | 0, _ => []
  | k + 1, l => if l = [] then [] else l.getD (mxAt l (l.length - 1)) 0 :: srt k (l.eraseIdx (mxAt l (l.length - 1)))
def srtL (l : List Int) : List Int := srt l.length l
theorem erase_perm {l : List Int} {i : Nat} (hi : i < l.length) : (l[i] :: l.eraseIdx i).Perm l := by
  rw [List.eraseIdx_eq_take_drop_succ]
  have h1 : (l.take i ++ l[i] :: l.drop (i + 1)) = l := by
    rw [← List.drop_eq_getElem_cons hi, List.take_append_drop]
  conv => rhs; rw [← h1]
  exact List.perm_middle.symm
theorem srt_perm : ∀ (k : Nat) (l : List Int), l.length ≤ k → (srt k l).Perm l
  | 0, l, h => by obtain rfl : l = [] := List.length_eq_zero_iff.1 (by omega)
                  exact List.Perm.nil
  | k + 1, l, h => by
    rw [srt]
    by_cases h0 : l = []
    · rw [if_pos h0, h0]
    · rw [if_neg h0]
      have hl : 0 < l.length := List.length_pos_iff.2 h0
      have hm : mxAt l (l.length - 1) < l.length := by have := mxAt_le l (l.length - 1); omega
      have ih := srt_perm k (l.eraseIdx (mxAt l (l.length - 1))) (by rw [List.length_eraseIdx_of_lt hm]; omega)
      rw [List.getD_eq_getElem?_getD, List.getElem?_eq_getElem hm, Option.getD_some]
      exact (List.Perm.cons _ ih).trans (erase_perm hm)
def Dec (l : List Int) : Prop := l.Pairwise (fun a b => b ≤ a)
theorem srt_dec : ∀ (k : Nat) (l : List Int), l.length ≤ k → Dec (srt k l)
  | 0, l, h => List.Pairwise.nil
  | k + 1, l, h => by
    rw [srt]
    by_cases h0 : l = []
    · rw [if_pos h0]; exact List.Pairwise.nil
    · rw [if_neg h0]
      have hl : 0 < l.length := List.length_pos_iff.2 h0
      have hm : mxAt l (l.length - 1) < l.length := by have := mxAt_le l (l.length - 1); omega
      have hk : (l.eraseIdx (mxAt l (l.length - 1))).length ≤ k := by rw [List.length_eraseIdx_of_lt hm]; omega
      refine List.Pairwise.cons (fun y hy => ?_) (srt_dec k _ hk)
      have hy2 : y ∈ l := List.mem_of_mem_eraseIdx ((srt_perm k _ hk).mem_iff.1 hy)
      obtain ⟨j, hj, rfl⟩ := List.mem_iff_getElem.1 hy2
      have := mxAt_max l (l.length - 1) j (by omega)
      rw [List.getD_eq_getElem?_getD, List.getElem?_eq_getElem hj, Option.getD_some] at this
      exact this
theorem srtL_perm (l : List Int) : (srtL l).Perm l := srt_perm _ _ (Nat.le_refl _)
theorem srtL_dec (l : List Int) : Dec (srtL l) := srt_dec _ _ (Nat.le_refl _)
theorem dec_uniq {l m : List Int} (hl : Dec l) (hm : Dec m) (h : l.Perm m) : l = m :=
  List.Perm.eq_of_pairwise (le := fun a b => b ≤ a) (fun a b _ _ h1 h2 => Int.le_antisymm h2 h1) hl hm h
theorem srtL_eq {l m : List Int} (hl : Dec l) (h : l.Perm m) : l = srtL m := dec_uniq hl (srtL_dec m) (h.trans (srtL_perm m).symm)
/-- a pair exchanges lamps of some row, behind others -/
def exch (pre : List Pr) (x : Pr) (n k : Nat) : Bool := runB pre (tab n k) x.2 && !runB pre (tab n k) x.1
def usd (n : Nat) (pre : List Pr) (x : Pr) : Bool := (List.range (2 ^ n)).any (exch pre x n)
/-- each pair's number, and whether it exchanges any lamps -/
def stp (n : Nat) : List Pr → Nat → List Pr → List (Nat × Bool)
  | _, _, [] => []
  | pre, i, x :: p => (i, usd n pre x) :: stp n (pre ++ [x]) (i + 1) p
/-- the useless ones' numbers -/
def uslL (n : Nat) (pre : List Pr) (i : Nat) (p : List Pr) : List Nat := ((stp n pre i p).filter fun y => !y.2).map Prod.fst
/-- the programme without them -/
def trmL (n : Nat) : List Pr → List Pr → List Pr
  | _, [] => []
  | pre, x :: p => if usd n pre x then x :: trmL n (pre ++ [x]) p else trmL n (pre ++ [x]) p

/-- the last round of each place, and the greatest one -/
def dStep (s : (Nat → Nat) × Nat) (x : Pr) : (Nat → Nat) × Nat :=
  ((fun i => if i = x.1 ∨ i = x.2 then max (s.1 x.1) (s.1 x.2) + 1 else s.1 i), max s.2 (max (s.1 x.1) (s.1 x.2) + 1))
def depS (p : List Pr) : (Nat → Nat) × Nat := p.foldl dStep (fun _ => 0, 0)
def depL (p : List Pr) : Nat := (depS p).2
/-- the round of each pair -/
def rndL (p : List Pr) : List Nat := (List.range p.length).map fun k => max ((depS (p.take k)).1 (p.getD k (0, 0)).1) ((depS (p.take k)).1 (p.getD k (0, 0)).2) + 1
/-- two pairs have a place in common -/
def shr (y x : Pr) : Bool := decide (y.1 = x.1) || decide (y.1 = x.2) || decide (y.2 = x.1) || decide (y.2 = x.2)
/-- a round, as the reference finds it -/
def rin (p : List Pr) (x : Pr) : Nat → Nat
  | 0 => 1
  | k + 1 => if shr (p.getD k (0, 0)) x then max (rin p x k) ((rndL p).getD k 0 + 1) else rin p x k
end Bm
end

/- Plain laws of the programme that is built: it puts all rows in order. -/
section
set_option linter.unusedSimpArgs false
set_option linter.unusedVariables false
namespace Bm

/-- the pairs of places that are so far apart -/
def innB (n part rest apart : Nat) : List Pr := ((List.range (n - apart)).filter fun i => Nat.beq (i &&& part) rest).map fun i => (i, i + apart)
def midB : Nat → Nat → Nat → Nat → Nat → Nat → List Pr
  | 0, _, _, _, _, _ => []
  | k + 1, n, part, far, rest, apart => innB n part rest apart ++ (if far = part then [] else midB k n part (far / 2) part (far - part))
def outB : Nat → Nat → Nat → Nat → List Pr
  | 0, _, _, _ => []
  | k + 1, n, top, part => if part = 0 then [] else midB 9 n part top 0 part ++ outB k n top (part / 2)
def topB (n : Nat) : Nat := if n ≤ 2 then 1 else if n ≤ 4 then 2 else if n ≤ 8 then 4 else 8
def buildL (n : Nat) : List Pr := outB 9 n (topB n) (topB n)

end Bm
end

/- Walks of package bench: Run; the reference's run. -/
section
namespace Go.Proofs.YtminplfgadhnnaaGreatDoor
open Go.RowKit Go.Shelf
set_option linter.unusedSimpArgs false
set_option linter.unusedVariables false
open Bm (Pr cex runL OkP)

/-- a row of numbers, in a block of its own -/
def Rw (w : World) (g : Nat) (zs : List Int) : Prop := ∃ t, w.heap[g]? = some (.cells (zs.map (Value.int .i64)).toArray t (0, 0))
section
variable {w w' : World} {g k : Nat} {zs : List Int}
theorem Rw.lt (h : Rw w g zs) : g < w.heap.size := by obtain ⟨t, h⟩ := h; exact (Array.getElem?_eq_some_iff.1 h).1
theorem Rw.cell (h : Rw w g zs) (hk : k < zs.length) : w.cell? ⟨g, k, none⟩ = some (.int .i64 (zs.getD k 0)) := by
  obtain ⟨t, h⟩ := h
  rw [cell_of_row w g k _ t _ h]
  simp [hk]
theorem Rw.frozen (h : Rw w g zs) (k : Nat) : w.frozen? ⟨g, k, none⟩ = false := by
  obtain ⟨t, h⟩ := h
  exact frozen_of_row w g k _ t h
theorem Rw.set (h : Rw w g zs) (k : Nat) (v : Int) : Rw (w.setCell ⟨g, k, none⟩ (.int .i64 v)) g (zs.set k v) := by
  obtain ⟨t, h⟩ := h
  refine ⟨t, ?_⟩
  rw [heap_setCell_same w g k _ t _ h, List.setIfInBounds_toArray, List.map_set]
theorem Rw.other (h : Rw w g zs) {p : Addr} (hp : g ≠ p.block) (v : Value) : Rw (w.setCell p v) g zs := by
  obtain ⟨t, h⟩ := h
  exact ⟨t, (heap_setCell_other w p g v hp).trans h⟩
theorem Rw.below (h : Rw w g zs) (hb : Below w.heap.size w w') : Rw w' g zs := by
  have hl := h.lt
  obtain ⟨t, h⟩ := h
  exact ⟨t, (hb.block g hl).trans h⟩
theorem Rw.alloc (h : Rw w g zs) (o : Obj) : Rw (w.alloc o) g zs := h.below (balloc (Below.refl _ _) o)
theorem Rw.drewN (h : Rw w g zs) (n : Nat) : Rw (w.drewN n) g zs := h
theorem Rw.drew (h : Rw w g zs) : Rw w.drew g zs := h
end

theorem Rw.new (w : World) (ys : List Int) (t : TypeId) (H : Nat) (hH : w.heap.size = H) : Rw (w.alloc (.cells (ys.map (Value.int .i64)).toArray t)) H ys := by
  subst hH
  exact ⟨t, heap_alloc_new w _⟩

end Go.Proofs.YtminplfgadhnnaaGreatDoor
end

/- Walks: Run, with its errors; the reference's run and Run. -/
section
namespace Go.Proofs.YtminplfgadhnnaaGreatDoor
open Go.RowKit Go.Shelf
set_option linter.unusedSimpArgs false
set_option linter.unusedVariables false
open Bm (Pr cex runL OkP)

end Go.Proofs.YtminplfgadhnnaaGreatDoor
end

/- Rows of the call's own: numbers, and pairs of numbers, of whatever element type. -/
section
namespace Go.Proofs.YtminplfgadhnnaaGreatDoor
open Go.RowKit Go.Shelf
set_option linter.unusedSimpArgs false
set_option linter.unusedVariables false

/-- a row of numbers in a block of its own, whatever the block has besides -/
def Rx (w : World) (g : Nat) (zs : List Int) : Prop := g < w.heap.size ∧ (∀ k, k < zs.length → w.cell? ⟨g, k, none⟩ = some (.int .i64 (zs.getD k 0))) ∧ ∀ k, w.frozen? ⟨g, k, none⟩ = false
section
variable {w w' : World} {g k : Nat} {zs : List Int}
theorem Rx.of_own {B n c : Nat} {e : TypeId} (hl : zs.length = n) (h : w.ownsRow B e 1 (.slice (some ⟨g, 0, none⟩) n c) n (zs.map (Value.int .i64))) : Rx w g zs :=
  ⟨(h.lt g rfl).2, fun k hk => by rw [h.cellAt k (by omega), List.getElem?_map, List.getD_eq_getElem?_getD, List.getElem?_eq_getElem hk]; rfl, fun k => World.ownsRow.frozenAt h k⟩
theorem Rx.lt (h : Rx w g zs) : g < w.heap.size := h.1
theorem Rx.cell (h : Rx w g zs) (hk : k < zs.length) : w.cell? ⟨g, k, none⟩ = some (.int .i64 (zs.getD k 0)) := h.2.1 k hk
theorem Rx.frozen (h : Rx w g zs) (k : Nat) : w.frozen? ⟨g, k, none⟩ = false := h.2.2 k
theorem Rx.set (h : Rx w g zs) (k : Nat) (v : Int) : Rx (w.setCell ⟨g, k, none⟩ (.int .i64 v)) g (zs.set k v) := by
  refine ⟨by simpa [World.setCell] using h.1, fun j hj => ?_, fun j => by rw [World.frozen?_setCell]; exact h.2.2 j⟩
  rw [List.length_set] at hj
  by_cases hjk : j = k
  · subst hjk
    rw [World.cell?_setCell_same' _ _ _ (by rw [h.2.1 j hj]; rfl)]
    simp [hj]
  · rw [World.cell?_setCell_other _ _ _ _ (by intro e; injection e with _ e; exact hjk e.symm), h.2.1 j hj]
    simp [List.getElem?_set, show ¬ k = j from fun e => hjk e.symm]
theorem Rx.other (h : Rx w g zs) {p : Addr} (hp : g ≠ p.block) (v : Value) : Rx (w.setCell p v) g zs :=
  ⟨by simpa [World.setCell] using h.1, fun j hj => by rw [World.cell?_setCell_other _ _ _ _ (by intro e; apply hp; rw [e])]; exact h.2.1 j hj, fun j => by rw [World.frozen?_setCell]; exact h.2.2 j⟩
theorem Rx.below (h : Rx w g zs) (hb : Below w.heap.size w w') : Rx w' g zs :=
  ⟨Nat.lt_of_lt_of_le h.1 hb.size, fun k hk => (hb.cell (p := ⟨g, k, none⟩) h.1).trans (h.2.1 k hk), fun k => (hb.frozen (p := ⟨g, k, none⟩) h.1).trans (h.2.2 k)⟩
theorem Rx.alloc (h : Rx w g zs) (o : Obj) : Rx (w.alloc o) g zs := h.below (balloc (Below.refl _ _) o)
theorem Rx.drewN (h : Rx w g zs) (n : Nat) : Rx (w.drewN n) g zs := h
theorem Rx.drew (h : Rx w g zs) : Rx w.drew g zs := h
end

end Go.Proofs.YtminplfgadhnnaaGreatDoor
end

/- Walks of the reference of layer 2: run, Run. -/
section
namespace Go.Proofs.YtminplfgadhnnaaGreatDoor
open Go.RowKit Go.Shelf
set_option linter.unusedSimpArgs false
set_option linter.unusedVariables false
open Bm (Pr cex runL OkP)

end Go.Proofs.YtminplfgadhnnaaGreatDoor
end

/- Walks of the reference of layer 2: Row. -/
section
namespace Go.Proofs.YtminplfgadhnnaaGreatDoor
open Go.RowKit Go.Shelf
set_option linter.unusedSimpArgs false
set_option linter.unusedVariables false
open Bm (Pr cex runL OkP rowL tab b2i)

end Go.Proofs.YtminplfgadhnnaaGreatDoor
end

/- Walks of the law package of layer 2: which lists are equal. -/
section
namespace Go.Proofs.YtminplfgadhnnaaGreatDoor
open Go.RowKit Go.Shelf
set_option linter.unusedSimpArgs false
set_option linter.unusedVariables false

end Go.Proofs.YtminplfgadhnnaaGreatDoor
end

/- Walks of the reference of layer 2: Ordered, Picked. -/
section
namespace Go.Proofs.YtminplfgadhnnaaGreatDoor
open Go.RowKit Go.Shelf
set_option linter.unusedSimpArgs false
set_option linter.unusedVariables false
open Bm (Pr ordB pickB)

end Go.Proofs.YtminplfgadhnnaaGreatDoor
end

/- Walks of the reference of layer 2: Test. -/
section
namespace Go.Proofs.YtminplfgadhnnaaGreatDoor
open Go.RowKit Go.Shelf
set_option linter.unusedSimpArgs false
set_option linter.unusedVariables false
open Bm (Pr cex runL OkP rowL tab b2i ordB pickB unord bfP fstBad runB)

end Go.Proofs.YtminplfgadhnnaaGreatDoor
end

/- Walks of the reference of layer 2: Test, with its errors; Merge. -/
section
namespace Go.Proofs.YtminplfgadhnnaaGreatDoor
open Go.RowKit Go.Shelf
set_option linter.unusedSimpArgs false
set_option linter.unusedVariables false
open Bm (Pr cex runL OkP rowL tab b2i ordB pickB unord bfP fstBad runB)

end Go.Proofs.YtminplfgadhnnaaGreatDoor
end

/- Walks of the reference of layer 2: Exchanges, Useless, Trim. -/
section
namespace Go.Proofs.YtminplfgadhnnaaGreatDoor
open Go.RowKit Go.Shelf
set_option linter.unusedSimpArgs false
set_option linter.unusedVariables false
open Bm (Pr cex runL OkP rowL tab b2i runB usd exch uslL trmL stp)

/-- a list of pairs and an error are returned -/
def RetPE_b (l : List (Int × Int)) (er : Int) (w : World) (e : Ending) (w' : World) : Prop :=
  ∃ A n c, e = .returned (.tuple #[.slice A n c, .int .i64 er]) ∧ Prs w' A n l ∧ (n ≤ 1000 ∧ n ≤ c) ∧ Below w.heap.size w w'
end Go.Proofs.YtminplfgadhnnaaGreatDoor
end

/- Walks of package bench: Depth. -/
section
namespace Go.Proofs.YtminplfgadhnnaaGreatDoor
open Go.RowKit Go.Shelf
set_option linter.unusedSimpArgs false
set_option linter.unusedVariables false
open Bm (Pr OkP depS depL dStep)

end Go.Proofs.YtminplfgadhnnaaGreatDoor
end

/- Walks of the reference of layer 2: Depth. -/
section
namespace Go.Proofs.YtminplfgadhnnaaGreatDoor
open Go.RowKit Go.Shelf
set_option linter.unusedSimpArgs false
set_option linter.unusedVariables false
open Bm (Pr OkP depS depL rndL rin shr)

end Go.Proofs.YtminplfgadhnnaaGreatDoor
end

/- Walks of package bench: ranges; Places. -/
section
namespace Go.Proofs.YtminplfgadhnnaaGreatDoor
open Go.RowKit Go.Shelf
set_option linter.unusedSimpArgs false
set_option linter.unusedVariables false

/-- a range is valid, with ends from lo to hi -/
def rgB (lo hi : Int) (x : Int × Int) : Bool := decide (x.1 ≤ x.2) && (decide (lo ≤ x.1) && decide (x.2 ≤ hi))

set_option maxHeartbeats 1000000 in
theorem isRange_any (x y lo hi : Int) (w : World) :
    Calls Tryz.prog 111 #[.agg #[.int .i64 x, .int .i64 y], .int .i64 lo, .int .i64 hi] w fun e w' => e = .returned (.bool (rgB lo hi (x, y))) ∧ Below w.heap.size w w' := by
  by_cases h : x ≤ y
  · have k1 := fun A c W hz => within_any_b lo hi A 2 c [x, y] W hz (by omega)
    have e1 : Hid (([x, y].all fun z => !out_b lo hi z) = rgB lo hi (x, y)) := Lib.hid (by
      simp only [List.all_cons, List.all_nil, out_b, rgB, Bool.and_true]
      rw [Bool.eq_iff_iff]; simp; omega)
    generalize ([x, y].all fun z => !out_b lo hi z) = r at *
    go_enter Tryz.func111, Tryz.ntmps111
    go_wp2_with fail
    refine (k1 _ _ _ (Ints.new2 _ _ _ _ _ (by simp))).mono ?_
    rintro _ w1 ⟨rfl, hb1⟩
    replace hbw : Below w.heap.size w w1 := blA
    clear hb1
    clear k1
    go_wp2_with fail
    go_ret
    exact ⟨ret_bool e1.out, blA⟩
  · have e1 : Hid (false = rgB lo hi (x, y)) := Lib.hid (by simp [rgB, h])
    go_enter Tryz.func111, Tryz.ntmps111
    go_wp2_with fail
    go_ret
    exact ⟨ret_bool e1.out, blA⟩

set_option maxHeartbeats 1000000 in
theorem rvalid_any (x y lo hi : Int) (w : World) :
    Calls Tryz.prog 52 #[.agg #[.int .i64 x, .int .i64 y], .int .i64 lo, .int .i64 hi] w fun e w' => e = .returned (.bool (rgB lo hi (x, y))) ∧ Below w.heap.size w w' := by
  by_cases h1 : lo ≤ x
  · by_cases h2 : x ≤ y
    · have e1 : Hid (decide (y ≤ hi) = rgB lo hi (x, y)) := Lib.hid (by simp [rgB, h1, h2])
      go_enter Tryz.func52, Tryz.ntmps52
      go_wp2_with fail
      go_ret
      exact ⟨ret_bool e1.out, blA⟩
    · have e1 : Hid (false = rgB lo hi (x, y)) := Lib.hid (by simp [rgB, h2])
      go_enter Tryz.func52, Tryz.ntmps52
      go_wp2_with fail
      go_ret
      exact ⟨ret_bool e1.out, blA⟩
  · have e1 : Hid (false = rgB lo hi (x, y)) := Lib.hid (by simp [rgB, h1])
    go_enter Tryz.func52, Tryz.ntmps52
    go_wp2_with fail
    go_ret
    exact ⟨ret_bool e1.out, blA⟩

end Go.Proofs.YtminplfgadhnnaaGreatDoor
end

/- Walks of package bench: Places. -/
section
namespace Go.Proofs.YtminplfgadhnnaaGreatDoor
open Go.RowKit Go.Shelf
set_option linter.unusedSimpArgs false
set_option linter.unusedVariables false

end Go.Proofs.YtminplfgadhnnaaGreatDoor
end

/- Walks: Places, with its errors; the reference's Run, with its errors. -/
section
namespace Go.Proofs.YtminplfgadhnnaaGreatDoor
open Go.RowKit Go.Shelf
set_option linter.unusedSimpArgs false
set_option linter.unusedVariables false
open Bm (runL)

end Go.Proofs.YtminplfgadhnnaaGreatDoor
end

/- Walks of package bench: CheckBar. -/
section
namespace Go.Proofs.YtminplfgadhnnaaGreatDoor
open Go.RowKit Go.Shelf
set_option linter.unusedSimpArgs false
set_option linter.unusedVariables false

/-- the error of a bar -/
def barE (l n p1 p2 s1 s2 t1 t2 : Int) : Int :=
  if out_b 2 5000 l = true then 2 else if out_b 1 l n = true then 2 else if rgB 1 100000 (p1, p2) = false then 2 else if rgB 1 (l - 1) (s1, s2) = false then 2 else if rgB 0 1000 (t1, t2) = false then 2
  else if s1 < n then 16 else if l - n < s2 then 16 else 0
theorem out_false {lo hi x : Int} : out_b lo hi x = false ↔ lo ≤ x ∧ x ≤ hi := by unfold out_b; rw [Bool.or_eq_false_iff, decide_eq_false_iff_not, decide_eq_false_iff_not]; omega
theorem all_one (lo hi x : Int) : ([x].all fun z => !out_b lo hi z) = !out_b lo hi x := by simp

set_option maxHeartbeats 4000000 in
theorem checkBar_any (l n p1 p2 s1 s2 t1 t2 : Int) (w : World) :
    Calls Tryz.prog 54 #[.agg #[.int .i64 l, .int .i64 n, .int .i64 p1, .int .i64 p2, .int .i64 s1, .int .i64 s2, .int .i64 t1, .int .i64 t2]] w fun e w' => e = .returned (.int .i64 (barE l n p1 p2 s1 s2 t1 t2)) ∧ Below w.heap.size w w' := by
  have k1 := fun A c W hz => within_any_b 2 5000 A 1 c [l] W hz (by omega)
  have k2 := fun A c W hz => within_any_b 1 l A 1 c [n] W hz (by omega)
  have k3 := fun W => isRange_any p1 p2 1 100000 W
  have k4 := fun W => isRange_any s1 s2 1 (l - 1) W
  have k5 := fun W => isRange_any t1 t2 0 1000 W
  rw [all_one] at k1 k2
  obtain ⟨R, hR⟩ : ∃ R, barE l n p1 p2 s1 s2 t1 t2 = R := ⟨_, rfl⟩
  rw [hR]
  unfold barE at hR
  have HR := Lib.hid hR
  have g1 := Lib.hid (out_false (lo := 2) (hi := 5000) (x := l))
  have g2 := Lib.hid (out_false (lo := 1) (hi := l) (x := n))
  clear hR
  generalize out_b 2 5000 l = b1 at *
  generalize out_b 1 l n = b2 at *
  generalize rgB 1 100000 (p1, p2) = b3 at *
  generalize rgB 1 (l - 1) (s1, s2) = b4 at *
  generalize rgB 0 1000 (t1, t2) = b5 at *
  go_enter Tryz.func54, Tryz.ntmps54
  go_wp2_with fail
  refine (k1 _ _ _ (Ints.new1 _ _ _ _ (by simp))).mono ?_
  rintro _ w1 ⟨rfl, hb1⟩
  replace B0 : Cs w1 (w.heap.size) #[.int .i64 l, .int .i64 n, .int .i64 p1, .int .i64 p2, .int .i64 s1, .int .i64 s2, .int .i64 t1, .int .i64 t2] := Cs.keep csA hb1
  replace hbw : Below w.heap.size w w1 := blA
  replace cB0 := B0.c
  replace fB0 := B0.f
  replace lB0 := B0.lt
  clear hb1
  clear k1
  cases b1 with
  | true =>
    have hf : Hid (2 = R) := Lib.hid (by have := HR.out; simpa using this)
    clear HR k2 k3 k4 k5
    go_wp2_with fail
    go_ret
    exact ⟨ret_int hf.out, blA⟩
  | false =>
  obtain ⟨l1, l2⟩ := g1.out.1 rfl
  have hl1 : IntKind.i64.wrap (l - 1) = l - 1 := IntWalk.i64_in _ (by omega)
  go_wp2_with fail
  refine (k2 _ _ _ (Ints.new1 _ _ _ _ (by simp))).mono ?_
  rintro _ w2 ⟨rfl, hb2⟩
  replace B0 : Cs w2 (w.heap.size) #[.int .i64 l, .int .i64 n, .int .i64 p1, .int .i64 p2, .int .i64 s1, .int .i64 s2, .int .i64 t1, .int .i64 t2] := Cs.keep csA hb2
  replace hbw : Below w.heap.size w w2 := blA
  replace cB0 := B0.c
  replace fB0 := B0.f
  replace lB0 := B0.lt
  clear hb2
  clear k2
  cases b2 with
  | true =>
    have hf : Hid (2 = R) := Lib.hid (by have := HR.out; simpa using this)
    clear HR k3 k4 k5
    go_wp2_with fail
    go_ret
    exact ⟨ret_int hf.out, blA⟩
  | false =>
  obtain ⟨n1, n2⟩ := g2.out.1 rfl
  have hln : IntKind.i64.wrap (l - n) = l - n := IntWalk.i64_in _ (by omega)
  go_wp2_with fail
  refine (k3 _).mono ?_
  rintro e w3 ⟨rfl, hb3⟩
  replace B0 : Cs w3 (w.heap.size) #[.int .i64 l, .int .i64 n, .int .i64 p1, .int .i64 p2, .int .i64 s1, .int .i64 s2, .int .i64 t1, .int .i64 t2] := Cs.keep csA hb3
  replace hbw : Below w.heap.size w w3 := blA
  replace cB0 := B0.c
  replace fB0 := B0.f
  replace lB0 := B0.lt
  clear hb3
  clear k3
  cases b3 with
  | false =>
    have hf : Hid (2 = R) := Lib.hid (by have := HR.out; simpa using this)
    clear HR k4 k5
    go_wp2_with fail
    go_ret
    exact ⟨ret_int hf.out, blA⟩
  | true =>
  go_wp2_with fail
  refine (k4 _).mono ?_
  rintro e w4 ⟨rfl, hb4⟩
  replace B0 : Cs w4 (w.heap.size) #[.int .i64 l, .int .i64 n, .int .i64 p1, .int .i64 p2, .int .i64 s1, .int .i64 s2, .int .i64 t1, .int .i64 t2] := Cs.keep csA hb4
  replace hbw : Below w.heap.size w w4 := blA
  replace cB0 := B0.c
  replace fB0 := B0.f
  replace lB0 := B0.lt
  clear hb4
  clear k4
  cases b4 with
  | false =>
    have hf : Hid (2 = R) := Lib.hid (by have := HR.out; simpa using this)
    clear HR k5
    go_wp2_with fail
    go_ret
    exact ⟨ret_int hf.out, blA⟩
  | true =>
  go_wp2_with fail
  refine (k5 _).mono ?_
  rintro e w5 ⟨rfl, hb5⟩
  replace B0 : Cs w5 (w.heap.size) #[.int .i64 l, .int .i64 n, .int .i64 p1, .int .i64 p2, .int .i64 s1, .int .i64 s2, .int .i64 t1, .int .i64 t2] := Cs.keep csA hb5
  replace hbw : Below w.heap.size w w5 := blA
  replace cB0 := B0.c
  replace fB0 := B0.f
  replace lB0 := B0.lt
  clear hb5
  clear k5
  cases b5 with
  | false =>
    have hf : Hid (2 = R) := Lib.hid (by have := HR.out; simpa using this)
    clear HR
    go_wp2_with fail
    go_ret
    exact ⟨ret_int hf.out, blA⟩
  | true =>
  have HR2 : Hid ((if s1 < n then 16 else if l - n < s2 then 16 else 0) = R) := Lib.hid (by have := HR.out; simpa using this)
  clear HR
  by_cases x1 : s1 < n
  · rw [if_pos x1] at HR2
    go_wp2_with fail
    go_ret
    exact ⟨ret_int HR2.out, blA⟩
  · rw [if_neg x1] at HR2
    have d1 : decide (s1 < n) = false := by simpa using x1
    by_cases x2 : l - n < s2
    · rw [if_pos x2] at HR2
      go_wp2_with fail
      go_ret
      exact ⟨ret_int HR2.out, blA⟩
    · rw [if_neg x2] at HR2
      have d2 : decide (l - n < s2) = false := by simpa using x2
      go_wp2_with fail
      go_ret
      exact ⟨ret_int HR2.out, blA⟩

/-- what a valid bar is -/
theorem bar_ok {l n p1 p2 s1 s2 t1 t2 : Int} (h : barE l n p1 p2 s1 s2 t1 t2 = 0) : 2 ≤ l ∧ l ≤ 5000 ∧ 1 ≤ n ∧ n ≤ l ∧ 1 ≤ p1 ∧ p1 ≤ p2 ∧ p2 ≤ 100000 ∧ n ≤ s1 ∧ s1 ≤ s2 ∧ s2 ≤ l - 1 ∧ s2 ≤ l - n ∧ 0 ≤ t1 ∧ t1 ≤ t2 ∧ t2 ≤ 1000 := by
  unfold barE at h
  cases h1 : out_b 2 5000 l with
  | true => rw [h1] at h; simp at h
  | false =>
  cases h2 : out_b 1 l n with
  | true => rw [h1, h2] at h; simp at h
  | false =>
  cases h3 : rgB 1 100000 (p1, p2) with
  | false => rw [h1, h2, h3] at h; simp at h
  | true =>
  cases h4 : rgB 1 (l - 1) (s1, s2) with
  | false => rw [h1, h2, h3, h4] at h; simp at h
  | true =>
  cases h5 : rgB 0 1000 (t1, t2) with
  | false => rw [h1, h2, h3, h4, h5] at h; simp at h
  | true =>
  rw [h1, h2, h3, h4, h5] at h
  simp only [rgB, Bool.and_eq_true, decide_eq_true_eq] at h3 h4 h5
  have a1 := out_false.1 h1
  have a2 := out_false.1 h2
  simp only [Bool.false_eq_true, if_false, Bool.true_eq_false] at h
  by_cases x1 : s1 < n
  · rw [if_pos x1] at h; exact absurd h (by decide)
  · rw [if_neg x1] at h
    by_cases x2 : l - n < s2
    · rw [if_pos x2] at h; exact absurd h (by decide)
    · omega
end Go.Proofs.YtminplfgadhnnaaGreatDoor
end

/- Walks of package bench: the power of a lamp, Value, Span. -/
section
namespace Go.Proofs.YtminplfgadhnnaaGreatDoor
open Go.RowKit Go.Shelf
set_option linter.unusedSimpArgs false
set_option linter.unusedVariables false
open Bm (pwr lgt)

/-- bounds of what is multiplied -/
theorem pwr_bd {l p s t : Int} (hl : l ≤ 5000) (hp : 0 ≤ p) (hp2 : p ≤ 100000) (hs : 1 ≤ s) (hs2 : s < l) (ht : 0 ≤ t) (ht2 : t ≤ 1000) :
    (0 ≤ t * s ∧ t * s ≤ 5000000) ∧ (0 ≤ t * s * s ∧ t * s * s ≤ 25000000000) ∧ (0 ≤ lgt p s t ∧ lgt p s t ≤ 100000000000) ∧ (0 ≤ lgt p s t * (l - s) ∧ lgt p s t * (l - s) ≤ 500000000000000) ∧
    (0 ≤ lgt p s t * (l - s) * (l - s) ∧ lgt p s t * (l - s) * (l - s) ≤ 2500000000000000000) ∧ (0 ≤ s * s ∧ s * s ≤ 25000000) ∧ (1 ≤ 1000000 * s * s ∧ 1000000 * s * s ≤ 25000000000000) := by
  have a1 : 0 ≤ t * s := Int.mul_nonneg ht (by omega)
  have a2 : t * s ≤ 1000 * 5000 := Bm.mul_mono ht2 (by omega) (by omega) (by omega)
  have b1 : 0 ≤ t * s * s := Int.mul_nonneg a1 (by omega)
  have b2 : t * s * s ≤ 5000000 * 5000 := Bm.mul_mono (by omega) (by omega) (by omega) (by omega)
  have c1 : 0 ≤ lgt p s t := by unfold lgt; omega
  have c2 : lgt p s t ≤ 100000000000 := by unfold lgt; omega
  have d1 : 0 ≤ lgt p s t * (l - s) := Int.mul_nonneg c1 (by omega)
  have d2 : lgt p s t * (l - s) ≤ 100000000000 * 5000 := Bm.mul_mono c2 (by omega) (by omega) (by omega)
  have e1 : 0 ≤ lgt p s t * (l - s) * (l - s) := Int.mul_nonneg d1 (by omega)
  have e2 : lgt p s t * (l - s) * (l - s) ≤ 500000000000000 * 5000 := Bm.mul_mono (by omega) (by omega) (by omega) (by omega)
  have f1 : 1 ≤ s * s := Int.mul_pos (by omega) (by omega)
  have f2 : s * s ≤ 5000 * 5000 := Bm.mul_mono (by omega) (by omega) (by omega) (by omega)
  have g : 1000000 * s * s = 1000000 * (s * s) := Int.mul_assoc ..
  exact ⟨⟨a1, by omega⟩, ⟨b1, by omega⟩, ⟨c1, c2⟩, ⟨d1, by omega⟩, ⟨e1, by omega⟩, ⟨by omega, by omega⟩, by omega, by omega⟩

set_option maxRecDepth 100000 in
set_option maxHeartbeats 1000000 in
theorem bpower_any (l n p1 p2 s1 s2 t1 t2 p s t : Int) (w : World) (hl : l ≤ 5000) (hp : 0 ≤ p) (hp2 : p ≤ 100000) (hs : 1 ≤ s) (hs2 : s < l) (ht : 0 ≤ t) (ht2 : t ≤ 1000) :
    Calls Tryz.prog 55 #[.agg #[.int .i64 l, .int .i64 n, .int .i64 p1, .int .i64 p2, .int .i64 s1, .int .i64 s2, .int .i64 t1, .int .i64 t2], .agg #[.int .i64 p, .int .i64 s, .int .i64 t]] w fun e w' => e = .returned (.agg #[.int .i64 (pwr l p s t).1, .int .i64 (pwr l p s t).2]) ∧ Below w.heap.size w w' := by
  obtain ⟨⟨a1, a2⟩, ⟨b1, b2⟩, ⟨c1, c2⟩, ⟨d1, d2⟩, ⟨e1, e2⟩, ⟨f1, f2⟩, g1, g2⟩ := pwr_bd hl hp hp2 hs hs2 ht ht2
  have k1 := fun W => ratio_any (lgt p s t * (l - s) * (l - s)) (1000000 * s * s) W e1 g1 (by omega) (by omega)
  have hlp : lgt p s t = if 0 < 1000000 * p - t * s * s then 1000000 * p - t * s * s else 0 := by unfold lgt; split <;> omega
  have Hlp := Lib.hid hlp
  clear hlp
  change ∀ W, Calls _ _ _ W fun e w' => e = .returned (.agg #[.int .i64 (pwr l p s t).1, .int .i64 (pwr l p s t).2]) ∧ _ at k1
  generalize (pwr l p s t).1 = r1 at *
  generalize (pwr l p s t).2 = r2 at *
  generalize lgt p s t = L at *
  have fw : IntKind.i64.wrap (l - s) = l - s := IntWalk.i64_in _ (by omega)
  have f0 : 0 ≤ l - s := by omega
  have f9 : l - s ≤ 5000 := by omega
  generalize hf : l - s = f at *
  have HB := Lib.hid (show (0 ≤ t * s ∧ t * s ≤ 5000000) ∧ (0 ≤ t * s * s ∧ t * s * s ≤ 25000000000) ∧ (0 ≤ L ∧ L ≤ 100000000000) ∧ (0 ≤ L * f ∧ L * f ≤ 500000000000000) ∧ (0 ≤ L * f * f ∧ L * f * f ≤ 2500000000000000000) ∧ (1 ≤ 1000000 * s * s ∧ 1000000 * s * s ≤ 25000000000000) from ⟨⟨a1, a2⟩, ⟨b1, b2⟩, ⟨c1, c2⟩, ⟨d1, d2⟩, ⟨e1, e2⟩, ⟨g1, g2⟩⟩)
  clear a1 a2 b1 b2 c1 c2 d1 d2 e1 e2 f1 f2 g1 g2
  have Hpos := Lib.hid (Classical.em (0 < 1000000 * p - t * s * s))
  rcases Hpos.out with hpos | hpos
  · have Hl2 : Hid (L = 1000000 * p - t * s * s) := Lib.hid (by rw [Hlp.out, if_pos hpos])
    have Hps := Lib.hid hpos
    clear Hlp hpos Hpos
    go_enter Tryz.func55, Tryz.ntmps55
    go_wp2_with fail
    go_quiet (fail)
    obtain ⟨⟨a1, a2⟩, ⟨b1, b2⟩, ⟨c1, c2⟩, ⟨d1, d2⟩, ⟨e1, e2⟩, ⟨g1, g2⟩⟩ := HB.out
    clear HB
    have hpos := Hps.out
    clear Hps
    obtain ⟨q1, hq1⟩ : ∃ q, t * s = q := ⟨_, rfl⟩
    rw [hq1] at a1 a2 b1 b2 hpos Hl2
    obtain ⟨q2, hq2⟩ : ∃ q, q1 * s = q := ⟨_, rfl⟩
    rw [hq2] at b1 b2 hpos Hl2
    obtain ⟨q3, hq3⟩ : ∃ q, L * f = q := ⟨_, rfl⟩
    rw [hq3] at d1 d2 e1 e2 k1
    obtain ⟨q4, hq4⟩ : ∃ q, q3 * f = q := ⟨_, rfl⟩
    rw [hq4] at e1 e2 k1
    obtain ⟨q5, hq5⟩ : ∃ q, 1000000 * s * s = q := ⟨_, rfl⟩
    rw [hq5] at g1 g2 k1
    have hL : 1000000 * p - q2 = L := Hl2.out.symm
    have hpos : 0 < L := by rw [← hL]; exact hpos
    clear Hl2
    go_wp2_with fail
    (with_reducible refine (k1 _).mono ?_)
    rintro _ w1 ⟨rfl, hb1⟩
    replace B0 : Cs w1 (w.heap.size) #[.int .i64 l, .int .i64 n, .int .i64 p1, .int .i64 p2, .int .i64 s1, .int .i64 s2, .int .i64 t1, .int .i64 t2] := Cs.keep csA hb1
    replace B1 : Cs w1 (w.heap.size + 1) #[.int .i64 p, .int .i64 s, .int .i64 t] := Cs.keep csA hb1
    replace B2 : Cs w1 (w.heap.size + 1 + 1) #[.int .i64 0, .int .i64 0] := Cs.keep csA hb1
    replace hbw : Below w.heap.size w w1 := blA
    replace cB0 := B0.c
    replace fB0 := B0.f
    replace lB0 := B0.lt
    replace cB1 := B1.c
    replace fB1 := B1.f
    replace lB1 := B1.lt
    replace cB2 := B2.c
    replace fB2 := B2.f
    replace lB2 := B2.lt
    clear hb1
    go_wp2_with fail
    exact bodyPost_ret (v := .agg #[.int .i64 r1, .int .i64 r2]) (by simp [results, Tryz.results55, go_sem, cB0, fB0, lB0, cB1, fB1, lB1, cB2, fB2, lB2]) rfl ⟨rfl, blA⟩
  · have Hl2 : Hid (L = 0) := Lib.hid (by rw [Hlp.out, if_neg hpos])
    have Hps := Lib.hid hpos
    clear Hlp hpos Hpos
    go_enter Tryz.func55, Tryz.ntmps55
    go_wp2_with fail
    go_quiet (fail)
    obtain ⟨⟨a1, a2⟩, ⟨b1, b2⟩, ⟨c1, c2⟩, ⟨d1, d2⟩, ⟨e1, e2⟩, ⟨g1, g2⟩⟩ := HB.out
    clear HB
    have hpos := Hps.out
    clear Hps
    obtain ⟨q1, hq1⟩ : ∃ q, t * s = q := ⟨_, rfl⟩
    rw [hq1] at a1 a2 b1 b2 hpos
    obtain ⟨q2, hq2⟩ : ∃ q, q1 * s = q := ⟨_, rfl⟩
    rw [hq2] at b1 b2 hpos
    obtain ⟨q3, hq3⟩ : ∃ q, L * f = q := ⟨_, rfl⟩
    rw [hq3] at d1 d2 e1 e2 k1
    obtain ⟨q4, hq4⟩ : ∃ q, q3 * f = q := ⟨_, rfl⟩
    rw [hq4] at e1 e2 k1
    obtain ⟨q5, hq5⟩ : ∃ q, 1000000 * s * s = q := ⟨_, rfl⟩
    rw [hq5] at g1 g2 k1
    obtain rfl := Hl2.out
    clear Hl2
    obtain rfl : q3 = 0 := by rw [← hq3]; simp
    obtain rfl : q4 = 0 := by rw [← hq4]; simp
    clear c1 c2 d1 d2 e1 e2 hq3 hq4
    go_wp2_with fail
    (with_reducible refine (k1 _).mono ?_)
    rintro _ w1 ⟨rfl, hb1⟩
    replace B0 : Cs w1 (w.heap.size) #[.int .i64 l, .int .i64 n, .int .i64 p1, .int .i64 p2, .int .i64 s1, .int .i64 s2, .int .i64 t1, .int .i64 t2] := Cs.keep csA hb1
    replace B1 : Cs w1 (w.heap.size + 1) #[.int .i64 p, .int .i64 s, .int .i64 t] := Cs.keep csA hb1
    replace B2 : Cs w1 (w.heap.size + 1 + 1) #[.int .i64 0, .int .i64 0] := Cs.keep csA hb1
    replace hbw : Below w.heap.size w w1 := blA
    replace cB0 := B0.c
    replace fB0 := B0.f
    replace lB0 := B0.lt
    replace cB1 := B1.c
    replace fB1 := B1.f
    replace lB1 := B1.lt
    replace cB2 := B2.c
    replace fB2 := B2.f
    replace lB2 := B2.lt
    clear hb1
    go_wp2_with fail
    exact bodyPost_ret (v := .agg #[.int .i64 r1, .int .i64 r2]) (by simp [results, Tryz.results55, go_sem, cB0, fB0, lB0, cB1, fB1, lB1, cB2, fB2, lB2]) rfl ⟨rfl, blA⟩

end Go.Proofs.YtminplfgadhnnaaGreatDoor
end
