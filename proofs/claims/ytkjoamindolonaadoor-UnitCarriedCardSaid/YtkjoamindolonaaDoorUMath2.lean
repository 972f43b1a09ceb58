/- Plain definitions of what package unit computes. -/
import Derived.Test.YtkjoamindolonaaDoorUMath
set_option linter.unusedSimpArgs false
set_option linter.unusedVariables false
namespace Um

/-- a fraction: both numbers in the limit, least terms -/
def frac (n d : Int) : Bool := decide (1 ≤ n ∧ n ≤ 1000000000 ∧ 1 ≤ d ∧ d ≤ 1000000000 ∧ Int.gcd n d = 1)

theorem frac_bd {n d : Int} (h : frac n d = true) : 1 ≤ n ∧ n ≤ 1000000000 ∧ 1 ≤ d ∧ d ≤ 1000000000 := by
  simp [frac] at h; omega
theorem frac_gcd {n d : Int} (h : frac n d = true) : Int.gcd n d = 1 := by
  simp [frac] at h; exact h.2.2.2.2

/-- a span: the numbers of Lo and of Hi -/
abbrev S4 := Int × Int × Int × Int

def spanB (s : S4) : Bool := frac s.1 s.2.1 && frac s.2.2.1 s.2.2.2 && decide (s.1 * s.2.2.2 ≤ s.2.2.1 * s.2.1)

/-- the error of a span -/
def spanE (s : S4) : Int := if spanB s = true then 0 else 2

theorem spanB_iff (s : S4) : spanB s = true ↔ frac s.1 s.2.1 = true ∧ frac s.2.2.1 s.2.2.2 = true ∧ s.1 * s.2.2.2 ≤ s.2.2.1 * s.2.1 := by
  simp [spanB, and_assoc]

/-- the product of two fractions in least terms -/
def mulR (a b c d : Int) : Int × Int := (a * c / (Int.gcd (a * c) (b * d) : Int), b * d / (Int.gcd (a * c) (b * d) : Int))

/-- the product of fractions, as far as it stays within the limit -/
def prodR : Int → Int → List (Int × Int) → Option (Int × Int)
  | p, q, [] => some (p, q)
  | p, q, (x, y) :: l => if frac (mulR p q x y).1 (mulR p q x y).2 = true then prodR (mulR p q x y).1 (mulR p q x y).2 l else none

def mul4 (s t : S4) : S4 := ((mulR s.1 s.2.1 t.1 t.2.1).1, (mulR s.1 s.2.1 t.1 t.2.1).2, (mulR s.2.2.1 s.2.2.2 t.2.2.1 t.2.2.2).1, (mulR s.2.2.1 s.2.2.2 t.2.2.1 t.2.2.2).2)
def frac4 (s : S4) : Bool := frac s.1 s.2.1 && frac s.2.2.1 s.2.2.2

/-- a span carried over by decrees -/
def carryL : S4 → List S4 → Option S4
  | s, [] => some s
  | s, d :: l => if frac4 (mul4 s d) = true then carryL (mul4 s d) l else none

def turn4 (s : S4) : S4 := (s.2.2.2, s.2.2.1, s.2.1, s.1)

/-- what is carried over, and the error -/
def carried (s : S4) (l : List S4) (ch : S4 → S4) : S4 × Int :=
  if spanB s = false then ((0, 0, 0, 0), 2)
  else if 8 < l.length then ((0, 0, 0, 0), 6)
  else if l.any (fun d => !spanB d) = true then ((0, 0, 0, 0), 2)
  else match carryL s (l.map ch) with
    | none => ((0, 0, 0, 0), 4)
    | some t => (t, 0)

theorem gcd_one_div (n : Int) : n / ((1 : Nat) : Int) = n := by simp

theorem mulR_one {a b : Int} (h : frac a b = true) : mulR 1 1 a b = (a, b) := by
  simp [mulR, frac_gcd h]

theorem prodR_two {a b c d : Int} (h : frac a b = true) : prodR 1 1 [(a, b), (c, d)] = if frac (mulR a b c d).1 (mulR a b c d).2 = true then some (mulR a b c d) else none := by
  simp [prodR, mulR_one h, h]

theorem mul_bd {p x M : Int} (h1 : 1 ≤ p) (h2 : p ≤ M) (h3 : 1 ≤ x) (h4 : x ≤ M) : 1 ≤ p * x ∧ p * x ≤ M * M := by
  constructor
  · have := Int.mul_le_mul h1 h3 (by omega) (by omega : (0 : Int) ≤ p); omega
  · exact Int.mul_le_mul h2 h4 (by omega) (by omega)

theorem mulR_bd {p q x y : Int} (h1 : 1 ≤ p) (h3 : 1 ≤ q) (h5 : 1 ≤ x) (h7 : 1 ≤ y) :
    1 ≤ (Int.gcd (p * x) (q * y) : Int) ∧ (Int.gcd (p * x) (q * y) : Int) ≤ p * x := by
  have a := Int.mul_pos (by omega : 0 < p) (by omega : 0 < x)
  have hg : 0 < Int.gcd (p * x) (q * y) := Int.gcd_pos_of_ne_zero_left _ (by omega)
  exact ⟨by omega, Int.le_of_dvd a (Int.gcd_dvd_left ..)⟩


/-- a fraction is not greater than another one -/
def qle (a b c d : Int) : Prop := a * d ≤ c * b

theorem qle_trans {a b c d e f : Int} (hb : 0 < b) (hd : 0 < d) (hf : 0 < f) (h1 : qle a b c d) (h2 : qle c d e f) : qle a b e f := by
  unfold qle at *
  apply le_of_mul_le hd
  have e1 : a * f * d = f * (a * d) := by simp only [Int.mul_assoc, Int.mul_comm, Int.mul_left_comm]
  have e2 : f * (a * d) ≤ f * (c * b) := Int.mul_le_mul_of_nonneg_left h1 (by omega)
  have e3 : f * (c * b) = b * (c * f) := by simp only [Int.mul_assoc, Int.mul_comm, Int.mul_left_comm]
  have e4 : b * (c * f) ≤ b * (e * d) := Int.mul_le_mul_of_nonneg_left h2 (by omega)
  have e5 : b * (e * d) = e * b * d := by simp only [Int.mul_assoc, Int.mul_comm, Int.mul_left_comm]
  omega

/-- the product in least terms is the product -/
theorem mulR_spec {a b c d : Int} (ha : 0 < a) (hb : 0 < b) (hc : 0 < c) (hd : 0 < d) :
    ∃ g : Int, 0 < g ∧ a * c = (mulR a b c d).1 * g ∧ b * d = (mulR a b c d).2 * g ∧ 0 < (mulR a b c d).1 ∧ 0 < (mulR a b c d).2 ∧ Int.gcd (mulR a b c d).1 (mulR a b c d).2 = 1 := by
  have p1 := Int.mul_pos ha hc
  have p2 := Int.mul_pos hb hd
  have hg : 0 < Int.gcd (a * c) (b * d) := Int.gcd_pos_of_ne_zero_left _ (by omega)
  refine ⟨(Int.gcd (a * c) (b * d) : Int), by omega, ?_, ?_, ?_, ?_, ?_⟩
  · exact (Int.ediv_mul_cancel (Int.gcd_dvd_left ..)).symm
  · exact (Int.ediv_mul_cancel (Int.gcd_dvd_right ..)).symm
  · exact Int.ediv_pos_of_pos_of_dvd p1 (by omega) (Int.gcd_dvd_left ..)
  · exact Int.ediv_pos_of_pos_of_dvd p2 (by omega) (Int.gcd_dvd_right ..)
  · exact Int.gcd_ediv_gcd_ediv_gcd hg

theorem mulR_mono {a b c d a' b' c' d' : Int} (ha : 0 < a) (hb : 0 < b) (hc : 0 < c) (hd : 0 < d) (ha' : 0 < a') (hb' : 0 < b') (hc' : 0 < c') (hd' : 0 < d')
    (h1 : qle a b a' b') (h2 : qle c d c' d') : qle (mulR a b c d).1 (mulR a b c d).2 (mulR a' b' c' d').1 (mulR a' b' c' d').2 := by
  obtain ⟨g, hg, e1, e2, p1, p2, _⟩ := mulR_spec ha hb hc hd
  obtain ⟨g', hg', e1', e2', p1', p2', _⟩ := mulR_spec ha' hb' hc' hd'
  generalize (mulR a b c d).1 = n at *
  generalize (mulR a b c d).2 = m at *
  generalize (mulR a' b' c' d').1 = n' at *
  generalize (mulR a' b' c' d').2 = m' at *
  unfold qle at *
  apply le_of_mul_le (Int.mul_pos hg hg')
  have k : a * b' * (c * d') ≤ a' * b * (c' * d) := Int.mul_le_mul h1 h2 (Int.le_of_lt (Int.mul_pos hc hd')) (Int.le_of_lt (Int.mul_pos ha' hb))
  have f1 : n * m' * (g * g') = a * b' * (c * d') := by
    have : n * m' * (g * g') = (n * g) * (m' * g') := by simp only [Int.mul_assoc, Int.mul_comm, Int.mul_left_comm]
    rw [this, ← e1, ← e2']; simp only [Int.mul_assoc, Int.mul_comm, Int.mul_left_comm]
  have f2 : n' * m * (g * g') = a' * b * (c' * d) := by
    have : n' * m * (g * g') = (n' * g') * (m * g) := by simp only [Int.mul_assoc, Int.mul_comm, Int.mul_left_comm]
    rw [this, ← e1', ← e2]; simp only [Int.mul_assoc, Int.mul_comm, Int.mul_left_comm]
  omega

theorem dvd_gcd1 {a b c : Int} (h : a ∣ c * b) (hg : Int.gcd a b = 1) : a ∣ c := by
  rw [← Int.natAbs_dvd_natAbs] at h ⊢
  rw [Int.natAbs_mul] at h
  exact Nat.Coprime.dvd_of_dvd_mul_right hg h

theorem red_uniq {a b c d : Int} (hb : 0 < b) (hd : 0 < d) (h1 : Int.gcd a b = 1) (h2 : Int.gcd c d = 1) (h : a * d = c * b) : a = c ∧ b = d := by
  have d1 : b ∣ d := by
    have : b ∣ d * a := ⟨c, by rw [Int.mul_comm d a, h, Int.mul_comm]⟩
    exact dvd_gcd1 this (by rw [Int.gcd_comm]; exact h1)
  have d2 : d ∣ b := by
    have : d ∣ b * c := ⟨a, by rw [Int.mul_comm b c, ← h, Int.mul_comm]⟩
    exact dvd_gcd1 this (by rw [Int.gcd_comm]; exact h2)
  have l1 := Int.le_of_dvd hd d1
  have l2 := Int.le_of_dvd hb d2
  have hbd : b = d := by omega
  subst hbd
  exact ⟨Int.eq_of_mul_eq_mul_right (by omega) h, rfl⟩

theorem mulR_back {a b c d : Int} (ha : 0 < a) (hb : 0 < b) (hc : 0 < c) (hd : 0 < d) (hg : Int.gcd a b = 1) :
    mulR (mulR a b c d).1 (mulR a b c d).2 d c = (a, b) := by
  obtain ⟨g, hg0, e1, e2, p1, p2, _⟩ := mulR_spec ha hb hc hd
  generalize (mulR a b c d).1 = n at *
  generalize (mulR a b c d).2 = m at *
  obtain ⟨g', hg0', e1', e2', p1', p2', hg'⟩ := mulR_spec p1 p2 hd hc
  have : (mulR n m d c).1 = a ∧ (mulR n m d c).2 = b := by
    apply red_uniq p2' hb hg' hg
    apply Int.eq_of_mul_eq_mul_right (a := g * g' * (c * d)) (Int.ne_of_gt (Int.mul_pos (Int.mul_pos hg0 hg0') (Int.mul_pos hc hd)))
    have f1 : (mulR n m d c).1 * b * (g * g' * (c * d)) = ((mulR n m d c).1 * g') * (b * d) * (c * g) := by simp only [Int.mul_assoc, Int.mul_comm, Int.mul_left_comm]
    have f2 : a * (mulR n m d c).2 * (g * g' * (c * d)) = ((mulR n m d c).2 * g') * (a * c) * (d * g) := by simp only [Int.mul_assoc, Int.mul_comm, Int.mul_left_comm]
    rw [f1, f2, ← e1', ← e2', e1, e2]
    simp only [Int.mul_assoc, Int.mul_comm, Int.mul_left_comm]
  exact Prod.ext this.1 this.2

theorem frac_pos {n d : Int} (h : frac n d = true) : 0 < n ∧ 0 < d := by have := frac_bd h; omega

/-- the first span is in the second one -/
def sub4 (s t : S4) : Prop := qle t.1 t.2.1 s.1 s.2.1 ∧ qle s.2.2.1 s.2.2.2 t.2.2.1 t.2.2.2

theorem frac4_iff (s : S4) : frac4 s = true ↔ frac s.1 s.2.1 = true ∧ frac s.2.2.1 s.2.2.2 = true := by simp [frac4]

theorem mul4_sub {s t d e : S4} (hs : frac4 s = true) (ht : frac4 t = true) (hd : frac4 d = true) (he : frac4 e = true) (h1 : sub4 s t) (h2 : sub4 d e) : sub4 (mul4 s d) (mul4 t e) := by
  obtain ⟨s1, s2⟩ := (frac4_iff s).1 hs
  obtain ⟨t1, t2⟩ := (frac4_iff t).1 ht
  obtain ⟨d1, d2⟩ := (frac4_iff d).1 hd
  obtain ⟨e1, e2⟩ := (frac4_iff e).1 he
  exact ⟨mulR_mono (frac_pos t1).1 (frac_pos t1).2 (frac_pos e1).1 (frac_pos e1).2 (frac_pos s1).1 (frac_pos s1).2 (frac_pos d1).1 (frac_pos d1).2 h1.1 h2.1,
    mulR_mono (frac_pos s2).1 (frac_pos s2).2 (frac_pos d2).1 (frac_pos d2).2 (frac_pos t2).1 (frac_pos t2).2 (frac_pos e2).1 (frac_pos e2).2 h1.2 h2.2⟩

theorem carryL_frac {l : List S4} : ∀ {s t : S4}, frac4 s = true → carryL s l = some t → frac4 t = true := by
  induction l with
  | nil => intro s t hs h; simp [carryL] at h; subst h; exact hs
  | cons d l ih =>
    intro s t hs h
    rw [carryL] at h
    split at h
    · rename_i hm; exact ih hm h
    · exact absurd h (by simp)

/-- if each decree is in the other one, what is carried over is -/
theorem carryL_sub {l : List (S4 × S4)} : ∀ {s t u v : S4}, frac4 s = true → frac4 t = true → sub4 s t → (∀ x ∈ l, frac4 x.1 = true ∧ frac4 x.2 = true ∧ sub4 x.1 x.2) →
    carryL s (l.map (·.1)) = some u → carryL t (l.map (·.2)) = some v → sub4 u v := by
  induction l with
  | nil => intro s t u v _ _ h _ h1 h2; simp [carryL] at h1 h2; subst h1 h2; exact h
  | cons x l ih =>
    intro s t u v hs ht h hl h1 h2
    obtain ⟨x1, x2, x3⟩ := hl x (List.mem_cons_self)
    rw [List.map_cons, carryL] at h1 h2
    split at h1
    · rename_i m1
      split at h2
      · rename_i m2
        exact ih m1 m2 (mul4_sub hs ht x1 x2 h x3) (fun y hy => hl y (List.mem_cons_of_mem _ hy)) h1 h2
      · exact absurd h2 (by simp)
    · exact absurd h1 (by simp)

/-- a span that is one number stays one -/
theorem carryL_point {l : List S4} : ∀ {s u : S4}, s.1 = s.2.2.1 → s.2.1 = s.2.2.2 → (∀ x ∈ l, x.1 = x.2.2.1 ∧ x.2.1 = x.2.2.2) → carryL s l = some u → u.1 = u.2.2.1 ∧ u.2.1 = u.2.2.2 := by
  induction l with
  | nil => intro s u h1 h2 _ h; simp [carryL] at h; subst h; exact ⟨h1, h2⟩
  | cons d l ih =>
    intro s u h1 h2 hl h
    obtain ⟨d1, d2⟩ := hl d (List.mem_cons_self)
    rw [carryL] at h
    split at h
    · refine ih ?_ ?_ (fun y hy => hl y (List.mem_cons_of_mem _ hy)) h
      · simp only [mul4, h1, h2, d1, d2]
      · simp only [mul4, h1, h2, d1, d2]
    · exact absurd h (by simp)

theorem carryL_append (l1 l2 : List S4) : ∀ s : S4, carryL s (l1 ++ l2) = (carryL s l1).bind fun t => carryL t l2 := by
  induction l1 with
  | nil => intro s; rfl
  | cons d l ih =>
    intro s
    rw [List.cons_append, carryL, carryL]
    split
    · exact ih _
    · rfl

theorem turn4_frac {s : S4} (h : frac4 s = true) : frac4 (turn4 s) = true := by
  obtain ⟨h1, h2⟩ := (frac4_iff s).1 h
  rw [frac4_iff]
  have g1 := frac_gcd h1
  have g2 := frac_gcd h2
  have b1 := frac_bd h1
  have b2 := frac_bd h2
  rw [Int.gcd_comm] at g1 g2
  constructor
  · show frac s.2.2.2 s.2.2.1 = true
    simp only [frac, decide_eq_true_eq]; omega
  · show frac s.2.1 s.1 = true
    simp only [frac, decide_eq_true_eq]; omega

/-- what is carried over and back contains the span; if all decrees are known exactly, it is the span -/
theorem carry_back (l : List S4) (hl : ∀ x ∈ l, spanB x = true) : ∀ {s t u : S4}, frac4 s = true → carryL s l = some t → carryL t (l.reverse.map turn4) = some u →
    sub4 s u ∧ ((∀ x ∈ l, x.1 = x.2.2.1 ∧ x.2.1 = x.2.2.2) → u = s) := by
  induction l with
  | nil =>
    intro s t u hs h1 h2
    simp [carryL] at h1 h2
    subst h1 h2
    exact ⟨⟨Int.le_refl _, Int.le_refl _⟩, fun _ => rfl⟩
  | cons d l ih =>
    intro s t u hs h1 h2
    have hd := hl d (List.mem_cons_self)
    obtain ⟨df1, df2, dle⟩ := (spanB_iff d).1 hd
    obtain ⟨s1, s2⟩ := (frac4_iff s).1 hs
    obtain ⟨pa, pb⟩ := frac_pos s1
    obtain ⟨pc, pd⟩ := frac_pos s2
    obtain ⟨qa, qb⟩ := frac_pos df1
    obtain ⟨qc, qd⟩ := frac_pos df2
    rw [carryL] at h1
    split at h1
    · rename_i hm
      rw [List.reverse_cons, List.map_append, carryL_append] at h2
      cases hu : carryL t (l.reverse.map turn4) with
      | none => rw [hu] at h2; exact absurd h2 (by simp)
      | some u1 =>
        rw [hu] at h2
        simp only [Option.bind_some, List.map_cons, List.map_nil, carryL] at h2
        split at h2
        · rename_i hm2
          simp only [Option.some.injEq] at h2
          subst h2
          obtain ⟨i1, i2⟩ := ih (fun x hx => hl x (List.mem_cons_of_mem _ hx)) hm h1 hu
          obtain ⟨m1, m2⟩ := (frac4_iff _).1 hm
          have hu1 := carryL_frac (carryL_frac hm h1) hu
          obtain ⟨v1, v2⟩ := (frac4_iff _).1 hu1
          have b1 := mulR_back pa pb qa qb (frac_gcd s1)
          have b2 := mulR_back pc pd qc qd (frac_gcd s2)
          refine ⟨⟨?_, ?_⟩, fun hex => ?_⟩
          · have k := mulR_mono (frac_pos v1).1 (frac_pos v1).2 qd qc (frac_pos m1).1 (frac_pos m1).2 qb qa i1.1 (by unfold qle; rw [Int.mul_comm, Int.mul_comm d.2.1]; exact dle)
            have e : mulR (mul4 s d).1 (mul4 s d).2.1 d.2.1 d.1 = (s.1, s.2.1) := b1
            rw [e] at k
            exact k
          · have k := mulR_mono (frac_pos m2).1 (frac_pos m2).2 qd qc (frac_pos v2).1 (frac_pos v2).2 qb qa i1.2 (by unfold qle; rw [Int.mul_comm, Int.mul_comm d.2.1]; exact dle)
            have e : mulR (mul4 s d).2.2.1 (mul4 s d).2.2.2 d.2.2.2 d.2.2.1 = (s.2.2.1, s.2.2.2) := b2
            rw [e] at k
            exact k
          · have hue := i2 (fun x hx => hex x (List.mem_cons_of_mem _ hx))
            subst hue
            obtain ⟨x1, x2⟩ := hex d (List.mem_cons_self)
            have e1 : mulR (mul4 s d).1 (mul4 s d).2.1 d.2.2.2 d.2.2.1 = (s.1, s.2.1) := by rw [← x1, ← x2]; exact b1
            have e2 : mulR (mul4 s d).2.2.1 (mul4 s d).2.2.2 d.2.1 d.1 = (s.2.2.1, s.2.2.2) := by rw [x1, x2]; exact b2
            show ((mulR (mul4 s d).1 (mul4 s d).2.1 d.2.2.2 d.2.2.1).1, (mulR (mul4 s d).1 (mul4 s d).2.1 d.2.2.2 d.2.2.1).2, (mulR (mul4 s d).2.2.1 (mul4 s d).2.2.2 d.2.1 d.1).1, (mulR (mul4 s d).2.2.1 (mul4 s d).2.2.2 d.2.1 d.1).2) = s
            rw [e1, e2]
        · exact absurd h2 (by simp)
    · exact absurd h1 (by simp)

end Um
