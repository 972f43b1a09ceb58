/- Plain laws of the strongest region: which threshold it has. -/
import Derived.Test.YtcmllkjgggcghaaEM3
namespace Go.Proofs.Ytcmllkjgggcghaa
set_option linter.unusedSimpArgs false
set_option linter.unusedVariables false
open Em (red)

/-- the sum of some numbers -/
def sumIf (g : Nat → Int) (p : Nat → Bool) : Nat → Int
  | 0 => 0
  | k + 1 => sumIf g p k + if p k then g k else 0

theorem sumIf_congr {g : Nat → Int} {p q : Nat → Bool} : ∀ k, (∀ i, i < k → p i = q i ∨ g i = 0) → sumIf g p k = sumIf g q k
  | 0, _ => rfl
  | k + 1, h => by
    rw [sumIf, sumIf, sumIf_congr k (fun i hi => h i (by omega))]
    rcases h k (by omega) with h1 | h1
    · rw [h1]
    · rw [h1]; simp
theorem sumIf_le {g : Nat → Int} {p q : Nat → Bool} : ∀ k, (∀ i, i < k → 0 ≤ g i) → (∀ i, i < k → p i = true → q i = true) → sumIf g p k ≤ sumIf g q k
  | 0, _, _ => by simp [sumIf]
  | k + 1, h0, h => by
    have h1 := sumIf_le k (fun i hi => h0 i (by omega)) (fun i hi => h i (by omega))
    have h2 := h0 k (by omega)
    have h3 := h k (by omega)
    rw [sumIf, sumIf]
    by_cases hp : p k = true
    · rw [if_pos hp, if_pos (h3 hp)]; omega
    · rw [if_neg hp]; split <;> omega
theorem sumIf_add {g : Nat → Int} {p q r : Nat → Bool} : ∀ k, (∀ i, i < k → r i = (p i || q i) ∧ (p i && q i) = false) → sumIf g r k = sumIf g p k + sumIf g q k
  | 0, _ => by simp [sumIf]
  | k + 1, h => by
    rw [sumIf, sumIf, sumIf, sumIf_add k (fun i hi => h i (by omega))]
    obtain ⟨h1, h2⟩ := h k (by omega)
    rw [h1]
    cases hp : p k <;> cases hq : q k <;> simp [hp, hq] at h2 ⊢ <;> omega
theorem sumIf_nonneg {g : Nat → Int} {p : Nat → Bool} : ∀ k, (∀ i, i < k → 0 ≤ g i) → 0 ≤ sumIf g p k
  | 0, _ => by simp [sumIf]
  | k + 1, h => by
    have h1 := sumIf_nonneg (p := p) k (fun i hi => h i (by omega))
    have h2 := h k (by omega)
    rw [sumIf]; split <;> omega
theorem sumIf_bound {g : Nat → Int} {p : Nat → Bool} (B : Int) (hB : 0 ≤ B) : ∀ k, (∀ i, i < k → g i ≤ B) → sumIf g p k ≤ k * B
  | 0, _ => by simp [sumIf]
  | k + 1, h => by
    have h1 := sumIf_bound (p := p) B hB k (fun i hi => h i (by omega))
    have h2 := h k (by omega)
    have e : ((k + 1 : Nat) : Int) * B = k * B + B := by rw [Int.natCast_add, Int.add_mul]; simp
    rw [sumIf, e]; split <;> omega

theorem mul_lt {a b c : Int} (h : a < b) (hc : 0 < c) : a * c < b * c := Int.mul_lt_mul_of_pos_right h hc
theorem mul_lt_iff {a b c : Int} (hc : 0 < c) : a * c < b * c ↔ a < b := ⟨fun h => Int.lt_of_mul_lt_mul_right h (by omega), fun h => mul_lt h hc⟩

section
variable (g e : Nat → Int)

/-- an outcome that both can come to -/
def live (k : Nat) : Bool := decide (0 < e k) && decide (0 < g k)
/-- its fraction -/
def key (k : Nat) : Int × Int := red (e k) (g k)
/-- it is above a threshold -/
def above (t : Int × Int) (k : Nat) : Bool := decide (0 < e k * t.2 - g k * t.1)
/-- less, as fractions -/
def lt (t u : Int × Int) : Prop := t.1 * u.2 < u.1 * t.2
/-- the Guess of a region -/
def regG (M : Nat) (t : Int × Int) : Int := sumIf g (above g e t) M
end

/-- a fraction in least terms, above 0 -/
structure Rd (t : Int × Int) : Prop where
  n : 0 < t.1
  d : 0 < t.2
  g : Int.gcd t.1 t.2 = 1

theorem gcd_pos {a b : Int} (hb : 0 < b) : 0 < (Int.gcd a b : Int) := by
  have : Int.gcd a b ≠ 0 := by
    intro h
    rw [Int.gcd_eq_zero_iff] at h
    omega
  omega

theorem red_mul {a b : Int} : (red a b).1 * (Int.gcd a b : Int) = a ∧ (red a b).2 * (Int.gcd a b : Int) = b :=
  ⟨Int.ediv_mul_cancel (Int.gcd_dvd_left ..), Int.ediv_mul_cancel (Int.gcd_dvd_right ..)⟩

theorem red_rd {a b : Int} (ha : 0 < a) (hb : 0 < b) : Rd (red a b) := by
  have hg := gcd_pos (a := a) hb
  obtain ⟨h1, h2⟩ := red_mul (a := a) (b := b)
  refine ⟨?_, ?_, ?_⟩
  · exact Int.pos_of_mul_pos_left (by rw [h1]; exact ha) hg
  · exact Int.pos_of_mul_pos_left (by rw [h2]; exact hb) hg
  · exact Int.gcd_ediv_gcd_ediv_gcd (by omega)

theorem dvd_cop {a b c : Int} (h : a ∣ b * c) (hg : Int.gcd a b = 1) : a ∣ c := by
  rw [← Int.natAbs_dvd_natAbs, Int.natAbs_mul] at h
  rw [← Int.natAbs_dvd_natAbs]
  exact Nat.Coprime.dvd_of_dvd_mul_left hg h

theorem rd_eq {t u : Int × Int} (ht : Rd t) (hu : Rd u) (h : t.1 * u.2 = u.1 * t.2) : t = u := by
  have h1 : t.1 ∣ u.1 := by
    have : t.1 ∣ t.2 * u.1 := ⟨u.2, by rw [Int.mul_comm t.2, ← h]⟩
    exact dvd_cop this ht.g
  have h2 : u.1 ∣ t.1 := by
    have : u.1 ∣ u.2 * t.1 := ⟨t.2, by rw [Int.mul_comm u.2, h]⟩
    exact dvd_cop this hu.g
  have e1 : t.1 = u.1 := Int.le_antisymm (Int.le_of_dvd hu.n h1) (Int.le_of_dvd ht.n h2)
  have e2 : u.2 = t.2 := by
    rw [e1] at h
    exact Int.eq_of_mul_eq_mul_left (by have := hu.n; omega) h
  exact Prod.ext e1 e2.symm

theorem lt_trans' {t u v : Int × Int} (ht : 0 < t.2) (hu : 0 < u.2) (hv : 0 < v.2) (h1 : lt t u) (h2 : lt u v) : lt t v := by
  unfold lt at *
  have a := mul_lt h1 hv
  have b := mul_lt h2 ht
  have c : t.1 * u.2 * v.2 < v.1 * u.2 * t.2 := by
    refine Int.lt_trans a ?_
    rw [show u.1 * t.2 * v.2 = u.1 * v.2 * t.2 by rw [Int.mul_assoc, Int.mul_comm t.2, ← Int.mul_assoc]]
    exact b
  rw [show t.1 * u.2 * v.2 = t.1 * v.2 * u.2 by rw [Int.mul_assoc, Int.mul_comm u.2, ← Int.mul_assoc], show v.1 * u.2 * t.2 = v.1 * t.2 * u.2 by rw [Int.mul_assoc, Int.mul_comm u.2, ← Int.mul_assoc]] at c
  exact (mul_lt_iff hu).1 c
theorem lt_irrefl' {t : Int × Int} : ¬ lt t t := fun h => by unfold lt at h; omega
theorem lt_tri {t u : Int × Int} (ht : Rd t) (hu : Rd u) : lt t u ∨ t = u ∨ lt u t := by
  rcases Int.lt_trichotomy (t.1 * u.2) (u.1 * t.2) with h | h | h
  · exact .inl h
  · exact .inr (.inl (rd_eq ht hu h))
  · exact .inr (.inr h)

variable {g e : Nat → Int}

theorem live_iff {k : Nat} : live g e k = true ↔ 0 < e k ∧ 0 < g k := by simp [live]
theorem key_rd {k : Nat} (h : live g e k = true) : Rd (key g e k) := by
  rw [live_iff] at h
  exact red_rd h.1 h.2

/-- above a threshold: the fraction is greater -/
theorem above_iff {k : Nat} {t : Int × Int} (h : 0 < g k) : above g e t k = true ↔ lt t (key g e k) := by
  have hg := gcd_pos (a := e k) h
  obtain ⟨h1, h2⟩ := red_mul (a := e k) (b := g k)
  unfold above lt key
  rw [decide_eq_true_eq]
  generalize (Int.gcd (e k) (g k) : Int) = d at *
  rw [← mul_lt_iff hg (a := t.1 * (red (e k) (g k)).2), Int.mul_assoc, h2, Int.mul_assoc, Int.mul_comm t.2, ← Int.mul_assoc, h1, Int.mul_comm t.1]
  omega

/-- the threshold of the strongest region -/
def IsBest (g e : Nat → Int) (M : Nat) (most : Int) (t : Int × Int) : Prop :=
  (t = (0, 1) ∧ regG g e M (0, 1) ≤ most) ∨
  (most < regG g e M (0, 1) ∧ (∃ k, k < M ∧ live g e k = true ∧ t = key g e k) ∧ regG g e M t ≤ most ∧ ∀ k, k < M → live g e k = true → lt (key g e k) t → most < regG g e M (key g e k))

theorem isBest_one {M : Nat} {most : Int} {t u : Int × Int} (ht : IsBest g e M most t) (hu : IsBest g e M most u) : t = u := by
  rcases ht with ⟨rfl, h1⟩ | ⟨h1, ⟨k, hk, hlk, rfl⟩, h2, h3⟩
  · rcases hu with ⟨rfl, _⟩ | ⟨h2, _⟩
    · rfl
    · omega
  · rcases hu with ⟨rfl, h4⟩ | ⟨_, ⟨j, hj, hlj, rfl⟩, h4, h5⟩
    · omega
    · rcases lt_tri (key_rd hlk) (key_rd hlj) with h | h | h
      · have := h5 k hk hlk h; omega
      · exact h
      · have := h3 j hj hlj h; omega

theorem above_zero {k : Nat} : above g e (0, 1) k = true ↔ 0 < e k := by simp [above]

/-- how far the search is: which fractions are left, what is taken -/
structure Search (g e : Nat → Int) (M : Nat) (most : Int) (lf : Int × Int → Bool) (taken : Int) : Prop where
  fk : ∀ r, lf r = true → ∃ k, k < M ∧ live g e k = true ∧ r = key g e k
  fd : ∀ k j, k < M → j < M → live g e k = true → live g e j = true → lt (key g e k) (key g e j) → lf (key g e j) = true → lf (key g e k) = true
  ft : taken = sumIf g (fun k => live g e k && !lf (key g e k)) M
  fm : taken ≤ most

variable {M : Nat} {most : Int} {lf : Int × Int → Bool} {taken : Int}

/-- the Guess of a fraction -/
def grp (g e : Nat → Int) (r : Int × Int) (M : Nat) : Int := sumIf g (fun k => live g e k && decide (key g e k = r)) M


theorem Search.start (hm : 0 ≤ most) (h : ∀ r, lf r = true ↔ ∃ k, k < M ∧ live g e k = true ∧ r = key g e k) : Search g e M most lf 0 := by
  refine ⟨fun r hr => (h r).1 hr, fun k j hk hj hlk hlj _ _ => (h _).2 ⟨k, hk, hlk, rfl⟩, ?_, hm⟩
  have : sumIf g (fun k => live g e k && !lf (key g e k)) M = sumIf g (fun _ => false) M := sumIf_congr M (fun i hi => by
    left
    cases hl : live g e i with
    | false => rfl
    | true => simp [(h (key g e i)).2 ⟨i, hi, hl, rfl⟩])
  rw [this]
  clear this h
  induction M with
  | zero => rfl
  | succ n ih => rw [sumIf, ← ih]; simp

/-- the greatest fraction that is left: the Guess of its region is what is taken -/
theorem Search.region (h : Search g e M most lf taken) (hg : ∀ k, k < M → 0 ≤ g k) {top : Int × Int} (ht : lf top = true) (hmax : ∀ r, lf r = true → ¬ lt top r) : regG g e M top = taken := by
  obtain ⟨j, hj, hlj, rfl⟩ := h.fk _ ht
  have hrt := key_rd hlj
  rw [h.ft]
  unfold regG
  refine sumIf_congr M fun i hi => ?_
  have hgi := hg i hi
  rcases Int.lt_or_eq_of_le hgi with hp | hp
  · left
    rw [Bool.eq_iff_iff, above_iff hp]
    simp only [Bool.and_eq_true, Bool.not_eq_true']
    constructor
    · intro hlt
      have he : 0 < e i := by
        have h1 : above g e (key g e j) i = true := (above_iff hp).2 hlt
        unfold above at h1
        rw [decide_eq_true_eq] at h1
        have h2 := Int.mul_pos hp hrt.n
        have h3 : 0 < e i * (key g e j).2 := by omega
        exact Int.pos_of_mul_pos_left h3 hrt.d
      refine ⟨live_iff.2 ⟨he, hp⟩, ?_⟩
      cases hc : lf (key g e i) with
      | false => rfl
      | true => exact absurd hlt (hmax _ hc)
    · rintro ⟨hli, hn⟩
      rcases lt_tri hrt (key_rd hli) with h1 | h1 | h1
      · exact h1
      · rw [h1, hn] at ht; cases ht
      · have := h.fd i j hi hj hli hlj h1 ht
        rw [hn] at this; cases this
  · exact .inr hp.symm

theorem Search.stop (h : Search g e M most lf taken) (hg : ∀ k, k < M → 0 ≤ g k) {top : Int × Int} (ht : lf top = true) (hmax : ∀ r, lf r = true → ¬ lt top r) (hgt : most < taken + grp g e top M) : IsBest g e M most top := by
  have hr := h.region hg ht hmax
  obtain ⟨j, hj, hlj, rfl⟩ := h.fk _ ht
  have hrt := key_rd hlj
  -- what is above or at the top
  have hsum : sumIf g (fun k => (decide (0 < g k) && above g e (key g e j) k) || (live g e k && decide (key g e k = key g e j))) M = taken + grp g e (key g e j) M := by
    rw [← hr]
    unfold regG grp
    rw [show sumIf g (above g e (key g e j)) M = sumIf g (fun k => decide (0 < g k) && above g e (key g e j) k) M from sumIf_congr M (fun i hi => by
      rcases Int.lt_or_eq_of_le (hg i hi) with hp | hp
      · left; simp [hp]
      · right; exact hp.symm)]
    refine sumIf_add M fun i hi => ⟨rfl, ?_⟩
    rw [Bool.eq_false_iff]
    intro hx
    simp only [Bool.and_eq_true, decide_eq_true_eq] at hx
    have := (above_iff hx.1.1).1 hx.1.2
    rw [hx.2.2] at this
    exact lt_irrefl' this
  have hall : ∀ t : Int × Int, (∀ k, k < M → 0 < g k → (above g e (key g e j) k = true ∨ (live g e k = true ∧ key g e k = key g e j)) → above g e t k = true) → most < regG g e M t := by
    intro t ht'
    have : sumIf g (fun k => (decide (0 < g k) && above g e (key g e j) k) || (live g e k && decide (key g e k = key g e j))) M ≤ regG g e M t := sumIf_le M hg (fun i hi hx => by
      simp only [Bool.or_eq_true, Bool.and_eq_true, decide_eq_true_eq] at hx
      rcases hx with hx | hx
      · exact ht' i hi hx.1 (.inl hx.2)
      · exact ht' i hi (live_iff.1 hx.1).2 (.inr hx))
    omega
  refine .inr ⟨?_, ⟨j, hj, hlj, rfl⟩, by rw [hr]; exact h.fm, fun k hk hlk hlt => ?_⟩
  · refine hall _ fun k hk hp hx => above_zero.2 ?_
    rcases hx with hx | hx
    · unfold above at hx
      rw [decide_eq_true_eq] at hx
      have h2 := Int.mul_pos hp hrt.n
      have h3 : 0 < e k * (key g e j).2 := by omega
      exact Int.pos_of_mul_pos_left h3 hrt.d
    · exact (live_iff.1 hx.1).1
  · refine hall _ fun i hi hp hx => (above_iff hp).2 ?_
    rcases hx with hx | hx
    · have h1 := (above_iff hp).1 hx
      have he : 0 < e i := by
        unfold above at hx
        rw [decide_eq_true_eq] at hx
        have h2 := Int.mul_pos hp hrt.n
        have h3 : 0 < e i * (key g e j).2 := by omega
        exact Int.pos_of_mul_pos_left h3 hrt.d
      exact lt_trans' (key_rd hlk).d hrt.d (key_rd (live_iff.2 ⟨he, hp⟩)).d hlt h1
    · rw [hx.2]; exact hlt

theorem Search.next (h : Search g e M most lf taken) {top : Int × Int} (ht : lf top = true) (hmax : ∀ r, lf r = true → ¬ lt top r) (hle : taken + grp g e top M ≤ most) :
    Search g e M most (fun r => lf r && !decide (r = top)) (taken + grp g e top M) := by
  refine ⟨fun r hr => h.fk r (by simp at hr; exact hr.1), fun k j hk hj hlk hlj hlt hl => ?_, ?_, hle⟩
  · simp only [Bool.and_eq_true, Bool.not_eq_true', decide_eq_false_iff_not] at hl ⊢
    refine ⟨h.fd k j hk hj hlk hlj hlt hl.1, fun hx => hmax _ hl.1 (hx ▸ hlt)⟩
  · rw [h.ft]
    unfold grp
    refine (sumIf_add M fun i hi => ⟨?_, ?_⟩).symm
    · cases live g e i <;> cases hl : lf (key g e i) <;> simp
    · cases live g e i <;> cases hl : lf (key g e i) <;> simp
      intro hx
      rw [hx, ht] at hl
      cases hl

theorem Search.all (h : Search g e M most lf taken) (hg : ∀ k, k < M → 0 ≤ g k) (he : ∀ r, lf r = false) : IsBest g e M most (0, 1) := by
  refine .inl ⟨rfl, ?_⟩
  have : regG g e M (0, 1) = taken := by
    rw [h.ft]
    refine sumIf_congr M fun i hi => ?_
    rcases Int.lt_or_eq_of_le (hg i hi) with hp | hp
    · left
      rw [Bool.eq_iff_iff, above_zero]
      simp [live, he, hp]
    · exact .inr hp.symm
  rw [this]; exact h.fm

end Go.Proofs.Ytcmllkjgggcghaa
