/- UMath UMath2 UBase -/
import Derived.Test.YtminplfgadhnnaaGreatDoorRows
import Derived.WalkKit
import Derived.WalkSpells
import Derived.WalkLawsBesides
import Derived.Lib.Hide
import Derived.Shelf.Abstract
import Derived.Deep.QuietTactic
import Derived.BigQuiet

section
set_option linter.unusedSimpArgs false
set_option linter.unusedVariables false
namespace Um

/-- the path of the simplest fraction from a / b to c / d -/
def sp : Nat → Int → Int → Int → Int → List Int
  | 0, _, _, _, _ => []
  | k + 1, a, b, c, d =>
    if a % b = 0 then [a / b]
    else if (a / b + 1) * d ≤ c then [a / b + 1]
    else a / b :: sp k d (c - a / b * d) b (a % b)

/-- the fraction of a path -/
def ev : List Int → Int × Int
  | [] => (1, 0)
  | x :: l => (x * (ev l).1 + (ev l).2, (ev l).1)

def Good (a b c d : Int) (l : List Int) : Prop :=
  0 < (ev l).1 ∧ 0 < (ev l).2 ∧ a * (ev l).2 ≤ (ev l).1 * b ∧ (ev l).1 * d ≤ c * (ev l).2 ∧
  ∀ x y, 0 < x → 0 < y → a * y ≤ x * b → x * d ≤ c * y → (ev l).2 ≤ y ∧ (ev l).1 ≤ x

theorem lt_of_mul_lt {a b c : Int} (hb : 0 < b) (h : a * b < c * b) : a < c := by
  by_cases h1 : a < c
  · exact h1
  · have h1 : c ≤ a := by omega
    have := Int.mul_le_mul_of_nonneg_right h1 (Int.le_of_lt hb); omega

theorem le_of_mul_le {a b c : Int} (hb : 0 < b) (h : a * b ≤ c * b) : a ≤ c := by
  by_cases h1 : c < a
  · have := Int.mul_lt_mul_of_pos_right h1 hb; omega
  · omega

theorem gcd_step (p q : Int) (hp : 0 ≤ p) (hq : 0 < q) : Int.gcd q (p % q) = Int.gcd p q := by
  obtain ⟨m, rfl⟩ := Int.eq_ofNat_of_zero_le hp
  obtain ⟨n, rfl⟩ := Int.eq_ofNat_of_zero_le (Int.le_of_lt hq)
  show Nat.gcd n (m % n) = Nat.gcd m n
  rw [Nat.gcd_comm m n, Nat.gcd_rec n m, Nat.gcd_comm]

/-- the place of the first element that p holds of, or -1 -/
def idx {α : Type} (p : α → Bool) : List α → Int
  | [] => -1
  | x :: l => if p x then 0 else if idx p l < 0 then -1 else idx p l + 1

theorem idx_any {α : Type} (p : α → Bool) (l : List α) : decide (0 ≤ idx p l) = l.any p := by
  induction l with
  | nil => rfl
  | cons x l ih =>
    simp only [idx, List.any_cons, ← ih]
    by_cases h : p x <;> simp [h]
    by_cases h2 : idx p l < 0 <;> simp [h2] <;> omega

theorem idx_at {α : Type} (p : α → Bool) (k : Nat) : ∀ (l : List α) (x : α), (∀ i y, i < k → l[i]? = some y → p y = false) → l[k]? = some x → p x = true → idx p l = k := by
  induction k with
  | zero =>
    intro l x _ hx hp
    cases l with
    | nil => simp at hx
    | cons y l => simp at hx; subst hx; simp [idx, hp]
  | succ k ih =>
    intro l x h hx hp
    cases l with
    | nil => simp at hx
    | cons y l =>
      have h0 := h 0 y (by omega) rfl
      have := ih l x (fun i z hi hz => h (i + 1) z (by omega) (by simpa using hz)) (by simpa using hx) hp
      simp only [idx, h0, this]
      simp
      omega

theorem idx_none {α : Type} (p : α → Bool) (l : List α) (h : ∀ x ∈ l, p x = false) : idx p l = -1 := by
  induction l with
  | nil => rfl
  | cons x l ih =>
    have := ih (fun y hy => h y (List.mem_cons_of_mem _ hy))
    simp [idx, h x (List.mem_cons_self), this]

theorem sp_good : ∀ (k : Nat) (a b c d : Int), 0 < a → 0 < b → 0 < c → 0 < d → a * d ≤ c * b → b + d ≤ k → Good a b c d (sp k a b c d) := by
  intro k
  induction k with
  | zero => intro a b c d ha hb hc hd _ hk; omega
  | succ k ih =>
    intro a b c d ha hb hc hd hle hk
    have hdm := Int.mul_ediv_add_emod a b
    have hr0 := Int.emod_nonneg a (b := b) (by omega)
    have hr1 := Int.emod_lt_of_pos a hb
    have hw0 : 0 ≤ a / b := Int.ediv_nonneg (by omega) (by omega)
    unfold sp
    generalize hw : a / b = w at *
    generalize hr : a % b = r at *
    have hac : a = w * b + r := by rw [Int.mul_comm w b]; omega
    split
    · rename_i h0
      subst h0
      have hwp : 0 < w := by
        by_cases h : 0 < w
        · exact h
        · have : w = 0 := by omega
          subst this; omega
      have hwd : w * d ≤ c := by
        apply le_of_mul_le hb
        have : w * d * b = a * d := by rw [hac]; simp only [Int.add_zero, Int.mul_assoc, Int.mul_comm, Int.mul_left_comm]
        omega
      refine ⟨?_, ?_, ?_, ?_, ?_⟩ <;> simp only [ev, Int.mul_one, Int.add_zero]
      · exact hwp
      · omega
      · omega
      · exact hwd
      · intro x y hx hy h1 _
        refine ⟨by omega, ?_⟩
        apply le_of_mul_le hb
        have : a * 1 ≤ a * y := Int.mul_le_mul_of_nonneg_left (by omega) (by omega)
        omega
    · rename_i h0
      split
      · rename_i h1
        refine ⟨?_, ?_, ?_, ?_, ?_⟩ <;> simp only [ev, Int.mul_one, Int.add_zero]
        · omega
        · omega
        · rw [Int.add_mul]; omega
        · exact h1
        · intro x y hx hy h2 _
          refine ⟨by omega, ?_⟩
          have : a * 1 ≤ a * y := Int.mul_le_mul_of_nonneg_left (by omega) (by omega)
          have : w < x := lt_of_mul_lt hb (by omega)
          omega
      · rename_i h1
        have hrp : 0 < r := by omega
        have hwd : w * d < c := by
          apply lt_of_mul_lt hb
          have e : a * d = w * d * b + r * d := by rw [hac]; simp only [Int.add_mul, Int.mul_add, Int.mul_assoc, Int.mul_comm, Int.mul_left_comm]
          have : 0 < r * d := Int.mul_pos hrp hd
          omega
        have hlt : c < w * d + d := by rw [Int.add_mul] at h1; omega
        have key : d * r ≤ b * (c - w * d) := by
          have e : a * d = b * (w * d) + d * r := by rw [hac]; simp only [Int.add_mul, Int.mul_add, Int.mul_assoc, Int.mul_comm, Int.mul_left_comm]
          rw [Int.mul_sub]; rw [Int.mul_comm c b] at hle; omega
        obtain ⟨g1, g2, g3, g4, g5⟩ := ih d (c - w * d) b r hd (by omega) hb hrp key (by omega)
        generalize sp k d (c - w * d) b r = l at *
        generalize hn : (ev l).1 = n at *
        generalize hm : (ev l).2 = m at *
        have e1 : a * n = w * n * b + n * r := by rw [hac]; simp only [Int.add_mul, Int.mul_add, Int.mul_assoc, Int.mul_comm, Int.mul_left_comm]
        refine ⟨?_, ?_, ?_, ?_, ?_⟩ <;> simp only [ev, hn, hm]
        · have := Int.mul_nonneg hw0 (Int.le_of_lt g1); omega
        · exact g1
        · rw [Int.add_mul, e1]; rw [Int.mul_comm b m] at g4; omega
        · rw [Int.mul_sub] at g3
          rw [Int.add_mul]
          have e2 : n * (w * d) = w * n * d := by simp only [Int.mul_assoc, Int.mul_comm, Int.mul_left_comm]
          rw [Int.mul_comm d m] at g3; rw [Int.mul_comm c n]; omega
        · intro x y hx hy h2 h3
          have hwy : w * y < x := by
            apply lt_of_mul_lt hb
            have e3 : a * y = w * y * b + r * y := by rw [hac]; simp only [Int.add_mul, Int.mul_add, Int.mul_assoc, Int.mul_comm, Int.mul_left_comm]
            have : 0 < r * y := Int.mul_pos hrp hy
            omega
          have := g5 y (x - w * y) hy (by omega) (by
            rw [Int.mul_sub, Int.mul_sub]
            have e4 : d * (w * y) = y * (w * d) := by simp only [Int.mul_assoc, Int.mul_comm, Int.mul_left_comm]
            rw [Int.mul_comm d x, Int.mul_comm y c]; omega) (by
            rw [Int.mul_sub]
            have e3 : a * y = b * (w * y) + y * r := by rw [hac]; simp only [Int.add_mul, Int.mul_add, Int.mul_assoc, Int.mul_comm, Int.mul_left_comm]
            rw [Int.mul_comm b x]; omega)
          refine ⟨this.2, ?_⟩
          have : w * n ≤ w * y := Int.mul_le_mul_of_nonneg_left this.2 hw0
          omega

/-- a step on a path: both numbers of a fraction, and of the one before it -/
abbrev St := Int × Int × Int × Int
def on (s : St) (n : Int) : St := (n * s.1 + s.2.2.1, n * s.2.1 + s.2.2.2, s.1, s.2.1)
def fw (s : St) : List Int → St
  | [] => s
  | n :: l => fw (on s n) l
def first : St := (1, 0, 0, 1)

theorem fw_ev (l : List Int) : ∀ s : St, (fw s l).1 = s.1 * (ev l).1 + s.2.2.1 * (ev l).2 ∧ (fw s l).2.1 = s.2.1 * (ev l).1 + s.2.2.2 * (ev l).2 := by
  induction l with
  | nil => intro s; simp [fw, ev]
  | cons n l ih =>
    intro s
    simp only [fw, ev, ih, on]
    simp only [Int.add_mul, Int.mul_add, Int.mul_assoc, Int.mul_comm, Int.mul_left_comm]
    omega

theorem fw_first (l : List Int) : (fw first l).1 = (ev l).1 ∧ (fw first l).2.1 = (ev l).2 := by
  have := fw_ev l first
  simp [first] at this
  exact this

/-- the determinant of a step: 1 or -1 -/
def det (s : St) : Int := s.1 * s.2.2.2 - s.2.2.1 * s.2.1
theorem det_on (s : St) (n : Int) : det (on s n) = - det s := by
  simp only [det, on, Int.add_mul, Int.mul_add, Int.mul_assoc, Int.mul_comm, Int.mul_left_comm]
  omega
theorem det_fw (l : List Int) : ∀ s, det s = 1 ∨ det s = -1 → det (fw s l) = 1 ∨ det (fw s l) = -1 := by
  induction l with
  | nil => intro s h; exact h
  | cons n l ih => intro s h; exact ih _ (by rw [det_on]; omega)
theorem det_first (l : List Int) : det (fw first l) = 1 ∨ det (fw first l) = -1 := det_fw l first (Or.inl (by decide))

theorem gcd_of_det {p q u v : Int} (h : p * v - u * q = 1 ∨ p * v - u * q = -1) : Int.gcd p q = 1 := by
  have h1 : (Int.gcd p q : Int) ∣ p * v - u * q := Int.dvd_sub (Int.dvd_trans (Int.gcd_dvd_left ..) (Int.dvd_mul_right ..)) (Int.dvd_trans (Int.gcd_dvd_right ..) (Int.dvd_mul_left ..))
  have h2 : (Int.gcd p q : Int) ∣ 1 := by
    rcases h with h | h
    · rwa [h] at h1
    · rw [h] at h1; simpa using h1
  have := Int.le_of_dvd (by decide) h2
  have h0 : Int.gcd p q ≠ 0 := by
    intro h0
    rw [h0] at h2
    simp at h2
  omega

theorem ev_gcd (l : List Int) : Int.gcd (ev l).1 (ev l).2 = 1 := by
  have := det_first l
  rw [← (fw_first l).1, ← (fw_first l).2]
  exact gcd_of_det this

/-- numbers from 1 on, the last one from 2 on -/
def tailOk : List Int → Prop
  | [] => False
  | [x] => 2 ≤ x
  | x :: y :: l => 1 ≤ x ∧ tailOk (y :: l)
/-- the numbers of a path -/
def canon : List Int → Prop
  | [] => False
  | [x] => 1 ≤ x
  | x :: y :: l => 0 ≤ x ∧ tailOk (y :: l)

theorem tailOk_ev : ∀ l, tailOk l → 0 < (ev l).2 ∧ (ev l).2 < (ev l).1
  | [], h => by simp [tailOk] at h
  | [x], h => by simp [tailOk] at h; simp [ev]; omega
  | x :: y :: l, h => by
    have ih := tailOk_ev (y :: l) h.2
    have hx := h.1
    have : 1 * (ev (y :: l)).1 ≤ x * (ev (y :: l)).1 := Int.mul_le_mul_of_nonneg_right hx (by omega)
    show 0 < (ev (y :: l)).1 ∧ (ev (y :: l)).1 < x * (ev (y :: l)).1 + (ev (y :: l)).2
    omega

/-- the path of a fraction -/
def eu : Nat → Int → Int → List Int
  | 0, _, _ => []
  | k + 1, n, d => if d = 0 then [] else n / d :: eu k d (n % d)

theorem tail_len : ∀ l, tailOk l → (2 ^ ((l.length + 1) / 2) : Int) ≤ (ev l).1
  | [], h => by simp [tailOk] at h
  | [x], h => by simp [tailOk] at h; simp [ev]; omega
  | [x, y], h => by
    simp [tailOk] at h
    have : 1 * 2 ≤ x * y := Int.mul_le_mul h.1 h.2 (by omega) (by omega)
    simp [ev]; omega
  | x :: y :: z :: l, h => by
    have h2 := h.2
    have ih := tail_len (z :: l) h2.2
    have e1 := tailOk_ev (z :: l) h2.2
    have m1 : 1 * (ev (y :: z :: l)).1 ≤ x * (ev (y :: z :: l)).1 := Int.mul_le_mul_of_nonneg_right h.1 (by have := tailOk_ev _ h2; omega)
    have m2 : 1 * (ev (z :: l)).1 ≤ y * (ev (z :: l)).1 := Int.mul_le_mul_of_nonneg_right h2.1 (by omega)
    have e3 : (ev (x :: y :: z :: l)).1 = x * (ev (y :: z :: l)).1 + (ev (z :: l)).1 := rfl
    have e4 : (ev (y :: z :: l)).1 = y * (ev (z :: l)).1 + (ev (z :: l)).2 := rfl
    have e5 : ((x :: y :: z :: l).length + 1) / 2 = ((z :: l).length + 1) / 2 + 1 := by simp; omega
    rw [e5, Int.pow_succ]
    omega

theorem pow_lt_inv {m : Nat} (h : (2 ^ m : Int) ≤ 1000000000) : m < 30 := by
  by_cases hm : m < 30
  · exact hm
  · have h1 : (2 : Int) ^ 30 ≤ 2 ^ m := by
      have : (2 : Nat) ^ 30 ≤ 2 ^ m := Nat.pow_le_pow_right (by decide) (by omega)
      exact_mod_cast this
    have h2 : (2 : Int) ^ 30 = 1073741824 := by decide
    omega

theorem tail_len60 (l : List Int) (h : tailOk l) (hb : (ev l).1 ≤ 1000000000) : l.length ≤ 59 := by
  have := pow_lt_inv (Int.le_trans (tail_len l h) hb)
  omega

theorem canon_len (l : List Int) (h : canon l) (hb : (ev l).2 ≤ 1000000000) : l.length ≤ 60 := by
  match l, h with
  | [x], _ => simp
  | x :: y :: l, h => have := tail_len60 (y :: l) h.2 hb; simp at this ⊢; omega

/-- the path of the simplest fraction is one -/
theorem sp_tailOk : ∀ (k : Nat) (a b c d : Int), 0 < b → 0 < d → b < a → a * d ≤ c * b → b + d ≤ k → tailOk (sp k a b c d) := by
  intro k
  induction k with
  | zero => intro a b c d hb hd _ _ hk; omega
  | succ k ih =>
    intro a b c d hb hd hab hle hk
    have hdm := Int.mul_ediv_add_emod a b
    have hr0 := Int.emod_nonneg a (b := b) (by omega)
    have hr1 := Int.emod_lt_of_pos a hb
    have hw : 1 ≤ a / b := (Int.le_ediv_iff_mul_le hb).2 (by omega)
    unfold sp
    generalize a / b = w at *
    generalize a % b = r at *
    have hac : a = w * b + r := by rw [Int.mul_comm w b]; omega
    split
    · rename_i h0
      simp [tailOk]
      by_cases h1 : w = 1
      · subst h1; omega
      · omega
    · rename_i h0
      split
      · simp [tailOk]; omega
      · rename_i h1
        have hrp : 0 < r := by omega
        have hwd : w * d < c := by
          apply lt_of_mul_lt hb
          have e : a * d = w * d * b + r * d := by rw [hac]; simp only [Int.add_mul, Int.mul_add, Int.mul_assoc, Int.mul_comm, Int.mul_left_comm]
          have : 0 < r * d := Int.mul_pos hrp hd
          omega
        have hlt : c < w * d + d := by rw [Int.add_mul] at h1; omega
        have key : d * r ≤ b * (c - w * d) := by
          have e : a * d = b * (w * d) + d * r := by rw [hac]; simp only [Int.add_mul, Int.mul_add, Int.mul_assoc, Int.mul_comm, Int.mul_left_comm]
          rw [Int.mul_sub]; rw [Int.mul_comm c b] at hle; omega
        have := ih d (c - w * d) b r (by omega) hrp (by omega) key (by omega)
        cases he : sp k d (c - w * d) b r with
        | nil => rw [he] at this; exact this.elim
        | cons y l => rw [he] at this; exact ⟨hw, this⟩

theorem sp_canon : ∀ (k : Nat) (a b c d : Int), 0 < a → 0 < b → 0 < d → a * d ≤ c * b → b + d ≤ k → canon (sp k a b c d) := by
  intro k a b c d ha hb hd hle hk
  obtain ⟨k, rfl⟩ : ∃ j, k = j + 1 := ⟨k - 1, by omega⟩
  have hdm := Int.mul_ediv_add_emod a b
  have hr0 := Int.emod_nonneg a (b := b) (by omega)
  have hr1 := Int.emod_lt_of_pos a hb
  have hw : 0 ≤ a / b := Int.ediv_nonneg (by omega) (by omega)
  unfold sp
  generalize a / b = w at *
  generalize a % b = r at *
  have hac : a = w * b + r := by rw [Int.mul_comm w b]; omega
  split
  · rename_i h0
    simp [canon]
    by_cases h1 : w = 0
    · subst h1; omega
    · omega
  · rename_i h0
    split
    · simp [canon]; omega
    · rename_i h1
      have hrp : 0 < r := by omega
      have hwd : w * d < c := by
        apply lt_of_mul_lt hb
        have e : a * d = w * d * b + r * d := by rw [hac]; simp only [Int.add_mul, Int.mul_add, Int.mul_assoc, Int.mul_comm, Int.mul_left_comm]
        have : 0 < r * d := Int.mul_pos hrp hd
        omega
      have hlt : c < w * d + d := by rw [Int.add_mul] at h1; omega
      have key : d * r ≤ b * (c - w * d) := by
        have e : a * d = b * (w * d) + d * r := by rw [hac]; simp only [Int.add_mul, Int.mul_add, Int.mul_assoc, Int.mul_comm, Int.mul_left_comm]
        rw [Int.mul_sub]; rw [Int.mul_comm c b] at hle; omega
      have := sp_tailOk k d (c - w * d) b r (by omega) hrp (by omega) key (by omega)
      cases he : sp k d (c - w * d) b r with
      | nil => rw [he] at this; exact this.elim
      | cons y l => rw [he] at this; exact ⟨hw, this⟩

/-- both numbers of a step are within the limit -/
def inl (s : St) : Bool := decide (0 ≤ s.1 ∧ s.1 ≤ 1000000000 ∧ 0 ≤ s.2.1 ∧ s.2.1 ≤ 1000000000)

/-- the steps that a path yields -/
def stepsL (s : St) : List Int → List St
  | [] => []
  | n :: l => if 1000000000 < n then [] else if inl (on s n) = true then on s n :: stepsL (on s n) l else []

theorem ev_pos : ∀ l : List Int, (∀ x ∈ l, 1 ≤ x) → 1 ≤ (ev l).1 ∧ 0 ≤ (ev l).2 := by
  intro l
  induction l with
  | nil => intro _; simp [ev]
  | cons x l ih =>
    intro h
    have h1 := ih (fun y hy => h y (List.mem_cons_of_mem _ hy))
    have hx := h x (List.mem_cons_self)
    have : 1 * (ev l).1 ≤ x * (ev l).1 := Int.mul_le_mul_of_nonneg_right hx (by omega)
    simp only [ev]; omega

theorem fw_ge (l : List Int) : ∀ s : St, (∀ x ∈ l, 1 ≤ x) → 0 ≤ s.1 → 0 ≤ s.2.1 → 0 ≤ s.2.2.1 → 0 ≤ s.2.2.2 → s.1 ≤ (fw s l).1 ∧ s.2.1 ≤ (fw s l).2.1 := by
  intro s hl h1 h2 h3 h4
  obtain ⟨e1, e2⟩ := fw_ev l s
  obtain ⟨p1, p2⟩ := ev_pos l hl
  have a1 : s.1 * 1 ≤ s.1 * (ev l).1 := Int.mul_le_mul_of_nonneg_left p1 h1
  have a2 : s.2.1 * 1 ≤ s.2.1 * (ev l).1 := Int.mul_le_mul_of_nonneg_left p1 h2
  have a3 := Int.mul_nonneg h3 p2
  have a4 := Int.mul_nonneg h4 p2
  omega

theorem stepsL_all (l : List Int) : ∀ s : St, (∀ x ∈ l, 1 ≤ x) → 0 ≤ s.1 → 1 ≤ s.2.1 → 0 ≤ s.2.2.1 → 0 ≤ s.2.2.2 → (fw s l).1 ≤ 1000000000 → (fw s l).2.1 ≤ 1000000000 →
    (stepsL s l).length = l.length ∧ (stepsL s l).getLastD s = fw s l := by
  induction l with
  | nil => intro s _ _ _ _ _ _ _; simp [stepsL, fw]
  | cons n l ih =>
    intro s hl h1 h2 h3 h4 hf1 hf2
    have hn := hl n (List.mem_cons_self)
    have hl' : ∀ x ∈ l, 1 ≤ x := fun y hy => hl y (List.mem_cons_of_mem _ hy)
    have o1 : 0 ≤ (on s n).1 := by have := Int.mul_nonneg (by omega : 0 ≤ n) h1; simp only [on]; omega
    have m2 : n * 1 ≤ n * s.2.1 := Int.mul_le_mul_of_nonneg_left h2 (by omega)
    have o2 : n ≤ (on s n).2.1 := by simp only [on]; omega
    obtain ⟨g1, g2⟩ := fw_ge l (on s n) hl' o1 (by omega) h1 (by have : (on s n).2.2.2 = s.2.1 := rfl; omega)
    have e : fw s (n :: l) = fw (on s n) l := rfl
    rw [e] at hf1 hf2 ⊢
    have hin : inl (on s n) = true := by simp only [inl, decide_eq_true_eq]; omega
    obtain ⟨i1, i2⟩ := ih (on s n) hl' o1 (by omega) h1 (by have : (on s n).2.2.2 = s.2.1 := rfl; omega) hf1 hf2
    rw [stepsL, if_neg (by omega), if_pos hin]
    refine ⟨by simp [i1], ?_⟩
    rw [List.getLastD_cons]
    exact i2

theorem stepsL_in (l : List Int) : ∀ s : St, (stepsL s l).length = l.length → l ≠ [] → (fw s l).1 ≤ 1000000000 ∧ (fw s l).2.1 ≤ 1000000000 ∧ (stepsL s l).getLastD s = fw s l := by
  induction l with
  | nil => intro s _ h; exact absurd rfl h
  | cons n l ih =>
    intro s h _
    rw [stepsL] at h ⊢
    split at h
    · simp at h
    · rename_i hn
      split at h
      · rename_i hin
        rw [if_neg hn, if_pos hin, List.getLastD_cons]
        have e : fw s (n :: l) = fw (on s n) l := rfl
        rw [e]
        cases l with
        | nil =>
          simp only [inl, decide_eq_true_eq] at hin
          simp [stepsL, fw]; omega
        | cons m l => exact ih (on s n) (by simpa using h) (by simp)
      · simp at h

/-- all steps of a path with numbers from 1 on (the first one from 0 on) are within the limit just if its fraction is -/
theorem steps_first (l : List Int) (hne : l ≠ []) (h0 : ∀ x, l.head? = some x → 0 ≤ x) (h1 : ∀ x ∈ l.tail, 1 ≤ x) :
    (stepsL first l).length = l.length ↔ (ev l).1 ≤ 1000000000 ∧ (ev l).2 ≤ 1000000000 := by
  obtain ⟨f1, f2⟩ := fw_first l
  constructor
  · intro h
    obtain ⟨a, b, _⟩ := stepsL_in l first h hne
    omega
  · rintro ⟨a, b⟩
    cases l with
    | nil => exact absurd rfl hne
    | cons x l =>
      have hx := h0 x rfl
      have e : on first x = (x, 1, 1, 0) := by simp [on, first]
      have e2 : fw first (x :: l) = fw (x, 1, 1, 0) l := by rw [fw, e]
      rw [e2] at f1 f2
      obtain ⟨g1, g2⟩ := fw_ge l (x, 1, 1, 0) h1 hx (by simp) (by simp) (by simp)
      have hin : inl (x, 1, 1, 0) = true := by simp only [inl, decide_eq_true_eq]; simp at g1; omega
      rw [stepsL, e, if_neg (by simp at g1; omega), if_pos hin]
      have := (stepsL_all l (x, 1, 1, 0) h1 hx (by simp) (by simp) (by simp) (by omega) (by omega)).1
      simp [this]

/-- the last step of a path whose fraction is within the limit -/
theorem last_first (l : List Int) (hne : l ≠ []) (h0 : ∀ x, l.head? = some x → 0 ≤ x) (h1 : ∀ x ∈ l.tail, 1 ≤ x) (a : (ev l).1 ≤ 1000000000) (b : (ev l).2 ≤ 1000000000) :
    (stepsL first l).getLastD first = fw first l :=
  (stepsL_in l first ((steps_first l hne h0 h1).2 ⟨a, b⟩) hne).2.2

theorem tailOk_ge : ∀ l, tailOk l → ∀ x ∈ l, 1 ≤ x
  | [], h => by simp [tailOk] at h
  | [x], h => by simp [tailOk] at h; intro y hy; simp at hy; omega
  | x :: y :: l, h => by
    intro z hz
    rcases List.mem_cons.1 hz with rfl | hz
    · exact h.1
    · exact tailOk_ge (y :: l) h.2 z hz

theorem canon_ge (l : List Int) (h : canon l) : l ≠ [] ∧ (∀ x, l.head? = some x → 0 ≤ x) ∧ ∀ x ∈ l.tail, 1 ≤ x := by
  match l, h with
  | [x], h => simp [canon] at h; simp; omega
  | x :: y :: l, h => exact ⟨by simp, fun z hz => by simp at hz; have := h.1; omega, fun z hz => tailOk_ge _ h.2 z hz⟩

/-- numbers can be a path -/
def tailB : List Int → Bool
  | [] => false
  | [x] => decide (2 ≤ x)
  | x :: y :: l => decide (1 ≤ x) && tailB (y :: l)
def pathB : List Int → Bool
  | [] => false
  | [x] => decide (1 ≤ x)
  | x :: y :: l => decide (0 ≤ x) && tailB (y :: l)
/-- the simplest fraction of a span -/
structure Simp (a b c d n m : Int) : Prop where
  n0 : 0 < n
  m0 : 0 < m
  lo : a * m ≤ n * b
  hi : n * d ≤ c * m
  min : ∀ x y, 0 < x → 0 < y → a * y ≤ x * b → x * d ≤ c * y → m ≤ y ∧ n ≤ x

theorem sp_simp (k : Nat) (a b c d : Int) (ha : 0 < a) (hb : 0 < b) (hc : 0 < c) (hd : 0 < d) (h : a * d ≤ c * b) (hk : b + d ≤ k) : Simp a b c d (ev (sp k a b c d)).1 (ev (sp k a b c d)).2 := by
  obtain ⟨h1, h2, h3, h4, h5⟩ := sp_good k a b c d ha hb hc hd h hk
  exact ⟨h1, h2, h3, h4, h5⟩

theorem Simp.add {a b c d n m t : Int} (h : Simp a b c d n m) (ha : 0 < a) (hb : 0 < b) (ht : 0 ≤ t) : Simp (a + t * b) b (c + t * d) d (n + t * m) m := by
  have h3 := h.lo
  have h4 := h.hi
  have hm := Int.mul_nonneg ht (Int.le_of_lt h.m0)
  have hn := h.n0
  refine ⟨by omega, h.m0, ?_, ?_, ?_⟩
  · simp only [Int.add_mul, Int.mul_add, Int.mul_assoc, Int.mul_comm, Int.mul_left_comm] at *; omega
  · simp only [Int.add_mul, Int.mul_add, Int.mul_assoc, Int.mul_comm, Int.mul_left_comm] at *; omega
  · intro x y hx hy h1 h2
    have e1 : (x - t * y) * b = x * b - t * b * y := by simp only [Int.sub_mul, Int.mul_sub, Int.mul_assoc, Int.mul_comm, Int.mul_left_comm]
    have e2 : (x - t * y) * d = x * d - t * d * y := by simp only [Int.sub_mul, Int.mul_sub, Int.mul_assoc, Int.mul_comm, Int.mul_left_comm]
    rw [Int.add_mul] at h1 h2
    have hay := Int.mul_pos ha hy
    have hp : 0 < x - t * y := by
      by_cases hp : 0 < x - t * y
      · exact hp
      · have : (x - t * y) * b ≤ 0 * b := Int.mul_le_mul_of_nonneg_right (by omega) (by omega)
        omega
    have := h.min (x - t * y) y hp hy (by omega) (by omega)
    have h7 := Int.mul_le_mul_of_nonneg_left this.1 ht
    omega

/-- both numbers of the step before, and what is left of the last one, are from 0 on -/
theorem fw_parts (l : List Int) : ∀ s : St, (∀ x ∈ l, 1 ≤ x) → 0 ≤ s.2.2.1 → 0 ≤ s.2.2.2 → s.2.2.1 ≤ s.1 → s.2.2.2 ≤ s.2.1 →
    0 ≤ (fw s l).2.2.1 ∧ 0 ≤ (fw s l).2.2.2 ∧ (fw s l).2.2.1 ≤ (fw s l).1 ∧ (fw s l).2.2.2 ≤ (fw s l).2.1 := by
  induction l with
  | nil => intro s _ h1 h2 h3 h4; exact ⟨h1, h2, h3, h4⟩
  | cons n l ih =>
    intro s hl h1 h2 h3 h4
    have hn := hl n (List.mem_cons_self)
    have m1 : 1 * s.1 ≤ n * s.1 := Int.mul_le_mul_of_nonneg_right hn (by omega)
    have m2 : 1 * s.2.1 ≤ n * s.2.1 := Int.mul_le_mul_of_nonneg_right hn (by omega)
    exact ih (on s n) (fun y hy => hl y (List.mem_cons_of_mem _ hy)) (by simp only [on]; omega) (by simp only [on]; omega) (by simp only [on]; omega) (by simp only [on]; omega)

theorem canon_parts (l : List Int) (h : canon l) : 0 ≤ (fw first l).2.2.1 ∧ 0 ≤ (fw first l).2.2.2 ∧ (fw first l).2.2.1 ≤ (fw first l).1 ∧ (fw first l).2.2.2 ≤ (fw first l).2.1 := by
  match l, h with
  | [x], h => simp [canon] at h; simp [fw, on, first]; omega
  | x :: y :: l, h =>
    have hx := h.1
    have hl := tailOk_ge (y :: l) h.2
    have hy := hl y (List.mem_cons_self)
    have e : fw first (x :: y :: l) = fw (y * x + 1, y * 1 + 0, x, 1) l := by simp [fw, on, first]
    rw [e]
    have : 1 * x ≤ y * x := Int.mul_le_mul_of_nonneg_right hy hx
    exact fw_parts l _ (fun z hz => hl z (List.mem_cons_of_mem _ hz)) hx (by simp) (by simp only; omega) (by simp only; omega)

/-- a right proof: two neighbours, one below and one above the span -/
def ProofOk (a b c d l1 l2 r1 r2 : Int) : Prop := 0 ≤ l1 ∧ 1 ≤ l2 ∧ 1 ≤ r1 ∧ 0 ≤ r2 ∧ l1 * b < a * l2 ∧ c * r2 < r1 * d ∧ l2 * r1 - l1 * r2 = 1

/-- two neighbours of which the simplest fraction is made prove it -/
theorem parts_proof {a b c d n m l1 l2 r1 r2 : Int} (h : Simp a b c d n m) (ha : 0 < a) (hb : 0 < b) (hc : 0 < c) (hd : 0 < d) (h1 : 0 ≤ l1) (h2 : 0 ≤ l2) (h3 : 0 ≤ r1) (h4 : 0 ≤ r2)
    (hn : l1 + r1 = n) (hm : l2 + r2 = m) (hdet : l2 * r1 - l1 * r2 = 1) : ProofOk a b c d l1 l2 r1 r2 := by
  have hn0 := h.n0
  have hm0 := h.m0
  have hl2 : 1 ≤ l2 := by
    by_cases hz : l2 = 0
    · subst hz
      have := Int.mul_nonneg h1 h4
      omega
    · omega
  have hr1 : 1 ≤ r1 := by
    by_cases hz : r1 = 0
    · subst hz
      have := Int.mul_nonneg h1 h4
      omega
    · omega
  subst hn hm
  have lo := h.lo
  have hi := h.hi
  refine ⟨h1, hl2, hr1, h4, ?_, ?_, hdet⟩
  · by_cases hlt : l1 * b < a * l2
    · exact hlt
    · have hge : a * l2 ≤ l1 * b := by omega
      have hpos := Int.mul_pos ha (by omega : 0 < l2)
      have hl1 : 0 < l1 := by
        by_cases hz : l1 = 0
        · subst hz; omega
        · omega
      have hin : l1 * d ≤ c * l2 := by
        apply le_of_mul_le (by omega : 0 < l2 + r2)
        have e1 : l1 * d * (l2 + r2) = d * (l1 * l2 + l1 * r2) := by simp only [Int.mul_add, Int.mul_assoc, Int.mul_comm, Int.mul_left_comm]
        have e2 : d * (l2 * (l1 + r1)) = l2 * ((l1 + r1) * d) := by simp only [Int.mul_assoc, Int.mul_comm, Int.mul_left_comm]
        have e3 : l2 * ((l1 + r1) * d) ≤ l2 * (c * (l2 + r2)) := Int.mul_le_mul_of_nonneg_left hi (by omega)
        have e4 : l2 * (c * (l2 + r2)) = c * l2 * (l2 + r2) := by simp only [Int.mul_assoc, Int.mul_comm, Int.mul_left_comm]
        have e5 : l1 * l2 + l1 * r2 ≤ l2 * (l1 + r1) := by rw [Int.mul_add, Int.mul_comm l1 l2]; omega
        have e6 := Int.mul_le_mul_of_nonneg_left e5 (Int.le_of_lt hd)
        omega
      have := h.min l1 l2 hl1 (by omega) hge hin
      omega
  · by_cases hlt : c * r2 < r1 * d
    · exact hlt
    · have hge : r1 * d ≤ c * r2 := by omega
      have hpos := Int.mul_pos (by omega : 0 < r1) hd
      have hr2 : 0 < r2 := by
        by_cases hz : r2 = 0
        · subst hz; omega
        · omega
      have hin : a * r2 ≤ r1 * b := by
        apply le_of_mul_le (by omega : 0 < l2 + r2)
        have e1 : a * r2 * (l2 + r2) = r2 * (a * (l2 + r2)) := by simp only [Int.mul_assoc, Int.mul_comm, Int.mul_left_comm]
        have e3 : r2 * (a * (l2 + r2)) ≤ r2 * ((l1 + r1) * b) := Int.mul_le_mul_of_nonneg_left lo (by omega)
        have e4 : r2 * ((l1 + r1) * b) = b * (r2 * (l1 + r1)) := by simp only [Int.mul_assoc, Int.mul_comm, Int.mul_left_comm]
        have e5 : r2 * (l1 + r1) ≤ r1 * (l2 + r2) := by rw [Int.mul_add, Int.mul_add, Int.mul_comm r2 l1, Int.mul_comm r2 r1, Int.mul_comm r1 l2]; omega
        have e6 := Int.mul_le_mul_of_nonneg_left e5 (Int.le_of_lt hb)
        have e7 : b * (r1 * (l2 + r2)) = r1 * b * (l2 + r2) := by simp only [Int.mul_assoc, Int.mul_comm, Int.mul_left_comm]
        omega
      have := h.min r1 r2 (by omega) hr2 hin hge
      omega

/-- what nxt has found -/
structure Nx (n d : Int) (k : Nat) (x y : Int) : Prop where
  y1 : 1 ≤ y
  yk : y ≤ k
  x1 : 1 ≤ x
  gt : n * y < x * d
  min : ∀ j m : Int, 1 ≤ j → j ≤ k → n * j < m * d → x * j ≤ m * y
  fst : ∀ j m : Int, 1 ≤ j → j < y → n * j < m * d → x * j < m * y

theorem Nx.gcd {n d x y : Int} {k : Nat} (h : Nx n d k x y) (hd : 1 ≤ d) : Int.gcd x y = 1 := by
  have hy := h.y1
  have hx := h.x1
  obtain ⟨x', hx'⟩ := Int.gcd_dvd_left x y
  obtain ⟨y', hy'⟩ := Int.gcd_dvd_right x y
  generalize hg : Int.gcd x y = g at *
  have hg0 : (0 : Int) < g := by
    by_cases h0 : g = 0
    · subst h0; simp at hx'; omega
    · omega
  by_cases hg1 : g = 1
  · exact hg1
  · have hy0 : 1 ≤ y' := by
      by_cases h1 : 1 ≤ y'
      · exact h1
      · have : (g : Int) * y' ≤ g * 0 := Int.mul_le_mul_of_nonneg_left (by omega) (by omega)
        omega
    have hlt : y' < y := by
      have : 2 * y' ≤ g * y' := Int.mul_le_mul_of_nonneg_right (by omega) (by omega)
      omega
    have hgt : n * y' < x' * d := by
      apply lt_of_mul_lt hg0
      have := h.gt
      have e1 : n * y' * g = n * y := by rw [hy']; simp only [Int.mul_assoc, Int.mul_comm, Int.mul_left_comm]
      have e2 : x' * d * g = x * d := by rw [hx']; simp only [Int.mul_assoc, Int.mul_comm, Int.mul_left_comm]
      omega
    have := h.fst y' x' hy0 hlt hgt
    have e : x * y' = x' * y := by rw [hy', hx']; simp only [Int.mul_assoc, Int.mul_comm, Int.mul_left_comm]
    omega

end Um
end

/- Plain definitions of what package unit computes. -/
section
set_option linter.unusedSimpArgs false
set_option linter.unusedVariables false
namespace Um

/-- a fraction: both numbers in the limit, least terms -/
def frac (n d : Int) : Bool := decide (1 ≤ n ∧ n ≤ 1000000000 ∧ 1 ≤ d ∧ d ≤ 1000000000 ∧ Int.gcd n d = 1)

theorem frac_bd {n d : Int} (h : frac n d = true) : 1 ≤ n ∧ n ≤ 1000000000 ∧ 1 ≤ d ∧ d ≤ 1000000000 := by
  simp [frac] at h; omega
theorem frac_gcd {n d : Int} (h : frac n d = true) : Int.gcd n d = 1 := by
  simp [frac] at h; exact h.2.2.2.2

/-- a span: the numbers of Lo and of Hi -/
abbrev S4 := Int × Int × Int × Int

def spanB (s : S4) : Bool := frac s.1 s.2.1 && frac s.2.2.1 s.2.2.2 && decide (s.1 * s.2.2.2 ≤ s.2.2.1 * s.2.1)

/-- the error of a span -/
def spanE (s : S4) : Int := if spanB s = true then 0 else 2

theorem spanB_iff (s : S4) : spanB s = true ↔ frac s.1 s.2.1 = true ∧ frac s.2.2.1 s.2.2.2 = true ∧ s.1 * s.2.2.2 ≤ s.2.2.1 * s.2.1 := by
  simp [spanB, and_assoc]

/-- the product of two fractions in least terms -/
def mulR (a b c d : Int) : Int × Int := (a * c / (Int.gcd (a * c) (b * d) : Int), b * d / (Int.gcd (a * c) (b * d) : Int))

/-- the product of fractions, as far as it stays within the limit -/
def prodR : Int → Int → List (Int × Int) → Option (Int × Int)
  | p, q, [] => some (p, q)
  | p, q, (x, y) :: l => if frac (mulR p q x y).1 (mulR p q x y).2 = true then prodR (mulR p q x y).1 (mulR p q x y).2 l else none

def mul4 (s t : S4) : S4 := ((mulR s.1 s.2.1 t.1 t.2.1).1, (mulR s.1 s.2.1 t.1 t.2.1).2, (mulR s.2.2.1 s.2.2.2 t.2.2.1 t.2.2.2).1, (mulR s.2.2.1 s.2.2.2 t.2.2.1 t.2.2.2).2)
def frac4 (s : S4) : Bool := frac s.1 s.2.1 && frac s.2.2.1 s.2.2.2

/-- a span carried over by decrees -/
def carryL : S4 → List S4 → Option S4
  | s, [] => some s
  | s, d :: l => if frac4 (mul4 s d) = true then carryL (mul4 s d) l else none

def turn4 (s : S4) : S4 := (s.2.2.2, s.2.2.1, s.2.1, s.1)

/-- what is carried over, and the error -/
def carried (s : S4) (l : List S4) (ch : S4 → S4) : S4 × Int :=
  if spanB s = false then ((0, 0, 0, 0), 2)
  else if 8 < l.length then ((0, 0, 0, 0), 6)
  else if l.any (fun d => !spanB d) = true then ((0, 0, 0, 0), 2)
  else match carryL s (l.map ch) with
    | none => ((0, 0, 0, 0), 4)
    | some t => (t, 0)

theorem mulR_one {a b : Int} (h : frac a b = true) : mulR 1 1 a b = (a, b) := by
  simp [mulR, frac_gcd h]

theorem prodR_two {a b c d : Int} (h : frac a b = true) : prodR 1 1 [(a, b), (c, d)] = if frac (mulR a b c d).1 (mulR a b c d).2 = true then some (mulR a b c d) else none := by
  simp [prodR, mulR_one h, h]

theorem mul_bd {p x M : Int} (h1 : 1 ≤ p) (h2 : p ≤ M) (h3 : 1 ≤ x) (h4 : x ≤ M) : 1 ≤ p * x ∧ p * x ≤ M * M := by
  constructor
  · have := Int.mul_le_mul h1 h3 (by omega) (by omega : (0 : Int) ≤ p); omega
  · exact Int.mul_le_mul h2 h4 (by omega) (by omega)

theorem mulR_bd {p q x y : Int} (h1 : 1 ≤ p) (h3 : 1 ≤ q) (h5 : 1 ≤ x) (h7 : 1 ≤ y) :
    1 ≤ (Int.gcd (p * x) (q * y) : Int) ∧ (Int.gcd (p * x) (q * y) : Int) ≤ p * x := by
  have a := Int.mul_pos (by omega : 0 < p) (by omega : 0 < x)
  have hg : 0 < Int.gcd (p * x) (q * y) := Int.gcd_pos_of_ne_zero_left _ (by omega)
  exact ⟨by omega, Int.le_of_dvd a (Int.gcd_dvd_left ..)⟩


/-- a fraction is not greater than another one -/
def qle (a b c d : Int) : Prop := a * d ≤ c * b

theorem qle_trans {a b c d e f : Int} (hb : 0 < b) (hd : 0 < d) (hf : 0 < f) (h1 : qle a b c d) (h2 : qle c d e f) : qle a b e f := by
  unfold qle at *
  apply le_of_mul_le hd
  have e1 : a * f * d = f * (a * d) := by simp only [Int.mul_assoc, Int.mul_comm, Int.mul_left_comm]
  have e2 : f * (a * d) ≤ f * (c * b) := Int.mul_le_mul_of_nonneg_left h1 (by omega)
  have e3 : f * (c * b) = b * (c * f) := by simp only [Int.mul_assoc, Int.mul_comm, Int.mul_left_comm]
  have e4 : b * (c * f) ≤ b * (e * d) := Int.mul_le_mul_of_nonneg_left h2 (by omega)
  have e5 : b * (e * d) = e * b * d := by simp only [Int.mul_assoc, Int.mul_comm, Int.mul_left_comm]
  omega

/-- the product in least terms is the product -/
theorem mulR_spec {a b c d : Int} (ha : 0 < a) (hb : 0 < b) (hc : 0 < c) (hd : 0 < d) :
    ∃ g : Int, 0 < g ∧ a * c = (mulR a b c d).1 * g ∧ b * d = (mulR a b c d).2 * g ∧ 0 < (mulR a b c d).1 ∧ 0 < (mulR a b c d).2 ∧ Int.gcd (mulR a b c d).1 (mulR a b c d).2 = 1 := by
  have p1 := Int.mul_pos ha hc
  have p2 := Int.mul_pos hb hd
  have hg : 0 < Int.gcd (a * c) (b * d) := Int.gcd_pos_of_ne_zero_left _ (by omega)
  refine ⟨(Int.gcd (a * c) (b * d) : Int), by omega, ?_, ?_, ?_, ?_, ?_⟩
  · exact (Int.ediv_mul_cancel (Int.gcd_dvd_left ..)).symm
  · exact (Int.ediv_mul_cancel (Int.gcd_dvd_right ..)).symm
  · exact Int.ediv_pos_of_pos_of_dvd p1 (by omega) (Int.gcd_dvd_left ..)
  · exact Int.ediv_pos_of_pos_of_dvd p2 (by omega) (Int.gcd_dvd_right ..)
  · exact Int.gcd_ediv_gcd_ediv_gcd hg

theorem mulR_mono {a b c d a' b' c' d' : Int} (ha : 0 < a) (hb : 0 < b) (hc : 0 < c) (hd : 0 < d) (ha' : 0 < a') (hb' : 0 < b') (hc' : 0 < c') (hd' : 0 < d')
    (h1 : qle a b a' b') (h2 : qle c d c' d') : qle (mulR a b c d).1 (mulR a b c d).2 (mulR a' b' c' d').1 (mulR a' b' c' d').2 := by
  obtain ⟨g, hg, e1, e2, p1, p2, _⟩ := mulR_spec ha hb hc hd
  obtain ⟨g', hg', e1', e2', p1', p2', _⟩ := mulR_spec ha' hb' hc' hd'
  generalize (mulR a b c d).1 = n at *
  generalize (mulR a b c d).2 = m at *
  generalize (mulR a' b' c' d').1 = n' at *
  generalize (mulR a' b' c' d').2 = m' at *
  unfold qle at *
  apply le_of_mul_le (Int.mul_pos hg hg')
  have k : a * b' * (c * d') ≤ a' * b * (c' * d) := Int.mul_le_mul h1 h2 (Int.le_of_lt (Int.mul_pos hc hd')) (Int.le_of_lt (Int.mul_pos ha' hb))
  have f1 : n * m' * (g * g') = a * b' * (c * d') := by
    have : n * m' * (g * g') = (n * g) * (m' * g') := by simp only [Int.mul_assoc, Int.mul_comm, Int.mul_left_comm]
    rw [this, ← e1, ← e2']; simp only [Int.mul_assoc, Int.mul_comm, Int.mul_left_comm]
  have f2 : n' * m * (g * g') = a' * b * (c' * d) := by
    have : n' * m * (g * g') = (n' * g') * (m * g) := by simp only [Int.mul_assoc, Int.mul_comm, Int.mul_left_comm]
    rw [this, ← e1', ← e2]; simp only [Int.mul_assoc, Int.mul_comm, Int.mul_left_comm]
  omega

theorem dvd_gcd1 {a b c : Int} (h : a ∣ c * b) (hg : Int.gcd a b = 1) : a ∣ c := by
  rw [← Int.natAbs_dvd_natAbs] at h ⊢
  rw [Int.natAbs_mul] at h
  exact Nat.Coprime.dvd_of_dvd_mul_right hg h

theorem red_uniq {a b c d : Int} (hb : 0 < b) (hd : 0 < d) (h1 : Int.gcd a b = 1) (h2 : Int.gcd c d = 1) (h : a * d = c * b) : a = c ∧ b = d := by
  have d1 : b ∣ d := by
    have : b ∣ d * a := ⟨c, by rw [Int.mul_comm d a, h, Int.mul_comm]⟩
    exact dvd_gcd1 this (by rw [Int.gcd_comm]; exact h1)
  have d2 : d ∣ b := by
    have : d ∣ b * c := ⟨a, by rw [Int.mul_comm b c, ← h, Int.mul_comm]⟩
    exact dvd_gcd1 this (by rw [Int.gcd_comm]; exact h2)
  have l1 := Int.le_of_dvd hd d1
  have l2 := Int.le_of_dvd hb d2
  have hbd : b = d := by omega
  subst hbd
  exact ⟨Int.eq_of_mul_eq_mul_right (by omega) h, rfl⟩

theorem mulR_back {a b c d : Int} (ha : 0 < a) (hb : 0 < b) (hc : 0 < c) (hd : 0 < d) (hg : Int.gcd a b = 1) :
    mulR (mulR a b c d).1 (mulR a b c d).2 d c = (a, b) := by
  obtain ⟨g, hg0, e1, e2, p1, p2, _⟩ := mulR_spec ha hb hc hd
  generalize (mulR a b c d).1 = n at *
  generalize (mulR a b c d).2 = m at *
  obtain ⟨g', hg0', e1', e2', p1', p2', hg'⟩ := mulR_spec p1 p2 hd hc
  have : (mulR n m d c).1 = a ∧ (mulR n m d c).2 = b := by
    apply red_uniq p2' hb hg' hg
    apply Int.eq_of_mul_eq_mul_right (a := g * g' * (c * d)) (Int.ne_of_gt (Int.mul_pos (Int.mul_pos hg0 hg0') (Int.mul_pos hc hd)))
    have f1 : (mulR n m d c).1 * b * (g * g' * (c * d)) = ((mulR n m d c).1 * g') * (b * d) * (c * g) := by simp only [Int.mul_assoc, Int.mul_comm, Int.mul_left_comm]
    have f2 : a * (mulR n m d c).2 * (g * g' * (c * d)) = ((mulR n m d c).2 * g') * (a * c) * (d * g) := by simp only [Int.mul_assoc, Int.mul_comm, Int.mul_left_comm]
    rw [f1, f2, ← e1', ← e2', e1, e2]
    simp only [Int.mul_assoc, Int.mul_comm, Int.mul_left_comm]
  exact Prod.ext this.1 this.2

theorem frac_pos {n d : Int} (h : frac n d = true) : 0 < n ∧ 0 < d := by have := frac_bd h; omega

/-- the first span is in the second one -/
def sub4 (s t : S4) : Prop := qle t.1 t.2.1 s.1 s.2.1 ∧ qle s.2.2.1 s.2.2.2 t.2.2.1 t.2.2.2

theorem frac4_iff (s : S4) : frac4 s = true ↔ frac s.1 s.2.1 = true ∧ frac s.2.2.1 s.2.2.2 = true := by simp [frac4]

theorem mul4_sub {s t d e : S4} (hs : frac4 s = true) (ht : frac4 t = true) (hd : frac4 d = true) (he : frac4 e = true) (h1 : sub4 s t) (h2 : sub4 d e) : sub4 (mul4 s d) (mul4 t e) := by
  obtain ⟨s1, s2⟩ := (frac4_iff s).1 hs
  obtain ⟨t1, t2⟩ := (frac4_iff t).1 ht
  obtain ⟨d1, d2⟩ := (frac4_iff d).1 hd
  obtain ⟨e1, e2⟩ := (frac4_iff e).1 he
  exact ⟨mulR_mono (frac_pos t1).1 (frac_pos t1).2 (frac_pos e1).1 (frac_pos e1).2 (frac_pos s1).1 (frac_pos s1).2 (frac_pos d1).1 (frac_pos d1).2 h1.1 h2.1,
    mulR_mono (frac_pos s2).1 (frac_pos s2).2 (frac_pos d2).1 (frac_pos d2).2 (frac_pos t2).1 (frac_pos t2).2 (frac_pos e2).1 (frac_pos e2).2 h1.2 h2.2⟩

theorem carryL_frac {l : List S4} : ∀ {s t : S4}, frac4 s = true → carryL s l = some t → frac4 t = true := by
  induction l with
  | nil => intro s t hs h; simp [carryL] at h; subst h; exact hs
  | cons d l ih =>
    intro s t hs h
    rw [carryL] at h
    split at h
    · rename_i hm; exact ih hm h
    · exact absurd h (by simp)

/-- if each decree is in the other one, what is carried over is -/
theorem carryL_sub {l : List (S4 × S4)} : ∀ {s t u v : S4}, frac4 s = true → frac4 t = true → sub4 s t → (∀ x ∈ l, frac4 x.1 = true ∧ frac4 x.2 = true ∧ sub4 x.1 x.2) →
    carryL s (l.map (·.1)) = some u → carryL t (l.map (·.2)) = some v → sub4 u v := by
  induction l with
  | nil => intro s t u v _ _ h _ h1 h2; simp [carryL] at h1 h2; subst h1 h2; exact h
  | cons x l ih =>
    intro s t u v hs ht h hl h1 h2
    obtain ⟨x1, x2, x3⟩ := hl x (List.mem_cons_self)
    rw [List.map_cons, carryL] at h1 h2
    split at h1
    · rename_i m1
      split at h2
      · rename_i m2
        exact ih m1 m2 (mul4_sub hs ht x1 x2 h x3) (fun y hy => hl y (List.mem_cons_of_mem _ hy)) h1 h2
      · exact absurd h2 (by simp)
    · exact absurd h1 (by simp)

/-- a span that is one number stays one -/
theorem carryL_point {l : List S4} : ∀ {s u : S4}, s.1 = s.2.2.1 → s.2.1 = s.2.2.2 → (∀ x ∈ l, x.1 = x.2.2.1 ∧ x.2.1 = x.2.2.2) → carryL s l = some u → u.1 = u.2.2.1 ∧ u.2.1 = u.2.2.2 := by
  induction l with
  | nil => intro s u h1 h2 _ h; simp [carryL] at h; subst h; exact ⟨h1, h2⟩
  | cons d l ih =>
    intro s u h1 h2 hl h
    obtain ⟨d1, d2⟩ := hl d (List.mem_cons_self)
    rw [carryL] at h
    split at h
    · refine ih ?_ ?_ (fun y hy => hl y (List.mem_cons_of_mem _ hy)) h
      · simp only [mul4, h1, h2, d1, d2]
      · simp only [mul4, h1, h2, d1, d2]
    · exact absurd h (by simp)

theorem carryL_append (l1 l2 : List S4) : ∀ s : S4, carryL s (l1 ++ l2) = (carryL s l1).bind fun t => carryL t l2 := by
  induction l1 with
  | nil => intro s; rfl
  | cons d l ih =>
    intro s
    rw [List.cons_append, carryL, carryL]
    split
    · exact ih _
    · rfl

theorem turn4_frac {s : S4} (h : frac4 s = true) : frac4 (turn4 s) = true := by
  obtain ⟨h1, h2⟩ := (frac4_iff s).1 h
  rw [frac4_iff]
  have g1 := frac_gcd h1
  have g2 := frac_gcd h2
  have b1 := frac_bd h1
  have b2 := frac_bd h2
  rw [Int.gcd_comm] at g1 g2
  constructor
  · show frac s.2.2.2 s.2.2.1 = true
    simp only [frac, decide_eq_true_eq]; omega
  · show frac s.2.1 s.1 = true
    simp only [frac, decide_eq_true_eq]; omega

/-- what is carried over and back contains the span; if all decrees are known exactly, it is the span -/
theorem carry_back (l : List S4) (hl : ∀ x ∈ l, spanB x = true) : ∀ {s t u : S4}, frac4 s = true → carryL s l = some t → carryL t (l.reverse.map turn4) = some u →
    sub4 s u ∧ ((∀ x ∈ l, x.1 = x.2.2.1 ∧ x.2.1 = x.2.2.2) → u = s) := by
  induction l with
  | nil =>
    intro s t u hs h1 h2
    simp [carryL] at h1 h2
    subst h1 h2
    exact ⟨⟨Int.le_refl _, Int.le_refl _⟩, fun _ => rfl⟩
  | cons d l ih =>
    intro s t u hs h1 h2
    have hd := hl d (List.mem_cons_self)
    obtain ⟨df1, df2, dle⟩ := (spanB_iff d).1 hd
    obtain ⟨s1, s2⟩ := (frac4_iff s).1 hs
    obtain ⟨pa, pb⟩ := frac_pos s1
    obtain ⟨pc, pd⟩ := frac_pos s2
    obtain ⟨qa, qb⟩ := frac_pos df1
    obtain ⟨qc, qd⟩ := frac_pos df2
    rw [carryL] at h1
    split at h1
    · rename_i hm
      rw [List.reverse_cons, List.map_append, carryL_append] at h2
      cases hu : carryL t (l.reverse.map turn4) with
      | none => rw [hu] at h2; exact absurd h2 (by simp)
      | some u1 =>
        rw [hu] at h2
        simp only [Option.bind_some, List.map_cons, List.map_nil, carryL] at h2
        split at h2
        · rename_i hm2
          simp only [Option.some.injEq] at h2
          subst h2
          obtain ⟨i1, i2⟩ := ih (fun x hx => hl x (List.mem_cons_of_mem _ hx)) hm h1 hu
          obtain ⟨m1, m2⟩ := (frac4_iff _).1 hm
          have hu1 := carryL_frac (carryL_frac hm h1) hu
          obtain ⟨v1, v2⟩ := (frac4_iff _).1 hu1
          have b1 := mulR_back pa pb qa qb (frac_gcd s1)
          have b2 := mulR_back pc pd qc qd (frac_gcd s2)
          refine ⟨⟨?_, ?_⟩, fun hex => ?_⟩
          · have k := mulR_mono (frac_pos v1).1 (frac_pos v1).2 qd qc (frac_pos m1).1 (frac_pos m1).2 qb qa i1.1 (by unfold qle; rw [Int.mul_comm, Int.mul_comm d.2.1]; exact dle)
            have e : mulR (mul4 s d).1 (mul4 s d).2.1 d.2.1 d.1 = (s.1, s.2.1) := b1
            rw [e] at k
            exact k
          · have k := mulR_mono (frac_pos m2).1 (frac_pos m2).2 qd qc (frac_pos v2).1 (frac_pos v2).2 qb qa i1.2 (by unfold qle; rw [Int.mul_comm, Int.mul_comm d.2.1]; exact dle)
            have e : mulR (mul4 s d).2.2.1 (mul4 s d).2.2.2 d.2.2.2 d.2.2.1 = (s.2.2.1, s.2.2.2) := b2
            rw [e] at k
            exact k
          · have hue := i2 (fun x hx => hex x (List.mem_cons_of_mem _ hx))
            subst hue
            obtain ⟨x1, x2⟩ := hex d (List.mem_cons_self)
            have e1 : mulR (mul4 s d).1 (mul4 s d).2.1 d.2.2.2 d.2.2.1 = (s.1, s.2.1) := by rw [← x1, ← x2]; exact b1
            have e2 : mulR (mul4 s d).2.2.1 (mul4 s d).2.2.2 d.2.1 d.1 = (s.2.2.1, s.2.2.2) := by rw [x1, x2]; exact b2
            show ((mulR (mul4 s d).1 (mul4 s d).2.1 d.2.2.2 d.2.2.1).1, (mulR (mul4 s d).1 (mul4 s d).2.1 d.2.2.2 d.2.2.1).2, (mulR (mul4 s d).2.2.1 (mul4 s d).2.2.2 d.2.1 d.1).1, (mulR (mul4 s d).2.2.1 (mul4 s d).2.2.2 d.2.1 d.1).2) = s
            rw [e1, e2]
        · exact absurd h2 (by simp)
    · exact absurd h1 (by simp)

end Um
end

/- Small words for walks: what is kept below a block, blocks that are known whole, slices that read as lists. -/
section
namespace Go.Proofs.YtminplfgadhnnaaGreatDoor
open Go.RowKit Go.Shelf

theorem ret_int {k : IntKind} {a b : Int} (h : a = b) : Ending.returned (.int k a) = .returned (.int k b) := by rw [h]
theorem ret_bool {a b : Bool} (h : a = b) : Ending.returned (.bool a) = .returned (.bool b) := by rw [h]

theorem bdrewN {B : Nat} {a w : World} (h : Below B a w) (n : Nat) : Below B a (w.drewN n) := ⟨h.os, h.tape, h.output, h.size, h.block⟩
theorem bstep {w W w1 : World} (h : Below w.heap.size w W) (hb : Below W.heap.size W w1) : Below w.heap.size w w1 := h.trans (hb.mono h.size)
theorem balloc {w W : World} (h : Below w.heap.size w W) (o : Obj) : Below w.heap.size w (W.alloc o) := h.alloc h.size o
theorem bset {w W : World} (h : Below w.heap.size w W) {p : Addr} (hp : w.heap.size ≤ p.block) (u : Value) : Below w.heap.size w (W.setCell p u) := h.setCell hp u

/-- block g is known whole, and can be written -/
def Cs (w : World) (g : Nat) (cs : Array Value) : Prop := g < w.heap.size ∧ (∀ i, w.cell? ⟨g, i, none⟩ = cs[i]?) ∧ (∀ i, w.frozen? ⟨g, i, none⟩ = false)

theorem Cs.c {w : World} {g : Nat} {cs : Array Value} (h : Cs w g cs) : ∀ i, w.cell? ⟨g, i, none⟩ = cs[i]? := h.2.1
theorem Cs.f {w : World} {g : Nat} {cs : Array Value} (h : Cs w g cs) : ∀ i, w.frozen? ⟨g, i, none⟩ = false := h.2.2
theorem Cs.lt {w : World} {g : Nat} {cs : Array Value} (h : Cs w g cs) : g < w.heap.size := h.1
theorem Cs.new (w : World) (H : Nat) (cs : Array Value) (t : TypeId) (hH : w.heap.size = H) : Cs (w.alloc (.cells cs t)) H cs := by
  subst hH
  exact ⟨by simp, fun i => by simp, fun i => by simp⟩
theorem Cs.keep {W w1 : World} {g : Nat} {cs : Array Value} (h : Cs W g cs) (hb : Below W.heap.size W w1) : Cs w1 g cs :=
  ⟨Nat.lt_of_lt_of_le h.1 hb.size, fun i => (hb.cell (p := ⟨g, i, none⟩) h.1).trans (h.2.1 i), fun i => (hb.frozen (p := ⟨g, i, none⟩) h.1).trans (h.2.2 i)⟩
theorem Cs.alloc {w : World} {g : Nat} {cs : Array Value} (h : Cs w g cs) (o : Obj) : Cs (w.alloc o) g cs := h.keep (balloc (Below.refl _ _) o)
theorem Cs.drew {w : World} {g : Nat} {cs : Array Value} (h : Cs w g cs) : Cs w.drew g cs := h
theorem Cs.drewN {w : World} {g : Nat} {cs : Array Value} (h : Cs w g cs) (n : Nat) : Cs (w.drewN n) g cs := h
theorem Cs.set {w : World} {g : Nat} {cs : Array Value} (h : Cs w g cs) (k : Nat) (v : Value) (hk : k < cs.size) : Cs (w.setCell ⟨g, k, none⟩ v) g (cs.setIfInBounds k v) := by
  refine ⟨by simpa [World.setCell] using h.1, fun i => ?_, fun i => by rw [World.frozen?_setCell]; exact h.f i⟩
  by_cases hi : i = k
  · subst hi
    rw [World.cell?_setCell_same' _ _ _ (by rw [h.c]; simp [hk])]
    simp [hk]
  · rw [World.cell?_setCell_other _ _ _ _ (by intro e; injection e with _ e; exact hi e.symm), h.c, Array.getElem?_setIfInBounds_ne (by omega)]
theorem Cs.other {w : World} {g : Nat} {cs : Array Value} (h : Cs w g cs) {p : Addr} (hp : g ≠ p.block) (v : Value) : Cs (w.setCell p v) g cs :=
  ⟨by simpa [World.setCell] using h.1, fun i => by rw [World.cell?_setCell_other _ _ _ _ (by intro e; apply hp; rw [e])]; exact h.c i, fun i => by rw [World.frozen?_setCell]; exact h.f i⟩

theorem Cs.set2 {w : World} {g : Nat} {a b : Value} (h : Cs w g #[a, b]) (x y : Value) : Cs ((w.setCell ⟨g, 0, none⟩ x).setCell ⟨g, 1, none⟩ y) g #[x, y] :=
  (h.set 0 x (by simp)).set 1 y (by simp)
theorem Cs.set4 {w : World} {g : Nat} {a b c d : Value} (h : Cs w g #[a, b, c, d]) (x y z u : Value) :
    Cs ((((w.setCell ⟨g, 0, none⟩ x).setCell ⟨g, 1, none⟩ y).setCell ⟨g, 2, none⟩ z).setCell ⟨g, 3, none⟩ u) g #[x, y, z, u] :=
  (((h.set 0 x (by simp)).set 1 y (by simp)).set 2 z (by simp)).set 3 u (by simp)
theorem Cs.other2 {w : World} {g g' : Nat} {cs : Array Value} (h : Cs w g cs) (hg : g ≠ g') (x y : Value) : Cs ((w.setCell ⟨g', 0, none⟩ x).setCell ⟨g', 1, none⟩ y) g cs :=
  (h.other (p := ⟨g', 0, none⟩) hg x).other (p := ⟨g', 1, none⟩) hg y
theorem Cs.other4 {w : World} {g g' : Nat} {cs : Array Value} (h : Cs w g cs) (hg : g ≠ g') (x y z u : Value) :
    Cs ((((w.setCell ⟨g', 0, none⟩ x).setCell ⟨g', 1, none⟩ y).setCell ⟨g', 2, none⟩ z).setCell ⟨g', 3, none⟩ u) g cs :=
  (((h.other (p := ⟨g', 0, none⟩) hg x).other (p := ⟨g', 1, none⟩) hg y).other (p := ⟨g', 2, none⟩) hg z).other (p := ⟨g', 3, none⟩) hg u
theorem bset2 {w W : World} {g : Nat} (h : Below w.heap.size w W) (hg : w.heap.size ≤ g) (x y : Value) : Below w.heap.size w ((W.setCell ⟨g, 0, none⟩ x).setCell ⟨g, 1, none⟩ y) :=
  bset (bset h (p := ⟨g, 0, none⟩) hg x) (p := ⟨g, 1, none⟩) hg y
theorem bset4 {w W : World} {g : Nat} (h : Below w.heap.size w W) (hg : w.heap.size ≤ g) (x y z u : Value) :
    Below w.heap.size w ((((W.setCell ⟨g, 0, none⟩ x).setCell ⟨g, 1, none⟩ y).setCell ⟨g, 2, none⟩ z).setCell ⟨g, 3, none⟩ u) :=
  bset (bset (bset2 h hg x y) (p := ⟨g, 2, none⟩) hg z) (p := ⟨g, 3, none⟩) hg u

/-- a slice value that reads as a list of numbers -/
def Ints (w : World) (A : Option Addr) (n : Nat) (zs : List Int) : Prop :=
  zs.length = n ∧ (0 < n → ∃ b off, A = some ⟨b, off, none⟩ ∧ b < w.heap.size ∧ ∀ i, i < n → w.cell? ⟨b, off + i, none⟩ = some (.int .i64 (zs.getD i 0)))

theorem Ints.below {w w' : World} {A : Option Addr} {n : Nat} {zs : List Int} (h : Ints w A n zs) (hb : Below w.heap.size w w') : Ints w' A n zs := by
  refine ⟨h.1, fun hn => ?_⟩
  obtain ⟨b, off, rfl, hlt, hc⟩ := h.2 hn
  exact ⟨b, off, rfl, Nat.lt_of_lt_of_le hlt hb.size, fun i hi => (hb.cell (p := ⟨b, off + i, none⟩) hlt).trans (hc i hi)⟩

theorem Ints.new (w : World) (H : Nat) (zs : List Int) (t : TypeId) (hH : w.heap.size = H) : Ints (w.alloc (.cells (zs.map (Value.int .i64)).toArray t)) (some ⟨H, 0, none⟩) zs.length zs := by
  subst hH
  refine ⟨rfl, fun _ => ⟨w.heap.size, 0, rfl, by simp, fun i hi => ?_⟩⟩
  simp [hi]

/-- a block's cells, by what is known (the tactic is the argument's own) -/
theorem csA {w : World} {g : Nat} {cs : Array Value} (h : Cs w g cs := by repeat (first | with_reducible assumption | (with_reducible refine Cs.new _ _ _ _ ?_; first | rfl | (simp; done)) | with_reducible refine Cs.alloc ?_ _ | with_reducible refine Cs.drewN ?_ _ | with_reducible refine Cs.drew ?_ | with_reducible refine Cs.set4 ?_ _ _ _ _ | (with_reducible refine Cs.other4 ?_ ?_ _ _ _ _; rotate_left; focus (first | assumption | omega | (simp; done) | (simp; omega))) | with_reducible refine Cs.set2 ?_ _ _ | (with_reducible refine Cs.other2 ?_ ?_ _ _; rotate_left; focus (first | assumption | omega | (simp; done) | (simp; omega))) | (with_reducible refine Cs.other ?_ ?_ _; rotate_left; focus (first | assumption | omega | (simp; done) | (simp; omega))) | with_reducible refine Cs.keep ?_ (by assumption) | assumption)) : Cs w g cs := h
/-- a world that is above another one, by what is known -/
theorem blA {B : Nat} {w W : World} (h : Below B w W := by repeat (first | with_reducible exact Below.refl _ _ | with_reducible assumption | with_reducible refine balloc ?_ _ | with_reducible refine bdrewN ?_ _ | with_reducible refine Below.drew ?_ | (with_reducible refine bset ?_ ?_ _; rotate_left; focus (first | assumption | omega | (simp; done) | (simp; omega))) | with_reducible refine bstep ?_ (by assumption) | assumption)) : Below B w W := h

end Go.Proofs.YtminplfgadhnnaaGreatDoor
end
