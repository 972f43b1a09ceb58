set_option linter.unusedSimpArgs false
set_option linter.unusedVariables false
namespace Um

/-- the path of the simplest fraction from a / b to c / d -/
def sp : Nat → Int → Int → Int → Int → List Int
  | 0, _, _, _, _ => []
  | k + 1, a, b, c, d =>
    if a % b = 0 then [a / b]
    else if (a / b + 1) * d ≤ c then [a / b + 1]
    else a / b :: sp k d (c - a / b * d) b (a % b)

/-- the fraction of a path -/
def ev : List Int → Int × Int
  | [] => (1, 0)
  | x :: l => (x * (ev l).1 + (ev l).2, (ev l).1)

def Good (a b c d : Int) (l : List Int) : Prop :=
  0 < (ev l).1 ∧ 0 < (ev l).2 ∧ a * (ev l).2 ≤ (ev l).1 * b ∧ (ev l).1 * d ≤ c * (ev l).2 ∧
  ∀ x y, 0 < x → 0 < y → a * y ≤ x * b → x * d ≤ c * y → (ev l).2 ≤ y ∧ (ev l).1 ≤ x

theorem lt_of_mul_lt {a b c : Int} (hb : 0 < b) (h : a * b < c * b) : a < c := by
  by_cases h1 : a < c
  · exact h1
  · have h1 : c ≤ a := by omega
    have := Int.mul_le_mul_of_nonneg_right h1 (Int.le_of_lt hb); omega

theorem le_of_mul_le {a b c : Int} (hb : 0 < b) (h : a * b ≤ c * b) : a ≤ c := by
  by_cases h1 : c < a
  · have := Int.mul_lt_mul_of_pos_right h1 hb; omega
  · omega

theorem gcd_step (p q : Int) (hp : 0 ≤ p) (hq : 0 < q) : Int.gcd q (p % q) = Int.gcd p q := by
  obtain ⟨m, rfl⟩ := Int.eq_ofNat_of_zero_le hp
  obtain ⟨n, rfl⟩ := Int.eq_ofNat_of_zero_le (Int.le_of_lt hq)
  show Nat.gcd n (m % n) = Nat.gcd m n
  rw [Nat.gcd_comm m n, Nat.gcd_rec n m, Nat.gcd_comm]

/-- the place of the first element that p holds of, or -1 -/
def idx {α : Type} (p : α → Bool) : List α → Int
  | [] => -1
  | x :: l => if p x then 0 else if idx p l < 0 then -1 else idx p l + 1

theorem idx_any {α : Type} (p : α → Bool) (l : List α) : decide (0 ≤ idx p l) = l.any p := by
  induction l with
  | nil => rfl
  | cons x l ih =>
    simp only [idx, List.any_cons, ← ih]
    by_cases h : p x <;> simp [h]
    by_cases h2 : idx p l < 0 <;> simp [h2] <;> omega

theorem idx_at {α : Type} (p : α → Bool) (k : Nat) : ∀ (l : List α) (x : α), (∀ i y, i < k → l[i]? = some y → p y = false) → l[k]? = some x → p x = true → idx p l = k := by
  induction k with
  | zero =>
    intro l x _ hx hp
    cases l with
    | nil => simp at hx
    | cons y l => simp at hx; subst hx; simp [idx, hp]
  | succ k ih =>
    intro l x h hx hp
    cases l with
    | nil => simp at hx
    | cons y l =>
      have h0 := h 0 y (by omega) rfl
      have := ih l x (fun i z hi hz => h (i + 1) z (by omega) (by simpa using hz)) (by simpa using hx) hp
      simp only [idx, h0, this]
      simp
      omega

theorem idx_none {α : Type} (p : α → Bool) (l : List α) (h : ∀ x ∈ l, p x = false) : idx p l = -1 := by
  induction l with
  | nil => rfl
  | cons x l ih =>
    have := ih (fun y hy => h y (List.mem_cons_of_mem _ hy))
    simp [idx, h x (List.mem_cons_self), this]

theorem sp_good : ∀ (k : Nat) (a b c d : Int), 0 < a → 0 < b → 0 < c → 0 < d → a * d ≤ c * b → b + d ≤ k → Good a b c d (sp k a b c d) := by
  intro k
  induction k with
  | zero => intro a b c d ha hb hc hd _ hk; omega
  | succ k ih =>
    intro a b c d ha hb hc hd hle hk
    have hdm := Int.mul_ediv_add_emod a b
    have hr0 := Int.emod_nonneg a (b := b) (by omega)
    have hr1 := Int.emod_lt_of_pos a hb
    have hw0 : 0 ≤ a / b := Int.ediv_nonneg (by omega) (by omega)
    unfold sp
    generalize hw : a / b = w at *
    generalize hr : a % b = r at *
    have hac : a = w * b + r := by rw [Int.mul_comm w b]; omega
    split
    · rename_i h0
      subst h0
      have hwp : 0 < w := by
        by_cases h : 0 < w
        · exact h
        · have : w = 0 := by omega
          subst this; omega
      have hwd : w * d ≤ c := by
        apply le_of_mul_le hb
        have : w * d * b = a * d := by rw [hac]; simp only [Int.add_zero, Int.mul_assoc, Int.mul_comm, Int.mul_left_comm]
        omega
      refine ⟨?_, ?_, ?_, ?_, ?_⟩ <;> simp only [ev, Int.mul_one, Int.add_zero]
      · exact hwp
      · omega
      · omega
      · exact hwd
      · intro x y hx hy h1 _
        refine ⟨by omega, ?_⟩
        apply le_of_mul_le hb
        have : a * 1 ≤ a * y := Int.mul_le_mul_of_nonneg_left (by omega) (by omega)
        omega
    · rename_i h0
      split
      · rename_i h1
        refine ⟨?_, ?_, ?_, ?_, ?_⟩ <;> simp only [ev, Int.mul_one, Int.add_zero]
        · omega
        · omega
        · rw [Int.add_mul]; omega
        · exact h1
        · intro x y hx hy h2 _
          refine ⟨by omega, ?_⟩
          have : a * 1 ≤ a * y := Int.mul_le_mul_of_nonneg_left (by omega) (by omega)
          have : w < x := lt_of_mul_lt hb (by omega)
          omega
      · rename_i h1
        have hrp : 0 < r := by omega
        have hwd : w * d < c := by
          apply lt_of_mul_lt hb
          have e : a * d = w * d * b + r * d := by rw [hac]; simp only [Int.add_mul, Int.mul_add, Int.mul_assoc, Int.mul_comm, Int.mul_left_comm]
          have : 0 < r * d := Int.mul_pos hrp hd
          omega
        have hlt : c < w * d + d := by rw [Int.add_mul] at h1; omega
        have key : d * r ≤ b * (c - w * d) := by
          have e : a * d = b * (w * d) + d * r := by rw [hac]; simp only [Int.add_mul, Int.mul_add, Int.mul_assoc, Int.mul_comm, Int.mul_left_comm]
          rw [Int.mul_sub]; rw [Int.mul_comm c b] at hle; omega
        obtain ⟨g1, g2, g3, g4, g5⟩ := ih d (c - w * d) b r hd (by omega) hb hrp key (by omega)
        generalize sp k d (c - w * d) b r = l at *
        generalize hn : (ev l).1 = n at *
        generalize hm : (ev l).2 = m at *
        have e1 : a * n = w * n * b + n * r := by rw [hac]; simp only [Int.add_mul, Int.mul_add, Int.mul_assoc, Int.mul_comm, Int.mul_left_comm]
        refine ⟨?_, ?_, ?_, ?_, ?_⟩ <;> simp only [ev, hn, hm]
        · have := Int.mul_nonneg hw0 (Int.le_of_lt g1); omega
        · exact g1
        · rw [Int.add_mul, e1]; rw [Int.mul_comm b m] at g4; omega
        · rw [Int.mul_sub] at g3
          rw [Int.add_mul]
          have e2 : n * (w * d) = w * n * d := by simp only [Int.mul_assoc, Int.mul_comm, Int.mul_left_comm]
          rw [Int.mul_comm d m] at g3; rw [Int.mul_comm c n]; omega
        · intro x y hx hy h2 h3
          have hwy : w * y < x := by
            apply lt_of_mul_lt hb
            have e3 : a * y = w * y * b + r * y := by rw [hac]; simp only [Int.add_mul, Int.mul_add, Int.mul_assoc, Int.mul_comm, Int.mul_left_comm]
            have : 0 < r * y := Int.mul_pos hrp hy
            omega
          have := g5 y (x - w * y) hy (by omega) (by
            rw [Int.mul_sub, Int.mul_sub]
            have e4 : d * (w * y) = y * (w * d) := by simp only [Int.mul_assoc, Int.mul_comm, Int.mul_left_comm]
            rw [Int.mul_comm d x, Int.mul_comm y c]; omega) (by
            rw [Int.mul_sub]
            have e3 : a * y = b * (w * y) + y * r := by rw [hac]; simp only [Int.add_mul, Int.mul_add, Int.mul_assoc, Int.mul_comm, Int.mul_left_comm]
            rw [Int.mul_comm b x]; omega)
          refine ⟨this.2, ?_⟩
          have : w * n ≤ w * y := Int.mul_le_mul_of_nonneg_left this.2 hw0
          omega

/-- a step on a path: both numbers of a fraction, and of the one before it -/
abbrev St := Int × Int × Int × Int
def on (s : St) (n : Int) : St := (n * s.1 + s.2.2.1, n * s.2.1 + s.2.2.2, s.1, s.2.1)
def fw (s : St) : List Int → St
  | [] => s
  | n :: l => fw (on s n) l
def first : St := (1, 0, 0, 1)

theorem fw_ev (l : List Int) : ∀ s : St, (fw s l).1 = s.1 * (ev l).1 + s.2.2.1 * (ev l).2 ∧ (fw s l).2.1 = s.2.1 * (ev l).1 + s.2.2.2 * (ev l).2 := by
  induction l with
  | nil => intro s; simp [fw, ev]
  | cons n l ih =>
    intro s
    simp only [fw, ev, ih, on]
    simp only [Int.add_mul, Int.mul_add, Int.mul_assoc, Int.mul_comm, Int.mul_left_comm]
    omega

theorem fw_first (l : List Int) : (fw first l).1 = (ev l).1 ∧ (fw first l).2.1 = (ev l).2 := by
  have := fw_ev l first
  simp [first] at this
  exact this

/-- the determinant of a step: 1 or -1 -/
def det (s : St) : Int := s.1 * s.2.2.2 - s.2.2.1 * s.2.1
theorem det_on (s : St) (n : Int) : det (on s n) = - det s := by
  simp only [det, on, Int.add_mul, Int.mul_add, Int.mul_assoc, Int.mul_comm, Int.mul_left_comm]
  omega
theorem det_fw (l : List Int) : ∀ s, det s = 1 ∨ det s = -1 → det (fw s l) = 1 ∨ det (fw s l) = -1 := by
  induction l with
  | nil => intro s h; exact h
  | cons n l ih => intro s h; exact ih _ (by rw [det_on]; omega)
theorem det_first (l : List Int) : det (fw first l) = 1 ∨ det (fw first l) = -1 := det_fw l first (Or.inl (by decide))

theorem gcd_of_det {p q u v : Int} (h : p * v - u * q = 1 ∨ p * v - u * q = -1) : Int.gcd p q = 1 := by
  have h1 : (Int.gcd p q : Int) ∣ p * v - u * q := Int.dvd_sub (Int.dvd_trans (Int.gcd_dvd_left ..) (Int.dvd_mul_right ..)) (Int.dvd_trans (Int.gcd_dvd_right ..) (Int.dvd_mul_left ..))
  have h2 : (Int.gcd p q : Int) ∣ 1 := by
    rcases h with h | h
    · rwa [h] at h1
    · rw [h] at h1; simpa using h1
  have := Int.le_of_dvd (by decide) h2
  have h0 : Int.gcd p q ≠ 0 := by
    intro h0
    rw [h0] at h2
    simp at h2
  omega

theorem ev_gcd (l : List Int) : Int.gcd (ev l).1 (ev l).2 = 1 := by
  have := det_first l
  rw [← (fw_first l).1, ← (fw_first l).2]
  exact gcd_of_det this

/-- numbers from 1 on, the last one from 2 on -/
def tailOk : List Int → Prop
  | [] => False
  | [x] => 2 ≤ x
  | x :: y :: l => 1 ≤ x ∧ tailOk (y :: l)
/-- the numbers of a path -/
def canon : List Int → Prop
  | [] => False
  | [x] => 1 ≤ x
  | x :: y :: l => 0 ≤ x ∧ tailOk (y :: l)

theorem tailOk_ev : ∀ l, tailOk l → 0 < (ev l).2 ∧ (ev l).2 < (ev l).1
  | [], h => by simp [tailOk] at h
  | [x], h => by simp [tailOk] at h; simp [ev]; omega
  | x :: y :: l, h => by
    have ih := tailOk_ev (y :: l) h.2
    have hx := h.1
    have : 1 * (ev (y :: l)).1 ≤ x * (ev (y :: l)).1 := Int.mul_le_mul_of_nonneg_right hx (by omega)
    show 0 < (ev (y :: l)).1 ∧ (ev (y :: l)).1 < x * (ev (y :: l)).1 + (ev (y :: l)).2
    omega

theorem canon_ev : ∀ l, canon l → 0 < (ev l).1 ∧ 0 < (ev l).2
  | [], h => by simp [canon] at h
  | [x], h => by simp [canon] at h; simp [ev]; omega
  | x :: y :: l, h => by
    have ih := tailOk_ev (y :: l) h.2
    have hx := h.1
    have : 0 * (ev (y :: l)).1 ≤ x * (ev (y :: l)).1 := Int.mul_le_mul_of_nonneg_right hx (by omega)
    show 0 < x * (ev (y :: l)).1 + (ev (y :: l)).2 ∧ 0 < (ev (y :: l)).1
    omega

/-- the path of a fraction -/
def eu : Nat → Int → Int → List Int
  | 0, _, _ => []
  | k + 1, n, d => if d = 0 then [] else n / d :: eu k d (n % d)

theorem eu_zero (k : Nat) (n : Int) : eu k n 0 = [] := by cases k <;> simp [eu]

theorem div_of (x n m : Int) (h0 : 0 ≤ m) (h1 : m < n) : (x * n + m) / n = x ∧ (x * n + m) % n = m := by
  constructor
  · rw [Int.add_comm, Int.add_mul_ediv_right _ _ (by omega), Int.ediv_eq_zero_of_lt h0 h1]; omega
  · rw [Int.add_comm, Int.add_mul_emod_self_right, Int.emod_eq_of_lt h0 h1]

theorem eu_tail : ∀ (l : List Int) (k : Nat), tailOk l → l.length ≤ k → eu (k + 1) (ev l).1 (ev l).2 = l
  | [], _, h, _ => by simp [tailOk] at h
  | [x], k, _, hk => by
    obtain ⟨k, rfl⟩ : ∃ j, k = j + 1 := ⟨k - 1, by simp at hk; omega⟩
    simp [ev, eu, eu_zero]
  | x :: y :: l, k, h, hk => by
    obtain ⟨k, rfl⟩ : ∃ j, k = j + 1 := ⟨k - 1, by simp at hk; omega⟩
    have he := tailOk_ev (y :: l) h.2
    have ih := eu_tail (y :: l) k h.2 (by simp at hk ⊢; omega)
    obtain ⟨d1, d2⟩ := div_of x (ev (y :: l)).1 (ev (y :: l)).2 (by omega) (by omega)
    show eu (k + 1 + 1) (x * (ev (y :: l)).1 + (ev (y :: l)).2) (ev (y :: l)).1 = _
    rw [eu, if_neg (by omega), d1, d2, ih]

theorem eu_canon : ∀ (l : List Int) (k : Nat), canon l → l.length ≤ k → eu (k + 1) (ev l).1 (ev l).2 = l
  | [], _, h, _ => by simp [canon] at h
  | [x], k, _, hk => by
    obtain ⟨k, rfl⟩ : ∃ j, k = j + 1 := ⟨k - 1, by simp at hk; omega⟩
    simp [ev, eu, eu_zero]
  | x :: y :: l, k, h, hk => by
    obtain ⟨k, rfl⟩ : ∃ j, k = j + 1 := ⟨k - 1, by simp at hk; omega⟩
    have he := tailOk_ev (y :: l) h.2
    have ih := eu_tail (y :: l) k h.2 (by simp at hk ⊢; omega)
    obtain ⟨d1, d2⟩ := div_of x (ev (y :: l)).1 (ev (y :: l)).2 (by omega) (by omega)
    show eu (k + 1 + 1) (x * (ev (y :: l)).1 + (ev (y :: l)).2) (ev (y :: l)).1 = _
    rw [eu, if_neg (by omega), d1, d2, ih]
theorem eu_ev : ∀ (k : Nat) (n d : Int), 0 ≤ n → 0 ≤ d → Int.gcd n d = 1 → d < k → ev (eu k n d) = (n, d) := by
  intro k
  induction k with
  | zero => intro n d _ hd _ hk; omega
  | succ k ih =>
    intro n d hn hd hg hk
    rw [eu]
    by_cases h0 : d = 0
    · subst h0
      rw [if_pos rfl]
      simp at hg
      simp [ev]; omega
    · rw [if_neg h0]
      have h1 := Int.emod_nonneg n (b := d) h0
      have h2 := Int.emod_lt_of_pos n (b := d) (by omega)
      have := ih d (n % d) (by omega) h1 (by rw [gcd_step n d hn (by omega)]; exact hg) (by omega)
      have h3 := Int.mul_ediv_add_emod n d
      simp only [ev, this]
      rw [Int.mul_comm (n / d) d, h3]

theorem eu_tailOk : ∀ (k : Nat) (n d : Int), d < n → 1 ≤ d → Int.gcd n d = 1 → d < k → tailOk (eu k n d) := by
  intro k
  induction k with
  | zero => intro n d _ hd _ hk; omega
  | succ k ih =>
    intro n d hn hd hg hk
    have h1 := Int.emod_nonneg n (b := d) (by omega)
    have h2 := Int.emod_lt_of_pos n (b := d) (by omega)
    have h3 := Int.mul_ediv_add_emod n d
    have hq : 1 ≤ n / d := (Int.le_ediv_iff_mul_le (by omega)).2 (by omega)
    rw [eu, if_neg (by omega)]
    have hgs := gcd_step n d (by omega) (by omega)
    by_cases h0 : n % d = 0
    · rw [h0, eu_zero]
      rw [h0] at hgs
      simp at hgs
      have : d = 1 := by omega
      subst this
      simp [tailOk]
      omega
    · have := ih d (n % d) h2 (by omega) (by omega) (by omega)
      cases he : eu k d (n % d) with
      | nil => rw [he] at this; exact this.elim
      | cons y l => rw [he] at this; exact ⟨hq, this⟩

theorem eu_canonical (k : Nat) (n d : Int) (hn : 1 ≤ n) (hd : 1 ≤ d) (hg : Int.gcd n d = 1) (hk : d < k) : canon (eu k n d) := by
  obtain ⟨k, rfl⟩ : ∃ j, k = j + 1 := ⟨k - 1, by omega⟩
  have h1 := Int.emod_nonneg n (b := d) (by omega)
  have h2 := Int.emod_lt_of_pos n (b := d) (by omega)
  have h3 := Int.mul_ediv_add_emod n d
  have hq : 0 ≤ n / d := Int.ediv_nonneg (by omega) (by omega)
  rw [eu, if_neg (by omega)]
  have hgs := gcd_step n d (by omega) (by omega)
  by_cases h0 : n % d = 0
  · rw [h0, eu_zero]
    rw [h0] at hgs
    simp at hgs
    have : d = 1 := by omega
    subst this
    simp [canon]
    omega
  · have := eu_tailOk k d (n % d) h2 (by omega) (by omega) (by omega)
    cases he : eu k d (n % d) with
    | nil => rw [he] at this; exact this.elim
    | cons y l => rw [he] at this; exact ⟨hq, this⟩

theorem eu_ne (k : Nat) (n d : Int) (hd : 1 ≤ d) : 1 ≤ (eu (k + 1) n d).length := by
  rw [eu, if_neg (by omega)]; simp

theorem tail_len : ∀ l, tailOk l → (2 ^ ((l.length + 1) / 2) : Int) ≤ (ev l).1
  | [], h => by simp [tailOk] at h
  | [x], h => by simp [tailOk] at h; simp [ev]; omega
  | [x, y], h => by
    simp [tailOk] at h
    have : 1 * 2 ≤ x * y := Int.mul_le_mul h.1 h.2 (by omega) (by omega)
    simp [ev]; omega
  | x :: y :: z :: l, h => by
    have h2 := h.2
    have ih := tail_len (z :: l) h2.2
    have e1 := tailOk_ev (z :: l) h2.2
    have m1 : 1 * (ev (y :: z :: l)).1 ≤ x * (ev (y :: z :: l)).1 := Int.mul_le_mul_of_nonneg_right h.1 (by have := tailOk_ev _ h2; omega)
    have m2 : 1 * (ev (z :: l)).1 ≤ y * (ev (z :: l)).1 := Int.mul_le_mul_of_nonneg_right h2.1 (by omega)
    have e3 : (ev (x :: y :: z :: l)).1 = x * (ev (y :: z :: l)).1 + (ev (z :: l)).1 := rfl
    have e4 : (ev (y :: z :: l)).1 = y * (ev (z :: l)).1 + (ev (z :: l)).2 := rfl
    have e5 : ((x :: y :: z :: l).length + 1) / 2 = ((z :: l).length + 1) / 2 + 1 := by simp; omega
    rw [e5, Int.pow_succ]
    omega

theorem pow_lt_inv {m : Nat} (h : (2 ^ m : Int) ≤ 1000000000) : m < 30 := by
  by_cases hm : m < 30
  · exact hm
  · have h1 : (2 : Int) ^ 30 ≤ 2 ^ m := by
      have : (2 : Nat) ^ 30 ≤ 2 ^ m := Nat.pow_le_pow_right (by decide) (by omega)
      exact_mod_cast this
    have h2 : (2 : Int) ^ 30 = 1073741824 := by decide
    omega

theorem tail_len60 (l : List Int) (h : tailOk l) (hb : (ev l).1 ≤ 1000000000) : l.length ≤ 59 := by
  have := pow_lt_inv (Int.le_trans (tail_len l h) hb)
  omega

theorem canon_len (l : List Int) (h : canon l) (hb : (ev l).2 ≤ 1000000000) : l.length ≤ 60 := by
  match l, h with
  | [x], _ => simp
  | x :: y :: l, h => have := tail_len60 (y :: l) h.2 hb; simp at this ⊢; omega

/-- the path of the simplest fraction is one -/
theorem sp_tailOk : ∀ (k : Nat) (a b c d : Int), 0 < b → 0 < d → b < a → a * d ≤ c * b → b + d ≤ k → tailOk (sp k a b c d) := by
  intro k
  induction k with
  | zero => intro a b c d hb hd _ _ hk; omega
  | succ k ih =>
    intro a b c d hb hd hab hle hk
    have hdm := Int.mul_ediv_add_emod a b
    have hr0 := Int.emod_nonneg a (b := b) (by omega)
    have hr1 := Int.emod_lt_of_pos a hb
    have hw : 1 ≤ a / b := (Int.le_ediv_iff_mul_le hb).2 (by omega)
    unfold sp
    generalize a / b = w at *
    generalize a % b = r at *
    have hac : a = w * b + r := by rw [Int.mul_comm w b]; omega
    split
    · rename_i h0
      simp [tailOk]
      by_cases h1 : w = 1
      · subst h1; omega
      · omega
    · rename_i h0
      split
      · simp [tailOk]; omega
      · rename_i h1
        have hrp : 0 < r := by omega
        have hwd : w * d < c := by
          apply lt_of_mul_lt hb
          have e : a * d = w * d * b + r * d := by rw [hac]; simp only [Int.add_mul, Int.mul_add, Int.mul_assoc, Int.mul_comm, Int.mul_left_comm]
          have : 0 < r * d := Int.mul_pos hrp hd
          omega
        have hlt : c < w * d + d := by rw [Int.add_mul] at h1; omega
        have key : d * r ≤ b * (c - w * d) := by
          have e : a * d = b * (w * d) + d * r := by rw [hac]; simp only [Int.add_mul, Int.mul_add, Int.mul_assoc, Int.mul_comm, Int.mul_left_comm]
          rw [Int.mul_sub]; rw [Int.mul_comm c b] at hle; omega
        have := ih d (c - w * d) b r (by omega) hrp (by omega) key (by omega)
        cases he : sp k d (c - w * d) b r with
        | nil => rw [he] at this; exact this.elim
        | cons y l => rw [he] at this; exact ⟨hw, this⟩

theorem sp_canon : ∀ (k : Nat) (a b c d : Int), 0 < a → 0 < b → 0 < d → a * d ≤ c * b → b + d ≤ k → canon (sp k a b c d) := by
  intro k a b c d ha hb hd hle hk
  obtain ⟨k, rfl⟩ : ∃ j, k = j + 1 := ⟨k - 1, by omega⟩
  have hdm := Int.mul_ediv_add_emod a b
  have hr0 := Int.emod_nonneg a (b := b) (by omega)
  have hr1 := Int.emod_lt_of_pos a hb
  have hw : 0 ≤ a / b := Int.ediv_nonneg (by omega) (by omega)
  unfold sp
  generalize a / b = w at *
  generalize a % b = r at *
  have hac : a = w * b + r := by rw [Int.mul_comm w b]; omega
  split
  · rename_i h0
    simp [canon]
    by_cases h1 : w = 0
    · subst h1; omega
    · omega
  · rename_i h0
    split
    · simp [canon]; omega
    · rename_i h1
      have hrp : 0 < r := by omega
      have hwd : w * d < c := by
        apply lt_of_mul_lt hb
        have e : a * d = w * d * b + r * d := by rw [hac]; simp only [Int.add_mul, Int.mul_add, Int.mul_assoc, Int.mul_comm, Int.mul_left_comm]
        have : 0 < r * d := Int.mul_pos hrp hd
        omega
      have hlt : c < w * d + d := by rw [Int.add_mul] at h1; omega
      have key : d * r ≤ b * (c - w * d) := by
        have e : a * d = b * (w * d) + d * r := by rw [hac]; simp only [Int.add_mul, Int.mul_add, Int.mul_assoc, Int.mul_comm, Int.mul_left_comm]
        rw [Int.mul_sub]; rw [Int.mul_comm c b] at hle; omega
      have := sp_tailOk k d (c - w * d) b r (by omega) hrp (by omega) key (by omega)
      cases he : sp k d (c - w * d) b r with
      | nil => rw [he] at this; exact this.elim
      | cons y l => rw [he] at this; exact ⟨hw, this⟩

/-- no path of a fraction in the span is shorter -/
theorem sp_short : ∀ (k : Nat) (a b c d : Int) (k' : Nat) (x y : Int), 0 < b → 0 < d → b + d ≤ k → 0 < a → a * d ≤ c * b →
    0 < x → 0 < y → a * y ≤ x * b → x * d ≤ c * y → y < k' → (sp k a b c d).length ≤ (eu k' x y).length := by
  intro k
  induction k with
  | zero => intro a b c d _ _ _ hb hd hk; omega
  | succ k ih =>
    intro a b c d k' x y hb hd hk ha hle hx hy h2 h3 hk'
    obtain ⟨k', rfl⟩ : ∃ j, k' = j + 1 := ⟨k' - 1, by omega⟩
    have hdm := Int.mul_ediv_add_emod a b
    have hr0 := Int.emod_nonneg a (b := b) (by omega)
    have hr1 := Int.emod_lt_of_pos a hb
    unfold sp
    generalize a / b = w at *
    generalize a % b = r at *
    have hac : a = w * b + r := by rw [Int.mul_comm w b]; omega
    split
    · exact eu_ne k' x y hy
    · rename_i h0
      split
      · exact eu_ne k' x y hy
      · rename_i h1
        have hrp : 0 < r := by omega
        have hwd : w * d < c := by
          apply lt_of_mul_lt hb
          have e : a * d = w * d * b + r * d := by rw [hac]; simp only [Int.add_mul, Int.mul_add, Int.mul_assoc, Int.mul_comm, Int.mul_left_comm]
          have : 0 < r * d := Int.mul_pos hrp hd
          omega
        have hlt : c < w * d + d := by rw [Int.add_mul] at h1; omega
        have key : d * r ≤ b * (c - w * d) := by
          have e : a * d = b * (w * d) + d * r := by rw [hac]; simp only [Int.add_mul, Int.mul_add, Int.mul_assoc, Int.mul_comm, Int.mul_left_comm]
          rw [Int.mul_sub]; rw [Int.mul_comm c b] at hle; omega
        have hwy : w * y < x := by
          apply lt_of_mul_lt hb
          have e3 : a * y = w * y * b + r * y := by rw [hac]; simp only [Int.add_mul, Int.mul_add, Int.mul_assoc, Int.mul_comm, Int.mul_left_comm]
          have : 0 < r * y := Int.mul_pos hrp hy
          omega
        have hwy2 : x < w * y + y := by
          apply lt_of_mul_lt hd
          have e3 : (w * y + y) * d = y * (w * d + d) := by simp only [Int.add_mul, Int.mul_add, Int.mul_assoc, Int.mul_comm, Int.mul_left_comm]
          have : y * c < y * (w * d + d) := Int.mul_lt_mul_of_pos_left hlt hy
          rw [Int.mul_comm c y] at h3
          omega
        obtain ⟨d1, d2⟩ := div_of w y (x - w * y) (by omega) (by omega)
        have hxe : w * y + (x - w * y) = x := by omega
        rw [hxe] at d1 d2
        have := ih d (c - w * d) b r k' y (x - w * y) (by omega) hrp (by omega) hd key hy (by omega) (by
            rw [Int.mul_sub, Int.mul_sub]
            have e4 : d * (w * y) = y * (w * d) := by simp only [Int.mul_assoc, Int.mul_comm, Int.mul_left_comm]
            rw [Int.mul_comm d x, Int.mul_comm y c]; omega) (by
            rw [Int.mul_sub]
            have e3 : a * y = b * (w * y) + y * r := by rw [hac]; simp only [Int.add_mul, Int.mul_add, Int.mul_assoc, Int.mul_comm, Int.mul_left_comm]
            rw [Int.mul_comm b x]; omega) (by omega)
        rw [eu, if_neg (by omega), d1, d2]
        simpa using this
/-- the greatest number of a fraction -/
def Mx : Int := 1000000000

/-- both numbers of a step are within the limit -/
def inl (s : St) : Bool := decide (0 ≤ s.1 ∧ s.1 ≤ 1000000000 ∧ 0 ≤ s.2.1 ∧ s.2.1 ≤ 1000000000)

/-- the steps that a path yields -/
def stepsL (s : St) : List Int → List St
  | [] => []
  | n :: l => if 1000000000 < n then [] else if inl (on s n) = true then on s n :: stepsL (on s n) l else []

theorem ev_pos : ∀ l : List Int, (∀ x ∈ l, 1 ≤ x) → 1 ≤ (ev l).1 ∧ 0 ≤ (ev l).2 := by
  intro l
  induction l with
  | nil => intro _; simp [ev]
  | cons x l ih =>
    intro h
    have h1 := ih (fun y hy => h y (List.mem_cons_of_mem _ hy))
    have hx := h x (List.mem_cons_self)
    have : 1 * (ev l).1 ≤ x * (ev l).1 := Int.mul_le_mul_of_nonneg_right hx (by omega)
    simp only [ev]; omega

theorem fw_ge (l : List Int) : ∀ s : St, (∀ x ∈ l, 1 ≤ x) → 0 ≤ s.1 → 0 ≤ s.2.1 → 0 ≤ s.2.2.1 → 0 ≤ s.2.2.2 → s.1 ≤ (fw s l).1 ∧ s.2.1 ≤ (fw s l).2.1 := by
  intro s hl h1 h2 h3 h4
  obtain ⟨e1, e2⟩ := fw_ev l s
  obtain ⟨p1, p2⟩ := ev_pos l hl
  have a1 : s.1 * 1 ≤ s.1 * (ev l).1 := Int.mul_le_mul_of_nonneg_left p1 h1
  have a2 : s.2.1 * 1 ≤ s.2.1 * (ev l).1 := Int.mul_le_mul_of_nonneg_left p1 h2
  have a3 := Int.mul_nonneg h3 p2
  have a4 := Int.mul_nonneg h4 p2
  omega

theorem stepsL_all (l : List Int) : ∀ s : St, (∀ x ∈ l, 1 ≤ x) → 0 ≤ s.1 → 1 ≤ s.2.1 → 0 ≤ s.2.2.1 → 0 ≤ s.2.2.2 → (fw s l).1 ≤ 1000000000 → (fw s l).2.1 ≤ 1000000000 →
    (stepsL s l).length = l.length ∧ (stepsL s l).getLastD s = fw s l := by
  induction l with
  | nil => intro s _ _ _ _ _ _ _; simp [stepsL, fw]
  | cons n l ih =>
    intro s hl h1 h2 h3 h4 hf1 hf2
    have hn := hl n (List.mem_cons_self)
    have hl' : ∀ x ∈ l, 1 ≤ x := fun y hy => hl y (List.mem_cons_of_mem _ hy)
    have o1 : 0 ≤ (on s n).1 := by have := Int.mul_nonneg (by omega : 0 ≤ n) h1; simp only [on]; omega
    have m2 : n * 1 ≤ n * s.2.1 := Int.mul_le_mul_of_nonneg_left h2 (by omega)
    have o2 : n ≤ (on s n).2.1 := by simp only [on]; omega
    obtain ⟨g1, g2⟩ := fw_ge l (on s n) hl' o1 (by omega) h1 (by have : (on s n).2.2.2 = s.2.1 := rfl; omega)
    have e : fw s (n :: l) = fw (on s n) l := rfl
    rw [e] at hf1 hf2 ⊢
    have hin : inl (on s n) = true := by simp only [inl, decide_eq_true_eq]; omega
    obtain ⟨i1, i2⟩ := ih (on s n) hl' o1 (by omega) h1 (by have : (on s n).2.2.2 = s.2.1 := rfl; omega) hf1 hf2
    rw [stepsL, if_neg (by omega), if_pos hin]
    refine ⟨by simp [i1], ?_⟩
    rw [List.getLastD_cons]
    exact i2

theorem stepsL_le (l : List Int) : ∀ s : St, (stepsL s l).length ≤ l.length := by
  induction l with
  | nil => intro s; simp [stepsL]
  | cons n l ih =>
    intro s
    rw [stepsL]
    split
    · simp
    · split
      · have := ih (on s n); simp; omega
      · simp

theorem stepsL_in (l : List Int) : ∀ s : St, (stepsL s l).length = l.length → l ≠ [] → (fw s l).1 ≤ 1000000000 ∧ (fw s l).2.1 ≤ 1000000000 ∧ (stepsL s l).getLastD s = fw s l := by
  induction l with
  | nil => intro s _ h; exact absurd rfl h
  | cons n l ih =>
    intro s h _
    rw [stepsL] at h ⊢
    split at h
    · simp at h
    · rename_i hn
      split at h
      · rename_i hin
        rw [if_neg hn, if_pos hin, List.getLastD_cons]
        have e : fw s (n :: l) = fw (on s n) l := rfl
        rw [e]
        cases l with
        | nil =>
          simp only [inl, decide_eq_true_eq] at hin
          simp [stepsL, fw]; omega
        | cons m l => exact ih (on s n) (by simpa using h) (by simp)
      · simp at h

/-- all steps of a path with numbers from 1 on (the first one from 0 on) are within the limit just if its fraction is -/
theorem steps_first (l : List Int) (hne : l ≠ []) (h0 : ∀ x, l.head? = some x → 0 ≤ x) (h1 : ∀ x ∈ l.tail, 1 ≤ x) :
    (stepsL first l).length = l.length ↔ (ev l).1 ≤ 1000000000 ∧ (ev l).2 ≤ 1000000000 := by
  obtain ⟨f1, f2⟩ := fw_first l
  constructor
  · intro h
    obtain ⟨a, b, _⟩ := stepsL_in l first h hne
    omega
  · rintro ⟨a, b⟩
    cases l with
    | nil => exact absurd rfl hne
    | cons x l =>
      have hx := h0 x rfl
      have e : on first x = (x, 1, 1, 0) := by simp [on, first]
      have e2 : fw first (x :: l) = fw (x, 1, 1, 0) l := by rw [fw, e]
      rw [e2] at f1 f2
      obtain ⟨g1, g2⟩ := fw_ge l (x, 1, 1, 0) h1 hx (by simp) (by simp) (by simp)
      have hin : inl (x, 1, 1, 0) = true := by simp only [inl, decide_eq_true_eq]; simp at g1; omega
      rw [stepsL, e, if_neg (by simp at g1; omega), if_pos hin]
      have := (stepsL_all l (x, 1, 1, 0) h1 hx (by simp) (by simp) (by simp) (by omega) (by omega)).1
      simp [this]

/-- the last step of a path whose fraction is within the limit -/
theorem last_first (l : List Int) (hne : l ≠ []) (h0 : ∀ x, l.head? = some x → 0 ≤ x) (h1 : ∀ x ∈ l.tail, 1 ≤ x) (a : (ev l).1 ≤ 1000000000) (b : (ev l).2 ≤ 1000000000) :
    (stepsL first l).getLastD first = fw first l :=
  (stepsL_in l first ((steps_first l hne h0 h1).2 ⟨a, b⟩) hne).2.2

theorem tailOk_ge : ∀ l, tailOk l → ∀ x ∈ l, 1 ≤ x
  | [], h => by simp [tailOk] at h
  | [x], h => by simp [tailOk] at h; intro y hy; simp at hy; omega
  | x :: y :: l, h => by
    intro z hz
    rcases List.mem_cons.1 hz with rfl | hz
    · exact h.1
    · exact tailOk_ge (y :: l) h.2 z hz

theorem canon_ge (l : List Int) (h : canon l) : l ≠ [] ∧ (∀ x, l.head? = some x → 0 ≤ x) ∧ ∀ x ∈ l.tail, 1 ≤ x := by
  match l, h with
  | [x], h => simp [canon] at h; simp; omega
  | x :: y :: l, h => exact ⟨by simp, fun z hz => by simp at hz; have := h.1; omega, fun z hz => tailOk_ge _ h.2 z hz⟩

/-- numbers can be a path -/
def tailB : List Int → Bool
  | [] => false
  | [x] => decide (2 ≤ x)
  | x :: y :: l => decide (1 ≤ x) && tailB (y :: l)
def pathB : List Int → Bool
  | [] => false
  | [x] => decide (1 ≤ x)
  | x :: y :: l => decide (0 ≤ x) && tailB (y :: l)
theorem tailB_iff : ∀ l, tailB l = true ↔ tailOk l
  | [] => by simp [tailB, tailOk]
  | [x] => by simp [tailB, tailOk]
  | x :: y :: l => by simp only [tailB, tailOk, Bool.and_eq_true, decide_eq_true_eq, tailB_iff (y :: l)]
theorem pathB_iff : ∀ l, pathB l = true ↔ canon l
  | [] => by simp [pathB, canon]
  | [x] => by simp [pathB, canon]
  | x :: y :: l => by simp only [pathB, canon, Bool.and_eq_true, decide_eq_true_eq, tailB_iff (y :: l)]

/-- the fraction of a path, and the error -/
def follow (l : List Int) : (Int × Int) × Int :=
  if l.length = 0 ∨ 64 < l.length then ((0, 0), 6)
  else if pathB l = false then ((0, 0), 2)
  else if (ev l).1 ≤ 1000000000 ∧ (ev l).2 ≤ 1000000000 then (ev l, 0)
  else ((0, 0), 4)

/-- the least fraction above n / d with a Den of at most k: the first one of them -/
def nxt (n d : Int) : Nat → Int × Int
  | 0 => (0, 0)
  | 1 => (n / d + 1, 1)
  | k + 2 => if (n * (k + 2) / d + 1) * (nxt n d (k + 1)).2 < (nxt n d (k + 1)).1 * (k + 2) then (n * (k + 2) / d + 1, (k + 2 : Nat)) else nxt n d (k + 1)

/-- the simplest fraction of a span -/
structure Simp (a b c d n m : Int) : Prop where
  n0 : 0 < n
  m0 : 0 < m
  lo : a * m ≤ n * b
  hi : n * d ≤ c * m
  min : ∀ x y, 0 < x → 0 < y → a * y ≤ x * b → x * d ≤ c * y → m ≤ y ∧ n ≤ x

theorem sp_simp (k : Nat) (a b c d : Int) (ha : 0 < a) (hb : 0 < b) (hc : 0 < c) (hd : 0 < d) (h : a * d ≤ c * b) (hk : b + d ≤ k) : Simp a b c d (ev (sp k a b c d)).1 (ev (sp k a b c d)).2 := by
  obtain ⟨h1, h2, h3, h4, h5⟩ := sp_good k a b c d ha hb hc hd h hk
  exact ⟨h1, h2, h3, h4, h5⟩

theorem Simp.uniq {a b c d n m n' m' : Int} (h : Simp a b c d n m) (h' : Simp a b c d n' m') : n = n' ∧ m = m' := by
  have h1 := h.min n' m' h'.n0 h'.m0 h'.lo h'.hi
  have h2 := h'.min n m h.n0 h.m0 h.lo h.hi
  omega

theorem Simp.turn {a b c d n m : Int} (h : Simp a b c d n m) : Simp d c b a m n := by
  refine ⟨h.m0, h.n0, ?_, ?_, ?_⟩
  · have := h.hi; rw [Int.mul_comm d n, Int.mul_comm m c]; exact this
  · have := h.lo; rw [Int.mul_comm m a, Int.mul_comm b n]; exact this
  · intro x y hx hy h1 h2
    have := h.min y x hy hx (by rw [Int.mul_comm a x, Int.mul_comm y b]; exact h2) (by rw [Int.mul_comm y d, Int.mul_comm c x]; exact h1)
    omega

theorem Simp.add {a b c d n m t : Int} (h : Simp a b c d n m) (ha : 0 < a) (hb : 0 < b) (ht : 0 ≤ t) : Simp (a + t * b) b (c + t * d) d (n + t * m) m := by
  have h3 := h.lo
  have h4 := h.hi
  have hm := Int.mul_nonneg ht (Int.le_of_lt h.m0)
  have hn := h.n0
  refine ⟨by omega, h.m0, ?_, ?_, ?_⟩
  · simp only [Int.add_mul, Int.mul_add, Int.mul_assoc, Int.mul_comm, Int.mul_left_comm] at *; omega
  · simp only [Int.add_mul, Int.mul_add, Int.mul_assoc, Int.mul_comm, Int.mul_left_comm] at *; omega
  · intro x y hx hy h1 h2
    have e1 : (x - t * y) * b = x * b - t * b * y := by simp only [Int.sub_mul, Int.mul_sub, Int.mul_assoc, Int.mul_comm, Int.mul_left_comm]
    have e2 : (x - t * y) * d = x * d - t * d * y := by simp only [Int.sub_mul, Int.mul_sub, Int.mul_assoc, Int.mul_comm, Int.mul_left_comm]
    rw [Int.add_mul] at h1 h2
    have hay := Int.mul_pos ha hy
    have hp : 0 < x - t * y := by
      by_cases hp : 0 < x - t * y
      · exact hp
      · have : (x - t * y) * b ≤ 0 * b := Int.mul_le_mul_of_nonneg_right (by omega) (by omega)
        omega
    have := h.min (x - t * y) y hp hy (by omega) (by omega)
    have h7 := Int.mul_le_mul_of_nonneg_left this.1 ht
    omega

/-- both numbers of the step before, and what is left of the last one, are from 0 on -/
theorem fw_parts (l : List Int) : ∀ s : St, (∀ x ∈ l, 1 ≤ x) → 0 ≤ s.2.2.1 → 0 ≤ s.2.2.2 → s.2.2.1 ≤ s.1 → s.2.2.2 ≤ s.2.1 →
    0 ≤ (fw s l).2.2.1 ∧ 0 ≤ (fw s l).2.2.2 ∧ (fw s l).2.2.1 ≤ (fw s l).1 ∧ (fw s l).2.2.2 ≤ (fw s l).2.1 := by
  induction l with
  | nil => intro s _ h1 h2 h3 h4; exact ⟨h1, h2, h3, h4⟩
  | cons n l ih =>
    intro s hl h1 h2 h3 h4
    have hn := hl n (List.mem_cons_self)
    have m1 : 1 * s.1 ≤ n * s.1 := Int.mul_le_mul_of_nonneg_right hn (by omega)
    have m2 : 1 * s.2.1 ≤ n * s.2.1 := Int.mul_le_mul_of_nonneg_right hn (by omega)
    exact ih (on s n) (fun y hy => hl y (List.mem_cons_of_mem _ hy)) (by simp only [on]; omega) (by simp only [on]; omega) (by simp only [on]; omega) (by simp only [on]; omega)

theorem canon_parts (l : List Int) (h : canon l) : 0 ≤ (fw first l).2.2.1 ∧ 0 ≤ (fw first l).2.2.2 ∧ (fw first l).2.2.1 ≤ (fw first l).1 ∧ (fw first l).2.2.2 ≤ (fw first l).2.1 := by
  match l, h with
  | [x], h => simp [canon] at h; simp [fw, on, first]; omega
  | x :: y :: l, h =>
    have hx := h.1
    have hl := tailOk_ge (y :: l) h.2
    have hy := hl y (List.mem_cons_self)
    have e : fw first (x :: y :: l) = fw (y * x + 1, y * 1 + 0, x, 1) l := by simp [fw, on, first]
    rw [e]
    have : 1 * x ≤ y * x := Int.mul_le_mul_of_nonneg_right hy hx
    exact fw_parts l _ (fun z hz => hl z (List.mem_cons_of_mem _ hz)) hx (by simp) (by simp only; omega) (by simp only; omega)

/-- a right proof: two neighbours, one below and one above the span -/
def ProofOk (a b c d l1 l2 r1 r2 : Int) : Prop := 0 ≤ l1 ∧ 1 ≤ l2 ∧ 1 ≤ r1 ∧ 0 ≤ r2 ∧ l1 * b < a * l2 ∧ c * r2 < r1 * d ∧ l2 * r1 - l1 * r2 = 1

/-- no right proof has a greater bound than the Den of the simplest fraction, nor than that of any fraction in the span -/
theorem proof_bound {a b c d l1 l2 r1 r2 n m : Int} (h : ProofOk a b c d l1 l2 r1 r2) (hb : 0 < b) (hd : 0 < d) (hn : 0 < n) (hm : 0 < m) (hlo : a * m ≤ n * b) (hhi : n * d ≤ c * m) : l2 + r2 ≤ m := by
  obtain ⟨h1, h2, h3, h4, h5, h6, h7⟩ := h
  have k1 : l1 * m < l2 * n := by
    apply lt_of_mul_lt hb
    have e1 : l1 * m * b = l1 * b * m := by simp only [Int.mul_assoc, Int.mul_comm, Int.mul_left_comm]
    have e2 : l2 * n * b = l2 * (n * b) := by simp only [Int.mul_assoc, Int.mul_comm, Int.mul_left_comm]
    have e3 : l1 * b * m < a * l2 * m := Int.mul_lt_mul_of_pos_right h5 hm
    have e4 : l2 * (a * m) ≤ l2 * (n * b) := Int.mul_le_mul_of_nonneg_left hlo (by omega)
    have e5 : a * l2 * m = l2 * (a * m) := by simp only [Int.mul_assoc, Int.mul_comm, Int.mul_left_comm]
    omega
  have k2 : n * r2 < r1 * m := by
    apply lt_of_mul_lt hd
    have e1 : n * r2 * d = r2 * (n * d) := by simp only [Int.mul_assoc, Int.mul_comm, Int.mul_left_comm]
    have e2 : r1 * m * d = r1 * d * m := by simp only [Int.mul_assoc, Int.mul_comm, Int.mul_left_comm]
    have e3 : c * r2 * m < r1 * d * m := Int.mul_lt_mul_of_pos_right h6 hm
    have e4 : r2 * (n * d) ≤ r2 * (c * m) := Int.mul_le_mul_of_nonneg_left hhi h4
    have e5 : c * r2 * m = r2 * (c * m) := by simp only [Int.mul_assoc, Int.mul_comm, Int.mul_left_comm]
    omega
  have e : m = l2 * (r1 * m - n * r2) + r2 * (l2 * n - l1 * m) := by
    have : m * (l2 * r1 - l1 * r2) = l2 * (r1 * m - n * r2) + r2 * (l2 * n - l1 * m) := by
      simp only [Int.mul_sub, Int.mul_assoc, Int.mul_comm, Int.mul_left_comm]; omega
    rw [h7] at this; omega
  have p1 : l2 * 1 ≤ l2 * (r1 * m - n * r2) := Int.mul_le_mul_of_nonneg_left (by omega) (by omega)
  have p2 : r2 * 1 ≤ r2 * (l2 * n - l1 * m) := Int.mul_le_mul_of_nonneg_left (by omega) h4
  omega

/-- two neighbours of which the simplest fraction is made prove it -/
theorem parts_proof {a b c d n m l1 l2 r1 r2 : Int} (h : Simp a b c d n m) (ha : 0 < a) (hb : 0 < b) (hc : 0 < c) (hd : 0 < d) (h1 : 0 ≤ l1) (h2 : 0 ≤ l2) (h3 : 0 ≤ r1) (h4 : 0 ≤ r2)
    (hn : l1 + r1 = n) (hm : l2 + r2 = m) (hdet : l2 * r1 - l1 * r2 = 1) : ProofOk a b c d l1 l2 r1 r2 := by
  have hn0 := h.n0
  have hm0 := h.m0
  have hl2 : 1 ≤ l2 := by
    by_cases hz : l2 = 0
    · subst hz
      have := Int.mul_nonneg h1 h4
      omega
    · omega
  have hr1 : 1 ≤ r1 := by
    by_cases hz : r1 = 0
    · subst hz
      have := Int.mul_nonneg h1 h4
      omega
    · omega
  subst hn hm
  have lo := h.lo
  have hi := h.hi
  refine ⟨h1, hl2, hr1, h4, ?_, ?_, hdet⟩
  · by_cases hlt : l1 * b < a * l2
    · exact hlt
    · have hge : a * l2 ≤ l1 * b := by omega
      have hpos := Int.mul_pos ha (by omega : 0 < l2)
      have hl1 : 0 < l1 := by
        by_cases hz : l1 = 0
        · subst hz; omega
        · omega
      have hin : l1 * d ≤ c * l2 := by
        apply le_of_mul_le (by omega : 0 < l2 + r2)
        have e1 : l1 * d * (l2 + r2) = d * (l1 * l2 + l1 * r2) := by simp only [Int.mul_add, Int.mul_assoc, Int.mul_comm, Int.mul_left_comm]
        have e2 : d * (l2 * (l1 + r1)) = l2 * ((l1 + r1) * d) := by simp only [Int.mul_assoc, Int.mul_comm, Int.mul_left_comm]
        have e3 : l2 * ((l1 + r1) * d) ≤ l2 * (c * (l2 + r2)) := Int.mul_le_mul_of_nonneg_left hi (by omega)
        have e4 : l2 * (c * (l2 + r2)) = c * l2 * (l2 + r2) := by simp only [Int.mul_assoc, Int.mul_comm, Int.mul_left_comm]
        have e5 : l1 * l2 + l1 * r2 ≤ l2 * (l1 + r1) := by rw [Int.mul_add, Int.mul_comm l1 l2]; omega
        have e6 := Int.mul_le_mul_of_nonneg_left e5 (Int.le_of_lt hd)
        omega
      have := h.min l1 l2 hl1 (by omega) hge hin
      omega
  · by_cases hlt : c * r2 < r1 * d
    · exact hlt
    · have hge : r1 * d ≤ c * r2 := by omega
      have hpos := Int.mul_pos (by omega : 0 < r1) hd
      have hr2 : 0 < r2 := by
        by_cases hz : r2 = 0
        · subst hz; omega
        · omega
      have hin : a * r2 ≤ r1 * b := by
        apply le_of_mul_le (by omega : 0 < l2 + r2)
        have e1 : a * r2 * (l2 + r2) = r2 * (a * (l2 + r2)) := by simp only [Int.mul_assoc, Int.mul_comm, Int.mul_left_comm]
        have e3 : r2 * (a * (l2 + r2)) ≤ r2 * ((l1 + r1) * b) := Int.mul_le_mul_of_nonneg_left lo (by omega)
        have e4 : r2 * ((l1 + r1) * b) = b * (r2 * (l1 + r1)) := by simp only [Int.mul_assoc, Int.mul_comm, Int.mul_left_comm]
        have e5 : r2 * (l1 + r1) ≤ r1 * (l2 + r2) := by rw [Int.mul_add, Int.mul_add, Int.mul_comm r2 l1, Int.mul_comm r2 r1, Int.mul_comm r1 l2]; omega
        have e6 := Int.mul_le_mul_of_nonneg_left e5 (Int.le_of_lt hb)
        have e7 : b * (r1 * (l2 + r2)) = r1 * b * (l2 + r2) := by simp only [Int.mul_assoc, Int.mul_comm, Int.mul_left_comm]
        omega
      have := h.min r1 r2 (by omega) hr2 hin hge
      omega

/-- what nxt has found -/
structure Nx (n d : Int) (k : Nat) (x y : Int) : Prop where
  y1 : 1 ≤ y
  yk : y ≤ k
  x1 : 1 ≤ x
  gt : n * y < x * d
  min : ∀ j m : Int, 1 ≤ j → j ≤ k → n * j < m * d → x * j ≤ m * y
  fst : ∀ j m : Int, 1 ≤ j → j < y → n * j < m * d → x * j < m * y

theorem div_gt (n j d : Int) (hd : 0 < d) (hn : 0 ≤ n * j) : n * j < (n * j / d + 1) * d ∧ 1 ≤ n * j / d + 1 ∧ ∀ m, n * j < m * d → n * j / d + 1 ≤ m := by
  have h1 := Int.mul_ediv_add_emod (n * j) d
  have h2 := Int.emod_nonneg (n * j) (b := d) (by omega)
  have h3 := Int.emod_lt_of_pos (n * j) hd
  have h4 : 0 ≤ n * j / d := Int.ediv_nonneg hn (by omega)
  refine ⟨?_, by omega, fun m hm => ?_⟩
  · rw [Int.add_mul, Int.mul_comm (n * j / d) d]; omega
  · have : n * j / d < m := Int.ediv_lt_of_lt_mul hd hm
    omega

theorem nxt_nx (n d : Int) (hn : 1 ≤ n) (hd : 1 ≤ d) : ∀ k : Nat, 1 ≤ k → Nx n d k (nxt n d k).1 (nxt n d k).2 := by
  intro k
  induction k with
  | zero => intro h; omega
  | succ k ih =>
    intro _
    cases k with
    | zero =>
      obtain ⟨g1, g2, g3⟩ := div_gt n 1 d (by omega) (by omega)
      rw [Int.mul_one] at g1 g2 g3
      refine ⟨by simp [nxt], by simp [nxt], by simpa [nxt] using g2, by simpa [nxt] using g1, ?_, ?_⟩
      · intro j m h1 h2 h3
        have : j = 1 := by omega
        subst this
        rw [Int.mul_one] at h3
        have := g3 m h3
        simp [nxt]; omega
      · intro j m h1 h2; simp [nxt] at h2; omega
    | succ k =>
      have ih := ih (by omega)
      have hnk : 0 ≤ n * ((k : Int) + 2) := Int.mul_nonneg (by omega) (by omega)
      obtain ⟨g1, g2, g3⟩ := div_gt n ((k : Int) + 2) d (by omega) hnk
      rw [nxt]
      generalize hx : (nxt n d (k + 1)).1 = x at *
      generalize hy : (nxt n d (k + 1)).2 = y at *
      generalize hc : n * ((k : Int) + 2) / d + 1 = c at *
      have hy1 := ih.y1
      have hyk := ih.yk
      split
      · rename_i hlt
        refine ⟨by simp only; omega, by simp only; omega, g2, by simpa using g1, ?_, ?_⟩
        · intro j m h1 h2 h3
          simp only
          by_cases hj : j = (k : Int) + 2
          · subst hj
            have := Int.mul_le_mul_of_nonneg_right (g3 m h3) (by omega : (0 : Int) ≤ (k : Int) + 2)
            have e : ((k + 2 : Nat) : Int) = (k : Int) + 2 := by omega
            rw [e]; exact this
          · have hm := ih.min j m h1 (by omega) h3
            apply le_of_mul_le (by omega : 0 < y)
            have a1 : c * y * j ≤ x * ((k : Int) + 2) * j := Int.mul_le_mul_of_nonneg_right (by omega) (by omega)
            have a2 : x * j * ((k : Int) + 2) ≤ m * y * ((k : Int) + 2) := Int.mul_le_mul_of_nonneg_right hm (by omega)
            have e : ((k + 2 : Nat) : Int) = (k : Int) + 2 := by omega
            have e1 : c * j * y = c * y * j := by simp only [Int.mul_assoc, Int.mul_comm, Int.mul_left_comm]
            have e2 : x * ((k : Int) + 2) * j = x * j * ((k : Int) + 2) := by simp only [Int.mul_assoc, Int.mul_comm, Int.mul_left_comm]
            have e3 : m * ((k : Int) + 2) * y = m * y * ((k : Int) + 2) := by simp only [Int.mul_assoc, Int.mul_comm, Int.mul_left_comm]
            rw [e]; omega
        · intro j m h1 h2 h3
          simp only at h2 ⊢
          have hm := ih.min j m h1 (by omega) h3
          apply lt_of_mul_lt (by omega : 0 < y)
          have a1 : c * y * j < x * ((k : Int) + 2) * j := Int.mul_lt_mul_of_pos_right hlt (by omega)
          have a2 : x * j * ((k : Int) + 2) ≤ m * y * ((k : Int) + 2) := Int.mul_le_mul_of_nonneg_right hm (by omega)
          have e : ((k + 2 : Nat) : Int) = (k : Int) + 2 := by omega
          have e1 : c * j * y = c * y * j := by simp only [Int.mul_assoc, Int.mul_comm, Int.mul_left_comm]
          have e2 : x * ((k : Int) + 2) * j = x * j * ((k : Int) + 2) := by simp only [Int.mul_assoc, Int.mul_comm, Int.mul_left_comm]
          have e3 : m * ((k : Int) + 2) * y = m * y * ((k : Int) + 2) := by simp only [Int.mul_assoc, Int.mul_comm, Int.mul_left_comm]
          rw [e]; omega
      · rename_i hlt
        rw [hx, hy]
        refine ⟨ih.y1, by omega, ih.x1, ih.gt, ?_, ih.fst⟩
        intro j m h1 h2 h3
        by_cases hj : j = (k : Int) + 2
        · subst hj
          have := Int.mul_le_mul_of_nonneg_right (g3 m h3) (by omega : (0 : Int) ≤ y)
          omega
        · exact ih.min j m h1 (by omega) h3

theorem Nx.gcd {n d x y : Int} {k : Nat} (h : Nx n d k x y) (hd : 1 ≤ d) : Int.gcd x y = 1 := by
  have hy := h.y1
  have hx := h.x1
  obtain ⟨x', hx'⟩ := Int.gcd_dvd_left x y
  obtain ⟨y', hy'⟩ := Int.gcd_dvd_right x y
  generalize hg : Int.gcd x y = g at *
  have hg0 : (0 : Int) < g := by
    by_cases h0 : g = 0
    · subst h0; simp at hx'; omega
    · omega
  by_cases hg1 : g = 1
  · exact hg1
  · have hy0 : 1 ≤ y' := by
      by_cases h1 : 1 ≤ y'
      · exact h1
      · have : (g : Int) * y' ≤ g * 0 := Int.mul_le_mul_of_nonneg_left (by omega) (by omega)
        omega
    have hlt : y' < y := by
      have : 2 * y' ≤ g * y' := Int.mul_le_mul_of_nonneg_right (by omega) (by omega)
      omega
    have hgt : n * y' < x' * d := by
      apply lt_of_mul_lt hg0
      have := h.gt
      have e1 : n * y' * g = n * y := by rw [hy']; simp only [Int.mul_assoc, Int.mul_comm, Int.mul_left_comm]
      have e2 : x' * d * g = x * d := by rw [hx']; simp only [Int.mul_assoc, Int.mul_comm, Int.mul_left_comm]
      omega
    have := h.fst y' x' hy0 hlt hgt
    have e : x * y' = x' * y := by rw [hy', hx']; simp only [Int.mul_assoc, Int.mul_comm, Int.mul_left_comm]
    omega

theorem bezout {n d : Int} (hn : 1 ≤ n) (hd : 1 ≤ d) (hg : Int.gcd n d = 1) : ∃ u v : Int, d * u - n * v = 1 := by
  have he := eu_ev (d.toNat + 1) n d (by omega) (by omega) hg (by omega)
  have hdet := det_first (eu (d.toNat + 1) n d)
  obtain ⟨f1, f2⟩ := fw_first (eu (d.toNat + 1) n d)
  rw [he] at f1 f2
  simp only at f1 f2
  unfold det at hdet
  rw [f1, f2] at hdet
  generalize (fw first (eu (d.toNat + 1) n d)).2.2.1 = p at *
  generalize (fw first (eu (d.toNat + 1) n d)).2.2.2 = q at *
  rcases hdet with h | h
  · exact ⟨-p, -q, by rw [Int.mul_neg, Int.mul_neg, Int.mul_comm d p]; omega⟩
  · exact ⟨p, q, by rw [Int.mul_comm d p]; omega⟩

/-- a fraction and its neighbour -/
theorem Nx.det {n d x y : Int} {k : Nat} (h : Nx n d k x y) (hn : 1 ≤ n) (hd : 1 ≤ d) (hg : Int.gcd n d = 1) (hk : d ≤ k) : d * x - n * y = 1 := by
  obtain ⟨u0, v0, h0⟩ := bezout hn hd hg
  have t1 := Int.mul_ediv_add_emod ((k : Int) - v0) d
  have t2 := Int.emod_nonneg ((k : Int) - v0) (b := d) (by omega)
  have t3 := Int.emod_lt_of_pos ((k : Int) - v0) (by omega : 0 < d)
  generalize ((k : Int) - v0) / d = t at *
  generalize ((k : Int) - v0) % d = r at *
  obtain ⟨v, hv⟩ : ∃ v, v = v0 + d * t := ⟨_, rfl⟩
  obtain ⟨u, hu⟩ : ∃ u, u = u0 + n * t := ⟨_, rfl⟩
  have huv : d * u - n * v = 1 := by
    rw [hu, hv]; simp only [Int.mul_add, Int.mul_assoc, Int.mul_comm, Int.mul_left_comm] at *; omega
  have hv1 : 1 ≤ v := by omega
  have hvk : v ≤ k := by omega
  have hy1 := h.y1
  have hx1 := h.x1
  have hyk := h.yk
  have hgt := h.gt
  have hgu : n * v < u * d := by rw [Int.mul_comm u d]; omega
  have hle := h.min v u hv1 hvk hgu
  have hdx : 1 ≤ d * x - n * y := by rw [Int.mul_comm d x]; omega
  by_cases hlt : x * v < u * y
  · have e : y = d * (u * y - x * v) + v * (d * x - n * y) := by
      have : y * (d * u - n * v) = d * (u * y - x * v) + v * (d * x - n * y) := by
        simp only [Int.mul_sub, Int.mul_assoc, Int.mul_comm, Int.mul_left_comm]; omega
      rw [huv] at this; omega
    have p1 : d * 1 ≤ d * (u * y - x * v) := Int.mul_le_mul_of_nonneg_left (by omega) (by omega)
    have p2 : v * 1 ≤ v * (d * x - n * y) := Int.mul_le_mul_of_nonneg_left hdx (by omega)
    omega
  · have heq : x * v = u * y := by omega
    have e1 : y = v * (d * x - n * y) := by
      have : y * (d * u - n * v) = d * (u * y - x * v) + v * (d * x - n * y) := by
        simp only [Int.mul_sub, Int.mul_assoc, Int.mul_comm, Int.mul_left_comm]; omega
      rw [huv, heq] at this; simp at this; omega
    have e2 : x = u * (d * x - n * y) := by
      have : x * (d * u - n * v) = n * (u * y - x * v) + u * (d * x - n * y) := by
        simp only [Int.mul_sub, Int.mul_assoc, Int.mul_comm, Int.mul_left_comm]; omega
      rw [huv, heq] at this; simp at this; omega
    have hgc := h.gcd hd
    generalize d * x - n * y = z at *
    have h1 : z ∣ x := ⟨u, by rw [Int.mul_comm z u]; exact e2⟩
    have h2 : z ∣ y := ⟨v, by rw [Int.mul_comm z v]; exact e1⟩
    have h3 := Int.dvd_coe_gcd h1 h2
    rw [hgc] at h3
    have := Int.le_of_dvd (by decide) h3
    omega

end Um
