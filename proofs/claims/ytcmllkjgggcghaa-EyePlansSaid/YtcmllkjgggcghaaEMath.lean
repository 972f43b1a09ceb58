/- Plain laws of plans: in how many parts so many of some plates are read right. -/
import Derived.Lib.Hide
set_option linter.unusedSimpArgs false
set_option linter.unusedVariables false
namespace Em

/-- in how many parts r of n plates are read right: N by N + M -/
def cnt (N M : Int) : Nat → Nat → Int
  | 0, 0 => 1
  | 0, _ + 1 => 0
  | n + 1, 0 => cnt N M n 0 * M
  | n + 1, r + 1 => cnt N M n (r + 1) * M + cnt N M n r * N

/-- the sum of the first ones -/
def head (N M : Int) (n : Nat) : Nat → Int
  | 0 => 0
  | r + 1 => head N M n r + cnt N M n r

variable {N M : Int}

theorem cnt_nonneg (hN : 0 ≤ N) (hM : 0 ≤ M) : ∀ n r, 0 ≤ cnt N M n r
  | 0, 0 => by simp [cnt]
  | 0, _ + 1 => by simp [cnt]
  | n + 1, 0 => by rw [cnt]; exact Int.mul_nonneg (cnt_nonneg hN hM n 0) hM
  | n + 1, r + 1 => by rw [cnt]; exact Int.add_nonneg (Int.mul_nonneg (cnt_nonneg hN hM n (r + 1)) hM) (Int.mul_nonneg (cnt_nonneg hN hM n r) hN)

theorem head_mono (hN : 0 ≤ N) (hM : 0 ≤ M) (n r : Nat) : ∀ k, head N M n r ≤ head N M n (r + k)
  | 0 => Int.le_refl _
  | k + 1 => by
    have h1 := head_mono hN hM n r k
    have h2 := cnt_nonneg hN hM n (r + k)
    have e : head N M n (r + (k + 1)) = head N M n (r + k) + cnt N M n (r + k) := rfl
    omega

theorem head_le {N M : Int} (hN : 0 ≤ N) (hM : 0 ≤ M) (n r s : Nat) (h : r ≤ s) : head N M n r ≤ head N M n s := by
  obtain ⟨k, rfl⟩ : ∃ k, s = r + k := ⟨s - r, by omega⟩
  exact head_mono hN hM n r k

theorem head_nonneg (hN : 0 ≤ N) (hM : 0 ≤ M) (n r : Nat) : 0 ≤ head N M n r := head_le hN hM n 0 r (Nat.zero_le _)

theorem head_succ : ∀ n r, head N M (n + 1) (r + 1) = head N M n (r + 1) * M + head N M n r * N
  | n, 0 => by simp [head, cnt]
  | n, r + 1 => by
    have h := head_succ n r
    have e1 : head N M (n + 1) (r + 1 + 1) = head N M (n + 1) (r + 1) + cnt N M (n + 1) (r + 1) := rfl
    have e2 : head N M n (r + 1 + 1) = head N M n (r + 1) + cnt N M n (r + 1) := rfl
    have e3 : head N M n (r + 1) = head N M n r + cnt N M n r := rfl
    rw [e1, h, cnt, e2, Int.add_mul]
    have e4 : head N M n (r + 1) * N = head N M n r * N + cnt N M n r * N := by rw [e3, Int.add_mul]
    omega

theorem pow_nonneg {D : Int} (h : 0 ≤ D) : ∀ n : Nat, 0 ≤ D ^ n
  | 0 => by simp
  | n + 1 => by rw [Int.pow_succ]; exact Int.mul_nonneg (pow_nonneg h n) h

theorem head_bound (hN : 0 ≤ N) (hM : 0 ≤ M) : ∀ n r, head N M n r ≤ (N + M) ^ n
  | 0, r => by
    have : ∀ r, head N M 0 r ≤ 1 := by
      intro r
      induction r with
      | zero => simp [head]
      | succ r ih =>
        cases r with
        | zero => simp [head, cnt]
        | succ r =>
          have e : head N M 0 (r + 1 + 1) = head N M 0 (r + 1) + 0 := rfl
          omega
    simpa using this r
  | n + 1, 0 => pow_nonneg (by omega) _
  | n + 1, r + 1 => by
    have h1 := head_bound hN hM n (r + 1)
    have h2 := head_bound hN hM n r
    rw [head_succ, Int.pow_succ, Int.mul_add, Int.add_comm]
    have g1 := Int.mul_le_mul_of_nonneg_right h1 hM
    have g2 := Int.mul_le_mul_of_nonneg_right h2 hN
    omega

theorem cnt_bound (hN : 0 ≤ N) (hM : 0 ≤ M) (n r : Nat) : cnt N M n r ≤ (N + M) ^ n := by
  have h := head_bound hN hM n (r + 1)
  have h2 := head_nonneg hN hM n r
  have e : head N M n (r + 1) = head N M n r + cnt N M n r := rfl
  omega

theorem cnt_above : ∀ n r, n < r → cnt N M n r = 0
  | 0, 0, h => by omega
  | 0, _ + 1, _ => rfl
  | n + 1, 0, h => by omega
  | n + 1, r + 1, h => by rw [cnt, cnt_above n (r + 1) (by omega), cnt_above n r (by omega)]; simp

theorem head_all : ∀ n, head N M n (n + 1) = (N + M) ^ n
  | 0 => by simp [head, cnt]
  | n + 1 => by
    have e : head N M n (n + 1 + 1) = head N M n (n + 1) + cnt N M n (n + 1) := rfl
    rw [head_succ, e, head_all n, cnt_above n (n + 1) (by omega), Int.pow_succ, Int.mul_add, Int.add_comm]
    simp

theorem head_full (n : Nat) : ∀ k, head N M n (n + 1 + k) = (N + M) ^ n
  | 0 => head_all n
  | k + 1 => by
    have e : head N M n (n + 1 + (k + 1)) = head N M n (n + 1 + k) + cnt N M n (n + 1 + k) := rfl
    rw [e, head_full n k, cnt_above n _ (by omega)]; simp

/-- the tail: at least r of n plates -/
def tail (N M : Int) (n r : Nat) : Int := (N + M) ^ n - head N M n r

theorem tail_nonneg (hN : 0 ≤ N) (hM : 0 ≤ M) (n r : Nat) : 0 ≤ tail N M n r := by
  have := head_bound hN hM n r
  unfold tail
  omega
theorem tail_bound (hN : 0 ≤ N) (hM : 0 ≤ M) (n r : Nat) : tail N M n r ≤ (N + M) ^ n := by
  have := head_nonneg hN hM n r
  unfold tail
  omega
theorem tail_step (n r : Nat) : tail N M n r = cnt N M n r + tail N M n (r + 1) := by
  have e : head N M n (r + 1) = head N M n r + cnt N M n r := rfl
  unfold tail
  omega
theorem tail_above (n r : Nat) (h : n < r) : tail N M n r = 0 := by
  obtain ⟨k, rfl⟩ : ∃ k, r = n + 1 + k := ⟨r - (n + 1), by omega⟩
  unfold tail
  rw [head_full]; omega

/-- in how many ways k of n things can be chosen -/
def ch : Nat → Nat → Nat
  | _, 0 => 1
  | 0, _ + 1 => 0
  | n + 1, k + 1 => ch n k + ch n (k + 1)

theorem ch_above : ∀ n k, n < k → ch n k = 0
  | _, 0, h => by omega
  | 0, _ + 1, _ => rfl
  | n + 1, k + 1, h => by rw [ch, ch_above n k (by omega), ch_above n (k + 1) (by omega)]

theorem ch_step : ∀ n, n < 13 → ∀ k, k < 13 → k ≤ n → ch n k * (n - k) / (k + 1) = ch n (k + 1) ∧ ch n k ≤ 924 := by decide

theorem cnt_choose : ∀ n k, k ≤ n → cnt N M n k = (ch n k : Int) * N ^ k * M ^ (n - k)
  | 0, 0, _ => by simp [cnt, ch]
  | 0, _ + 1, h => by omega
  | n + 1, 0, _ => by
    rw [cnt, cnt_choose n 0 (by omega)]
    have e1 : ch (n + 1) 0 = 1 := rfl
    have e2 : ch n 0 = 1 := by cases n <;> rfl
    rw [e1, e2]
    simp only [Nat.sub_zero, Int.pow_succ, Int.mul_assoc]
  | n + 1, k + 1, h => by
    rw [cnt, ch, cnt_choose n k (by omega)]
    have e3 : (n + 1 - (k + 1)) = n - k := by omega
    rw [e3]
    have f1 : (ch n k : Int) * N ^ k * M ^ (n - k) * N = (ch n k : Int) * N ^ (k + 1) * M ^ (n - k) := by
      rw [Int.pow_succ]; simp only [Int.mul_assoc, Int.mul_comm, Int.mul_left_comm]
    rw [f1]
    by_cases hk : k + 1 ≤ n
    · rw [cnt_choose n (k + 1) hk]
      have e4 : n - k = n - (k + 1) + 1 := by omega
      have f2 : (ch n (k + 1) : Int) * N ^ (k + 1) * M ^ (n - (k + 1)) * M = (ch n (k + 1) : Int) * N ^ (k + 1) * M ^ (n - k) := by
        have e5 : M ^ (n - k) = M ^ (n - (k + 1)) * M := by rw [e4, Int.pow_succ]
        rw [e5]; simp only [Int.mul_assoc]
      rw [f2, Int.natCast_add, Int.add_mul, Int.add_mul]
      omega
    · rw [cnt_above n (k + 1) (by omega), ch_above n (k + 1) (by omega)]
      simp

/-- a chance, with Den up to a number -/
def isCh (n d m : Int) : Bool := decide (1 ≤ d ∧ d ≤ m ∧ 0 ≤ n ∧ n ≤ d ∧ Int.gcd n d = 1)
/-- a fraction in least terms -/
def red (n d : Int) : Int × Int := (n / (Int.gcd n d : Int), d / (Int.gcd n d : Int))

/-- a plan keeps printed odds -/
def keeps (gN gM sN sM oN oD iN iD : Int) (n r : Nat) : Bool := decide (tail gN gM n r * oD ≤ oN * (gN + gM) ^ n) && decide (head sN sM n r * iD ≤ iN * (sN + sM) ^ n)

/-- the first number of right ones that keeps both, from r on; k more are looked at -/
def rightFrom (p : Nat → Bool) : Nat → Nat → Option Nat
  | _, 0 => none
  | r, k + 1 => if p r = true then some r else rightFrom p (r + 1) k

theorem rightFrom_some {p : Nat → Bool} : ∀ {k r x : Nat}, rightFrom p r k = some x → r ≤ x ∧ x < r + k ∧ p x = true ∧ ∀ y, r ≤ y → y < x → p y = false
  | 0, r, x, h => by simp [rightFrom] at h
  | k + 1, r, x, h => by
    unfold rightFrom at h
    by_cases hp : p r = true
    · rw [if_pos hp] at h
      injection h with h
      subst h
      exact ⟨Nat.le_refl _, by omega, hp, fun y h1 h2 => by omega⟩
    · rw [if_neg hp] at h
      obtain ⟨h1, h2, h3, h4⟩ := rightFrom_some h
      refine ⟨by omega, by omega, h3, fun y h5 h6 => ?_⟩
      by_cases e : y = r
      · rw [e]; simpa using hp
      · exact h4 y (by omega) h6
theorem rightFrom_none {p : Nat → Bool} : ∀ {k r : Nat}, rightFrom p r k = none → ∀ y, r ≤ y → y < r + k → p y = false
  | 0, r, _, y, h1, h2 => by omega
  | k + 1, r, h, y, h1, h2 => by
    unfold rightFrom at h
    by_cases hp : p r = true
    · rw [if_pos hp] at h; exact absurd h (by simp)
    · rw [if_neg hp] at h
      by_cases e : y = r
      · rw [e]; simpa using hp
      · exact rightFrom_none h y (by omega) (by omega)

theorem rf_some {p : Nat → Bool} {k x : Nat} (hx : x < k) (hp : p x = true) (hn : ∀ y, y < x → p y = false) : rightFrom p 0 k = some x := by
  cases h : rightFrom p 0 k with
  | none => have := rightFrom_none h x (Nat.zero_le _) (by omega); rw [hp] at this; cases this
  | some z =>
    obtain ⟨_, h2, h3, h4⟩ := rightFrom_some h
    rcases Nat.lt_trichotomy z x with h5 | h5 | h5
    · rw [hn z h5] at h3; cases h3
    · rw [h5]
    · rw [h4 x (Nat.zero_le _) h5] at hp; cases hp
theorem rf_none {p : Nat → Bool} {k : Nat} (hn : ∀ y, y < k → p y = false) : rightFrom p 0 k = none := by
  cases h : rightFrom p 0 k with
  | none => rfl
  | some z =>
    obtain ⟨_, h2, h3, h4⟩ := rightFrom_some h
    rw [hn z (by omega)] at h3; cases h3

/-- the fewest plates that keep printed odds, from n on; k more are looked at -/
def planFrom (q : Nat → Nat → Bool) : Nat → Nat → Option (Nat × Nat)
  | _, 0 => none
  | n, k + 1 => match rightFrom (q n) 0 (n + 1) with
    | some r => some (n, r)
    | none => planFrom q (n + 1) k

end Em
