/- Plain laws of outcomes: answers as digits, the number of an outcome, what comes next. -/
import Derived.Test.YtcmllkjgggcghaaEB7
namespace Go.Proofs.Ytcmllkjgggcghaa
set_option linter.unusedSimpArgs false
set_option linter.unusedVariables false

/-- how many answers the first plates have together -/
def mt (L : Nat → Nat) : Nat → Nat
  | 0 => 1
  | k + 1 => mt L k * L k
/-- the number of answers -/
def vl (L : Nat → Nat) : Nat → (Nat → Nat) → Nat
  | 0, _ => 0
  | k + 1, f => vl L k f * L k + f k

variable {L : Nat → Nat}

theorem vl_congr : ∀ k (f g : Nat → Nat), (∀ i, i < k → f i = g i) → vl L k f = vl L k g
  | 0, _, _, _ => rfl
  | k + 1, f, g, h => by rw [vl, vl, vl_congr k f g (fun i hi => h i (by omega)), h k (by omega)]

theorem vl_lt : ∀ k (f : Nat → Nat), (∀ i, i < k → f i < L i) → vl L k f < mt L k
  | 0, _, _ => by simp [vl, mt]
  | k + 1, f, h => by
    have h1 := vl_lt k f (fun i hi => h i (by omega))
    have h2 := h k (by omega)
    rw [vl, mt]
    have h3 : (vl L k f + 1) * L k ≤ mt L k * L k := Nat.mul_le_mul_right _ h1
    rw [Nat.add_mul] at h3
    omega

theorem vl_inj : ∀ k (f g : Nat → Nat), (∀ i, i < k → f i < L i) → (∀ i, i < k → g i < L i) → vl L k f = vl L k g → ∀ i, i < k → f i = g i
  | 0, _, _, _, _, _, i, hi => by omega
  | k + 1, f, g, hf, hg, h, i, hi => by
    have h1 := hf k (by omega)
    have h2 := hg k (by omega)
    rw [vl, vl] at h
    have e1 : f k = g k := by
      have a := congrArg (· % L k) h
      simp only [Nat.mul_add_mod_self_right, Nat.mod_eq_of_lt h1, Nat.mod_eq_of_lt h2] at a
      exact a
    have e2 : vl L k f = vl L k g := by
      have : vl L k f * L k = vl L k g * L k := by omega
      exact Nat.eq_of_mul_eq_mul_right (by omega) this
    by_cases e : i = k
    · subst e; exact e1
    · exact vl_inj k f g (fun j hj => hf j (by omega)) (fun j hj => hg j (by omega)) e2 i (by omega)

theorem upd_same (f : Nat → Nat) (k v : Nat) : upd f k v k = v := by simp [upd]
theorem upd_ne (f : Nat → Nat) {k i : Nat} (v : Nat) (h : i ≠ k) : upd f k v i = f i := by simp [upd, h]

/-- what comes next -/
theorem next_vl : ∀ k (f : Nat → Nat), (∀ i, i < k → f i < L i) →
    (vl L k f + 1 < mt L k → vl L k (nextA L k f) = vl L k f + 1) ∧ (vl L k f + 1 = mt L k → ∀ i, i < k → nextA L k f i = 0) ∧ (∀ i, i < k → nextA L k f i < L i) ∧ (∀ i, k ≤ i → nextA L k f i = f i)
  | 0, f, _ => ⟨fun h => by simp [mt, vl] at h, fun _ i hi => by omega, fun i hi => by omega, fun _ _ => rfl⟩
  | k + 1, f, h => by
    have hk := h k (by omega)
    have hv := vl_lt (L := L) k f (fun i hi => h i (by omega))
    have hm : (vl L k f + 1) * L k ≤ mt L k * L k := Nat.mul_le_mul_right _ hv
    rw [Nat.add_mul, Nat.one_mul] at hm
    rw [nextA]
    by_cases hd : f k + 1 < L k
    · rw [if_pos hd]
      have e : vl L k (upd f k (f k + 1)) = vl L k f := vl_congr k _ _ (fun i hi => upd_ne f _ (by omega))
      refine ⟨fun _ => ?_, fun hx => ?_, fun i hi => ?_, fun i hi => upd_ne f _ (by omega)⟩
      · rw [vl, vl, e, upd_same]; omega
      · rw [vl, mt] at hx; omega
      · by_cases ei : i = k
        · subst ei; rw [upd_same]; exact hd
        · rw [upd_ne f _ ei]; exact h i hi
    · rw [if_neg hd]
      have hd2 : f k + 1 = L k := by omega
      have e : vl L k (upd f k 0) = vl L k f := vl_congr k _ _ (fun i hi => upd_ne f _ (by omega))
      obtain ⟨i1, i2, i3, i4⟩ := next_vl k (upd f k 0) (fun i hi => by rw [upd_ne f _ (by omega)]; exact h i (by omega))
      rw [e] at i1 i2
      have ek : nextA L k (upd f k 0) k = 0 := by rw [i4 k (Nat.le_refl _), upd_same]
      refine ⟨fun hx => ?_, fun hx i hi => ?_, fun i hi => ?_, fun i hi => by rw [i4 i (by omega), upd_ne f _ (by omega)]⟩
      · rw [vl, mt] at hx
        have hx2 : vl L k f + 1 < mt L k := by
          rcases Nat.lt_or_ge (vl L k f + 1) (mt L k) with h1 | h1
          · exact h1
          · exfalso
            have : mt L k * L k ≤ (vl L k f + 1) * L k := Nat.mul_le_mul_right _ h1
            rw [Nat.add_mul, Nat.one_mul] at this
            omega
        rw [vl, vl, i1 hx2, ek, Nat.add_mul, Nat.one_mul]; omega
      · rw [vl, mt] at hx
        by_cases ei : i = k
        · subst ei; exact ek
        · refine i2 ?_ i (by omega)
          have : (vl L k f + 1) * L k = mt L k * L k := by rw [Nat.add_mul, Nat.one_mul]; omega
          exact Nat.eq_of_mul_eq_mul_right (by omega) this
      · by_cases ei : i = k
        · subst ei; rw [ek]; omega
        · exact i3 i (by omega)

/-- the digits of a number, the last plate's first -/
def digF (L : Nat → Nat) : Nat → Nat → (Nat → Nat) → (Nat → Nat)
  | 0, _, f => f
  | k + 1, N, f => digF L k (N / L k) (upd f k (N % L k))

theorem dig_vl : ∀ k N (f : Nat → Nat), (∀ i, i < k → 0 < L i) → N < mt L k → vl L k (digF L k N f) = N ∧ (∀ i, i < k → digF L k N f i < L i) ∧ (∀ i, k ≤ i → digF L k N f i = f i)
  | 0, N, f, _, h => ⟨by simp [mt] at h; simp [vl, h], fun i hi => by omega, fun _ _ => rfl⟩
  | k + 1, N, f, hp, h => by
    have hL := hp k (by omega)
    rw [mt] at h
    obtain ⟨i1, i2, i3⟩ := dig_vl k (N / L k) (upd f k (N % L k)) (fun i hi => hp i (by omega)) (Nat.div_lt_of_lt_mul (by rw [Nat.mul_comm]; exact h))
    have ek : digF L (k + 1) N f k = N % L k := by rw [digF, i3 k (Nat.le_refl _), upd_same]
    refine ⟨?_, fun i hi => ?_, fun i hi => ?_⟩
    · rw [vl, ek, digF, i1, Nat.mul_comm]; exact Nat.div_add_mod _ _
    · by_cases ei : i = k
      · subst ei; rw [ek]; exact Nat.mod_lt _ hL
      · rw [digF]; exact i2 i (by omega)
    · rw [digF, i3 i (by omega), upd_ne f _ (by omega)]

end Go.Proofs.Ytcmllkjgggcghaa
