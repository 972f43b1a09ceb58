/- Plain definitions of what package unit's Simplest, Proof, CheckProof compute. -/
import Derived.Test.YtkjoamindolonaaDoorUMath2
set_option linter.unusedSimpArgs false
set_option linter.unusedVariables false
namespace Um

/-- the path of the simplest fraction of a span -/
def best (s : S4) : List Int := sp (s.2.1 + s.2.2.2).toNat s.1 s.2.1 s.2.2.1 s.2.2.2

structure Best (s : S4) (l : List Int) : Prop where
  can : canon l
  len : l.length ≤ 60
  simp : Simp s.1 s.2.1 s.2.2.1 s.2.2.2 (ev l).1 (ev l).2
  n : (ev l).1 ≤ 1000000000
  m : (ev l).2 ≤ 1000000000
  last : (stepsL first l).getLastD first = fw first l
  pos : ∀ x ∈ l, 0 ≤ x
  x0 : (fw first l).1 = (ev l).1
  x1 : (fw first l).2.1 = (ev l).2
  p0 : 0 ≤ (fw first l).2.2.1
  p1 : 0 ≤ (fw first l).2.2.2
  q0 : (fw first l).2.2.1 ≤ (fw first l).1
  q1 : (fw first l).2.2.2 ≤ (fw first l).2.1

theorem canon_pos (l : List Int) (h : canon l) : ∀ x ∈ l, 0 ≤ x := by
  obtain ⟨h1, h2, h3⟩ := canon_ge l h
  intro x hx
  cases l with
  | nil => exact absurd rfl h1
  | cons y l =>
    rcases List.mem_cons.1 hx with e | e
    · exact h2 x (by rw [e]; rfl)
    · have := h3 x e; omega

theorem best_ok (s : S4) (h : spanB s = true) : Best s (best s) := by
  obtain ⟨h1, h2, h3⟩ := (spanB_iff s).1 h
  have b1 := frac_bd h1
  have b2 := frac_bd h2
  have hk : s.2.1 + s.2.2.2 ≤ ((s.2.1 + s.2.2.2).toNat : Int) := by omega
  have hs := sp_simp (s.2.1 + s.2.2.2).toNat s.1 s.2.1 s.2.2.1 s.2.2.2 (by omega) (by omega) (by omega) (by omega) h3 hk
  have hc := sp_canon (s.2.1 + s.2.2.2).toNat s.1 s.2.1 s.2.2.1 s.2.2.2 (by omega) (by omega) (by omega) h3 hk
  have hm := hs.min s.1 s.2.1 (by omega) (by omega) (Int.le_refl _) h3
  obtain ⟨g1, g2, g3⟩ := canon_ge _ hc
  obtain ⟨c1, c2, c3, c4⟩ := canon_parts _ hc
  obtain ⟨f1, f2⟩ := fw_first (sp (s.2.1 + s.2.2.2).toNat s.1 s.2.1 s.2.2.1 s.2.2.2)
  unfold best
  exact ⟨hc, canon_len _ hc (by omega), hs, by omega, by omega, last_first _ g1 g2 g3 (by omega) (by omega), canon_pos _ hc, f1, f2, c1, c2, c3, c4⟩

/-- the simplest fraction of a span, and the error -/
def simplestP (s : S4) : (Int × Int) × Int := if spanB s = true then (ev (best s), 0) else ((0, 0), 2)

/-- a proof out of a last step -/
def parts (x : St) : S4 := if (x.1 - x.2.2.1) * x.2.2.2 < x.2.2.1 * (x.2.1 - x.2.2.2) then (x.1 - x.2.2.1, x.2.1 - x.2.2.2, x.2.2.1, x.2.2.2) else (x.2.2.1, x.2.2.2, x.1 - x.2.2.1, x.2.1 - x.2.2.2)

/-- the proof of a span, and the error -/
def proofP (s : S4) : S4 × Int := if spanB s = true then (parts (fw first (best s)), 0) else ((0, 0, 0, 0), 2)

/-- the bound of a proof, and the error -/
def checkP (s p : S4) : Int × Int :=
  if spanB s = false then (0, 2)
  else if ¬ (0 ≤ p.1 ∧ p.1 ≤ 1000000000 ∧ 0 ≤ p.2.2.2 ∧ p.2.2.2 ≤ 1000000000 ∧ 1 ≤ p.2.1 ∧ p.2.1 ≤ 1000000000 ∧ 1 ≤ p.2.2.1 ∧ p.2.2.1 ≤ 1000000000) then (0, 3)
  else if ¬ (p.1 * s.2.1 < s.1 * p.2.1 ∧ s.2.2.1 * p.2.2.2 < p.2.2.1 * s.2.2.2 ∧ p.2.1 * p.2.2.1 - p.1 * p.2.2.2 = 1) then (0, 14)
  else (p.2.1 + p.2.2.2, 0)

end Um
