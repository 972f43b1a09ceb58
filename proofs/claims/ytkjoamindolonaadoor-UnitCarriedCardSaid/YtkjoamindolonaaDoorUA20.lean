/- The walk of slices.Reverse at spans. -/
import Derived.Test.YtkjoamindolonaaDoorUA7
import Derived.BigRegion
namespace Go.Proofs.YtkjoamindolonaaDoor
open Go.RowKit Go.Shelf
set_option linter.unusedSimpArgs false
set_option linter.unusedVariables false
open Um (S4)

/-- block b is n spans, and can be written -/
structure Four (W : World) (b n : Nat) (f : Nat → S4) : Prop where
  lt : b < W.heap.size
  c : ∀ i, i < n → W.cell? ⟨b, i * 4, none⟩ = some (.int .i64 (f i).1) ∧ W.cell? ⟨b, i * 4 + 1, none⟩ = some (.int .i64 (f i).2.1) ∧ W.cell? ⟨b, i * 4 + 2, none⟩ = some (.int .i64 (f i).2.2.1) ∧ W.cell? ⟨b, i * 4 + 3, none⟩ = some (.int .i64 (f i).2.2.2)
  free : ∀ j, W.frozen? ⟨b, j, none⟩ = false

theorem Four.drew {W : World} {b n : Nat} {f : Nat → S4} (h : Four W b n f) : Four W.drew b n f := ⟨h.lt, h.c, h.free⟩
theorem Four.drewN {W : World} {b n : Nat} {f : Nat → S4} (h : Four W b n f) (k : Nat) : Four (W.drewN k) b n f := ⟨h.lt, h.c, h.free⟩

theorem four_get {W : World} {b i : Nat} {u0 u1 u2 u3 : Value} (x y z u : Value) (h0 : W.cell? ⟨b, i, none⟩ = some u0) (h1 : W.cell? ⟨b, i + 1, none⟩ = some u1) (h2 : W.cell? ⟨b, i + 2, none⟩ = some u2) (h3 : W.cell? ⟨b, i + 3, none⟩ = some u3) (j : Nat) :
    ((((W.setCell ⟨b, i, none⟩ x).setCell ⟨b, i + 1, none⟩ y).setCell ⟨b, i + 2, none⟩ z).setCell ⟨b, i + 3, none⟩ u).cell? ⟨b, j, none⟩ = if j = i + 3 then some u else if j = i + 2 then some z else if j = i + 1 then some y else if j = i then some x else W.cell? ⟨b, j, none⟩ := by
  have ne : ∀ {p q : Nat}, p ≠ q → (⟨b, p, none⟩ : Addr) ≠ ⟨b, q, none⟩ := fun hpq e => hpq (by injection e)
  have s1 : (W.setCell ⟨b, i, none⟩ x).cell? ⟨b, i + 1, none⟩ = some u1 := by rw [World.cell?_setCell_other _ _ _ _ (ne (by omega))]; exact h1
  have s2 : ((W.setCell ⟨b, i, none⟩ x).setCell ⟨b, i + 1, none⟩ y).cell? ⟨b, i + 2, none⟩ = some u2 := by rw [World.cell?_setCell_other _ _ _ _ (ne (by omega)), World.cell?_setCell_other _ _ _ _ (ne (by omega))]; exact h2
  have s3 : (((W.setCell ⟨b, i, none⟩ x).setCell ⟨b, i + 1, none⟩ y).setCell ⟨b, i + 2, none⟩ z).cell? ⟨b, i + 3, none⟩ = some u3 := by
    rw [World.cell?_setCell_other _ _ _ _ (ne (by omega)), World.cell?_setCell_other _ _ _ _ (ne (by omega)), World.cell?_setCell_other _ _ _ _ (ne (by omega))]; exact h3
  split
  · rename_i e; subst e; exact World.cell?_setCell_same' _ _ _ (by rw [s3]; simp)
  · rename_i e3
    rw [World.cell?_setCell_other _ _ _ _ (ne (fun e => e3 e.symm))]
    split
    · rename_i e; subst e; exact World.cell?_setCell_same' _ _ _ (by rw [s2]; simp)
    · rename_i e2
      rw [World.cell?_setCell_other _ _ _ _ (ne (fun e => e2 e.symm))]
      split
      · rename_i e; subst e; exact World.cell?_setCell_same' _ _ _ (by rw [s1]; simp)
      · rename_i e1
        rw [World.cell?_setCell_other _ _ _ _ (ne (fun e => e1 e.symm))]
        split
        · rename_i e; subst e; exact World.cell?_setCell_same' _ _ _ (by rw [h0]; simp)
        · rename_i e0
          rw [World.cell?_setCell_other _ _ _ _ (ne (fun e => e0 e.symm))]

theorem Four.set {W : World} {b n : Nat} {f : Nat → S4} (h : Four W b n f) {i : Nat} (hi : i < n) (v : S4) :
    Four ((((W.setCell ⟨b, i * 4, none⟩ (.int .i64 v.1)).setCell ⟨b, i * 4 + 1, none⟩ (.int .i64 v.2.1)).setCell ⟨b, i * 4 + 2, none⟩ (.int .i64 v.2.2.1)).setCell ⟨b, i * 4 + 3, none⟩ (.int .i64 v.2.2.2)) b n (fun j => if j = i then v else f j) := by
  obtain ⟨h0, h1, h2, h3⟩ := h.c i hi
  have get := four_get (.int .i64 v.1) (.int .i64 v.2.1) (.int .i64 v.2.2.1) (.int .i64 v.2.2.2) h0 h1 h2 h3
  refine ⟨by simpa [World.setCell] using h.lt, fun j hj => ?_, fun j => by simp only [World.frozen?_setCell]; exact h.free j⟩
  rw [get, get, get, get]
  by_cases e : j = i
  · subst e
    simp
  · repeat rw [if_neg (by omega)]
    exact h.c j hj

/-- k of n have been exchanged from both ends -/
def rvAt (g : Nat → S4) (n k m : Nat) : S4 := if m < k ∨ n < m + k + 1 then g (n - 1 - m) else g m

theorem rvAt_step (g f : Nat → S4) (n k : Nat) (hk : k + k + 1 < n) (hf : ∀ m, m < n → f m = rvAt g n k m) : ∀ m, m < n → (fun j => if j = n - 1 - k then f k else (fun j => if j = k then f (n - 1 - k) else f j) j) m = rvAt g n (k + 1) m := by
  intro m hm
  have e1 : f k = g k := by rw [hf k (by omega), rvAt, if_neg (by omega)]
  have e2 : f (n - 1 - k) = g (n - 1 - k) := by rw [hf _ (by omega), rvAt, if_neg (by omega)]
  simp only [e1, e2, rvAt]
  by_cases h1 : m = n - 1 - k
  · rw [if_pos h1, if_pos (by omega)]
    congr 1; omega
  · rw [if_neg h1]
    by_cases h2 : m = k
    · rw [if_pos h2, if_pos (by omega), h2]
    · rw [if_neg h2, hf m hm, rvAt]
      by_cases h3 : m < k ∨ n < m + k + 1
      · rw [if_pos h3, if_pos (by omega)]
      · rw [if_neg h3, if_neg (by omega)]

set_option maxHeartbeats 2000000 in
theorem reverse_any (b n c : Nat) (g : Nat → S4) (w : World) (hF : Four w b n g) (hn : n ≤ 1000) :
    Calls Tryd.prog 48 #[.slice (some ⟨b, 0, none⟩) n c] w fun e w' => e = .returned (.tuple #[]) ∧ (∃ f, Four w' b n f ∧ ∀ m, m < n → f m = g (n - 1 - m)) ∧ Below b w w' := by
  have HF := Lib.hid hF
  clear hF
  go_enter Tryd.func48, Tryd.ntmps48
  go_wp2_with fail
  go_loopw [2, 3] (fun iv jv wr => ∃ (k : Nat) (f : Nat → S4), k + k ≤ n + 1 ∧ iv = .int .i64 k ∧ jv = .int .i64 ((n : Int) - 1 - k) ∧ Four wr b n f ∧ Hid (∀ m, m < n → f m = rvAt g n k m) ∧ Below b w wr) (fun iv _ _ => n - (intOf iv).toNat)
  case atStart => exact ⟨0, g, by omega, rfl, by simp, HF.out, Lib.hid (fun m hm => by rw [rvAt, if_neg (by omega)]), Below.refl _ _⟩
  case round =>
    obtain ⟨k, f, hk, rfl, rfl, hW, Hf, hbr⟩ := hrel
    by_cases hlt : k + k + 1 < n
    · obtain ⟨j, hj⟩ : ∃ j : Nat, j = n - 1 - k := ⟨_, rfl⟩
      have ej : (n : Int) - 1 - k = (j : Int) := by omega
      rw [ej]
      have hjn : j < n := by omega
      have hkj : k < j := by omega
      have Hj := Lib.hid hj
      have Hej := Lib.hid ej
      obtain ⟨a0, a1, a2, a3⟩ := hW.c k (by omega)
      obtain ⟨b0, b1, b2, b3⟩ := hW.c j hjn
      have hfree := hW.free
      have HW := Lib.hid hW
      have hn1 := rvAt_step g f n k hlt Hf.out
      rw [← hj] at hn1
      have Hn1 := Lib.hid hn1
      clear hj ej hn1 hW
      generalize f k = x at *
      generalize f j = y at *
      obtain ⟨x0, x1, x2, x3⟩ := x
      obtain ⟨y0, y1, y2, y3⟩ := y
      dsimp only at a0 a1 a2 a3 b0 b1 b2 b3
      obtain ⟨wo, hwo⟩ : ∃ wo : World, wo = wr := ⟨_, rfl⟩
      go_wp2_with fail
      go_big_region
      all_goals go_wp2_with fail
      go_roundw
      case rel =>
        have s1 := HW.out.set (i := k) (by omega) (y0, y1, y2, y3)
        have s2 := s1.set hjn (x0, x1, x2, x3)
        dsimp only at s1 s2
        have s3 := s2.drew
        refine ⟨k + 1, _, by omega, by go_num, ?_, s3, Hn1, ?_⟩
        · congr 1; have := Hej.out; omega
        · exact ((((((((hbr.setCell (p := ⟨b, _, none⟩) (Nat.le_refl _) _).setCell (p := ⟨b, _, none⟩) (Nat.le_refl _) _).setCell (p := ⟨b, _, none⟩) (Nat.le_refl _) _).setCell (p := ⟨b, _, none⟩) (Nat.le_refl _) _).setCell (p := ⟨b, _, none⟩) (Nat.le_refl _) _).setCell (p := ⟨b, _, none⟩) (Nat.le_refl _) _).setCell (p := ⟨b, _, none⟩) (Nat.le_refl _) _).setCell (p := ⟨b, _, none⟩) (Nat.le_refl _) _).drew
      case measure => simp [intOf]; omega
    · go_wp2_with fail
      go_end0
      refine ⟨rfl, ⟨f, hW, fun m hm => ?_⟩, hbr⟩
      rw [Hf.out m hm, rvAt]
      by_cases h1 : m < k ∨ n < m + k + 1
      · rw [if_pos h1]
      · rw [if_neg h1]; congr 1; omega

end Go.Proofs.YtkjoamindolonaaDoor
