/- The walk of package unit's CheckProof. -/
import Derived.Test.YtkjoamindolonaaDoorUA12
import Derived.Deep.DeepCutAuto
namespace Go.Proofs.YtkjoamindolonaaDoor
open Go.RowKit Go.Shelf
set_option linter.unusedSimpArgs false
set_option linter.unusedVariables false
open Um (frac S4 spanB spanE sp on St stepsL)

/-- a number and an error are handed back -/
def RetIE (r : Int × Int) : Ending := .returned (.tuple #[.int .i64 r.1, .int .i64 r.2])

set_option maxHeartbeats 1000000 in
theorem checkProof_any (a b c d p q r s : Int) (w : World) :
    Calls Tryd.prog 40 #[.agg #[.int .i64 a, .int .i64 b, .int .i64 c, .int .i64 d], .agg #[.int .i64 p, .int .i64 q, .int .i64 r, .int .i64 s]] w fun e w' => e = RetIE (Um.checkP (a, b, c, d) (p, q, r, s)) ∧ Below w.heap.size w w' := by
  have k1 := fun W => checkSpan_any a b c d W
  have k2 := fun A n cap W hz => within_any 0 1000000000 A n cap [p, s] W hz (by have := hz.1; simp at this; omega)
  have k3 := fun A n cap W hz => within_any 1 1000000000 A n cap [q, r] W hz (by have := hz.1; simp at this; omega)
  unfold RetIE
  obtain ⟨se, hse⟩ : ∃ se, spanE (a, b, c, d) = se := ⟨_, rfl⟩
  rw [hse] at k1
  generalize hr : Um.checkP (a, b, c, d) (p, q, r, s) = res at *
  have Hr := Lib.hid hr
  have Hse := Lib.hid hse
  clear hr hse
  go_enter Tryd.func40, Tryd.ntmps40
  go_upto_region 1 with fail
  go_cut [6, 7] (fun s6 s7 wx => ∃ g6 g7 : Nat, s6 = .pointer (some ⟨g6, 0, none⟩) ∧ s7 = .pointer (some ⟨g7, 0, none⟩) ∧ w.heap.size + 1 < g6 ∧ w.heap.size + 1 < g7 ∧ Cs wx g6 #[.int .i64 p, .int .i64 q] ∧ Cs wx g7 #[.int .i64 r, .int .i64 s] ∧ Cs wx w.heap.size #[.int .i64 a, .int .i64 b, .int .i64 c, .int .i64 d] ∧ Below w.heap.size w wx)
  case first =>
    obtain ⟨W, hW⟩ : ∃ W, ((w.alloc (.cells #[.int .i64 a, .int .i64 b, .int .i64 c, .int .i64 d] 25)).alloc (.cells #[.int .i64 p, .int .i64 q, .int .i64 r, .int .i64 s] 63)) = W := ⟨_, rfl⟩
    have A0 : Cs W w.heap.size #[.int .i64 a, .int .i64 b, .int .i64 c, .int .i64 d] := by rw [← hW]; exact (by repeat (first | with_reducible assumption | (with_reducible refine Cs.new _ _ _ _ ?_; first | rfl | (simp; done)) | with_reducible refine Cs.alloc ?_ _ | with_reducible refine Cs.drewN ?_ _ | with_reducible refine Cs.drew ?_ | with_reducible refine Cs.set4 ?_ _ _ _ _ | (with_reducible refine Cs.other4 ?_ ?_ _ _ _ _; rotate_left; focus (first | assumption | omega | (simp; done) | (simp; omega))) | with_reducible refine Cs.set2 ?_ _ _ | (with_reducible refine Cs.other2 ?_ ?_ _ _; rotate_left; focus (first | assumption | omega | (simp; done) | (simp; omega))) | (with_reducible refine Cs.other ?_ ?_ _; rotate_left; focus (first | assumption | omega | (simp; done) | (simp; omega))) | with_reducible refine Cs.keep ?_ (by assumption) | assumption))
    have A1 : Cs W (w.heap.size + 1) #[.int .i64 p, .int .i64 q, .int .i64 r, .int .i64 s] := by rw [← hW]; exact (by repeat (first | with_reducible assumption | (with_reducible refine Cs.new _ _ _ _ ?_; first | rfl | (simp; done)) | with_reducible refine Cs.alloc ?_ _ | with_reducible refine Cs.drewN ?_ _ | with_reducible refine Cs.drew ?_ | with_reducible refine Cs.set4 ?_ _ _ _ _ | (with_reducible refine Cs.other4 ?_ ?_ _ _ _ _; rotate_left; focus (first | assumption | omega | (simp; done) | (simp; omega))) | with_reducible refine Cs.set2 ?_ _ _ | (with_reducible refine Cs.other2 ?_ ?_ _ _; rotate_left; focus (first | assumption | omega | (simp; done) | (simp; omega))) | (with_reducible refine Cs.other ?_ ?_ _; rotate_left; focus (first | assumption | omega | (simp; done) | (simp; omega))) | with_reducible refine Cs.keep ?_ (by assumption) | assumption))
    have hbW : Below w.heap.size w W := by rw [← hW]; exact (by repeat (first | with_reducible exact Below.refl _ _ | with_reducible assumption | with_reducible refine balloc ?_ _ | with_reducible refine bdrewN ?_ _ | with_reducible refine Below.drew ?_ | (with_reducible refine bset ?_ ?_ _; rotate_left; focus (first | assumption | omega | (simp; done) | (simp; omega))) | with_reducible refine bstep ?_ (by assumption) | assumption))
    rw [hW]
    clear hW
    have cA0 := A0.c
    have fA0 := A0.f
    have lA0 := A0.lt
    have cA1 := A1.c
    have fA1 := A1.f
    have lA1 := A1.lt
    go_region_held3 (fun w' => w'.cell? ⟨w.heap.size + 1, 0, none⟩ = some (.int .i64 p) ∧ w'.cell? ⟨w.heap.size + 1, 1, none⟩ = some (.int .i64 q) ∧ w'.cell? ⟨w.heap.size + 1, 2, none⟩ = some (.int .i64 r) ∧ w'.cell? ⟨w.heap.size + 1, 3, none⟩ = some (.int .i64 s))
      (go_keep) (fail)
    all_goals (go_wp2_with fail; go_meet; exact ⟨_, _, rfl, rfl, by omega, by omega, (by repeat (first | with_reducible assumption | (with_reducible refine Cs.new _ _ _ _ ?_; first | rfl | (simp; done)) | with_reducible refine Cs.alloc ?_ _ | with_reducible refine Cs.drewN ?_ _ | with_reducible refine Cs.drew ?_ | with_reducible refine Cs.set4 ?_ _ _ _ _ | (with_reducible refine Cs.other4 ?_ ?_ _ _ _ _; rotate_left; focus (first | assumption | omega | (simp; done) | (simp; omega))) | with_reducible refine Cs.set2 ?_ _ _ | (with_reducible refine Cs.other2 ?_ ?_ _ _; rotate_left; focus (first | assumption | omega | (simp; done) | (simp; omega))) | (with_reducible refine Cs.other ?_ ?_ _; rotate_left; focus (first | assumption | omega | (simp; done) | (simp; omega))) | with_reducible refine Cs.keep ?_ (by assumption) | assumption)), (by repeat (first | with_reducible assumption | (with_reducible refine Cs.new _ _ _ _ ?_; first | rfl | (simp; done)) | with_reducible refine Cs.alloc ?_ _ | with_reducible refine Cs.drewN ?_ _ | with_reducible refine Cs.drew ?_ | with_reducible refine Cs.set4 ?_ _ _ _ _ | (with_reducible refine Cs.other4 ?_ ?_ _ _ _ _; rotate_left; focus (first | assumption | omega | (simp; done) | (simp; omega))) | with_reducible refine Cs.set2 ?_ _ _ | (with_reducible refine Cs.other2 ?_ ?_ _ _; rotate_left; focus (first | assumption | omega | (simp; done) | (simp; omega))) | (with_reducible refine Cs.other ?_ ?_ _; rotate_left; focus (first | assumption | omega | (simp; done) | (simp; omega))) | with_reducible refine Cs.keep ?_ (by assumption) | assumption)), (by repeat (first | with_reducible assumption | (with_reducible refine Cs.new _ _ _ _ ?_; first | rfl | (simp; done)) | with_reducible refine Cs.alloc ?_ _ | with_reducible refine Cs.drewN ?_ _ | with_reducible refine Cs.drew ?_ | with_reducible refine Cs.set4 ?_ _ _ _ _ | (with_reducible refine Cs.other4 ?_ ?_ _ _ _ _; rotate_left; focus (first | assumption | omega | (simp; done) | (simp; omega))) | with_reducible refine Cs.set2 ?_ _ _ | (with_reducible refine Cs.other2 ?_ ?_ _ _; rotate_left; focus (first | assumption | omega | (simp; done) | (simp; omega))) | (with_reducible refine Cs.other ?_ ?_ _; rotate_left; focus (first | assumption | omega | (simp; done) | (simp; omega))) | with_reducible refine Cs.keep ?_ (by assumption) | assumption)), (by repeat (first | with_reducible exact Below.refl _ _ | with_reducible assumption | with_reducible refine balloc ?_ _ | with_reducible refine bdrewN ?_ _ | with_reducible refine Below.drew ?_ | (with_reducible refine bset ?_ ?_ _; rotate_left; focus (first | assumption | omega | (simp; done) | (simp; omega))) | with_reducible refine bstep ?_ (by assumption) | assumption))⟩)
  case rest =>
    obtain ⟨g6, g7, rfl, rfl, h6, h7, Bn6, Bn7, Bz, hbx⟩ := hcut
    have cBn6 := Bn6.c
    have fBn6 := Bn6.f
    have lBn6 := Bn6.lt
    have cBn7 := Bn7.c
    have fBn7 := Bn7.f
    have lBn7 := Bn7.lt
    have cBz := Bz.c
    have fBz := Bz.f
    have lBz := Bz.lt
    go_wp2_with fail
    refine (k1 _).mono ?_
    rintro e w1 ⟨rfl, hb1⟩
    clear cBn6 fBn6 lBn6 cBn7 fBn7 lBn7 cBz fBz lBz
    have E6 : Cs w1 g6 #[.int .i64 p, .int .i64 q] := Cs.keep (by repeat (first | with_reducible assumption | (with_reducible refine Cs.new _ _ _ _ ?_; first | rfl | (simp; done)) | with_reducible refine Cs.alloc ?_ _ | with_reducible refine Cs.drewN ?_ _ | with_reducible refine Cs.drew ?_ | with_reducible refine Cs.set4 ?_ _ _ _ _ | (with_reducible refine Cs.other4 ?_ ?_ _ _ _ _; rotate_left; focus (first | assumption | omega | (simp; done) | (simp; omega))) | with_reducible refine Cs.set2 ?_ _ _ | (with_reducible refine Cs.other2 ?_ ?_ _ _; rotate_left; focus (first | assumption | omega | (simp; done) | (simp; omega))) | (with_reducible refine Cs.other ?_ ?_ _; rotate_left; focus (first | assumption | omega | (simp; done) | (simp; omega))) | with_reducible refine Cs.keep ?_ (by assumption) | assumption)) hb1
    have E7 : Cs w1 g7 #[.int .i64 r, .int .i64 s] := Cs.keep (by repeat (first | with_reducible assumption | (with_reducible refine Cs.new _ _ _ _ ?_; first | rfl | (simp; done)) | with_reducible refine Cs.alloc ?_ _ | with_reducible refine Cs.drewN ?_ _ | with_reducible refine Cs.drew ?_ | with_reducible refine Cs.set4 ?_ _ _ _ _ | (with_reducible refine Cs.other4 ?_ ?_ _ _ _ _; rotate_left; focus (first | assumption | omega | (simp; done) | (simp; omega))) | with_reducible refine Cs.set2 ?_ _ _ | (with_reducible refine Cs.other2 ?_ ?_ _ _; rotate_left; focus (first | assumption | omega | (simp; done) | (simp; omega))) | (with_reducible refine Cs.other ?_ ?_ _; rotate_left; focus (first | assumption | omega | (simp; done) | (simp; omega))) | with_reducible refine Cs.keep ?_ (by assumption) | assumption)) hb1
    have Ez : Cs w1 (w.heap.size) #[.int .i64 a, .int .i64 b, .int .i64 c, .int .i64 d] := Cs.keep (by repeat (first | with_reducible assumption | (with_reducible refine Cs.new _ _ _ _ ?_; first | rfl | (simp; done)) | with_reducible refine Cs.alloc ?_ _ | with_reducible refine Cs.drewN ?_ _ | with_reducible refine Cs.drew ?_ | with_reducible refine Cs.set4 ?_ _ _ _ _ | (with_reducible refine Cs.other4 ?_ ?_ _ _ _ _; rotate_left; focus (first | assumption | omega | (simp; done) | (simp; omega))) | with_reducible refine Cs.set2 ?_ _ _ | (with_reducible refine Cs.other2 ?_ ?_ _ _; rotate_left; focus (first | assumption | omega | (simp; done) | (simp; omega))) | (with_reducible refine Cs.other ?_ ?_ _; rotate_left; focus (first | assumption | omega | (simp; done) | (simp; omega))) | with_reducible refine Cs.keep ?_ (by assumption) | assumption)) hb1
    have hbw1 : Below w.heap.size w w1 := (by repeat (first | with_reducible exact Below.refl _ _ | with_reducible assumption | with_reducible refine balloc ?_ _ | with_reducible refine bdrewN ?_ _ | with_reducible refine Below.drew ?_ | (with_reducible refine bset ?_ ?_ _; rotate_left; focus (first | assumption | omega | (simp; done) | (simp; omega))) | with_reducible refine bstep ?_ (by assumption) | assumption))
    clear k1 Bn6 Bn7 Bz hb1 hbx
    by_cases h : spanB (a, b, c, d) = true
    case neg =>
      have e1 : spanE (a, b, c, d) = 2 := by rw [spanE, if_neg h]
      have e2 : Um.checkP (a, b, c, d) (p, q, r, s) = (0, 2) := by rw [Um.checkP, if_pos (by simpa using h)]
      obtain rfl := Hse.out.symm.trans e1
      obtain rfl := Hr.out.symm.trans e2
      clear e1 e2 h Hse Hr
      have cE6 := E6.c
      have fE6 := E6.f
      have lE6 := E6.lt
      have cE7 := E7.c
      have fE7 := E7.f
      have lE7 := E7.lt
      have cEz := Ez.c
      have fEz := Ez.f
      have lEz := Ez.lt
      go_wp2_with fail
      exact bodyPost_ret (v := .tuple #[.int .i64 0, .int .i64 2]) (by simp [results, Tryd.results40, go_sem]) rfl ⟨rfl, (by repeat (first | with_reducible exact Below.refl _ _ | with_reducible assumption | with_reducible refine balloc ?_ _ | with_reducible refine bdrewN ?_ _ | with_reducible refine Below.drew ?_ | (with_reducible refine bset ?_ ?_ _; rotate_left; focus (first | assumption | omega | (simp; done) | (simp; omega))) | with_reducible refine bstep ?_ (by assumption) | assumption))⟩
    case pos =>
      have e1 : spanE (a, b, c, d) = 0 := by rw [spanE, if_pos h]
      obtain rfl := Hse.out.symm.trans e1
      have e2 : Um.checkP (a, b, c, d) (p, q, r, s) = if ¬ (0 ≤ p ∧ p ≤ 1000000000 ∧ 0 ≤ s ∧ s ≤ 1000000000 ∧ 1 ≤ q ∧ q ≤ 1000000000 ∧ 1 ≤ r ∧ r ≤ 1000000000) then (0, 3) else if ¬ (p * b < a * q ∧ c * s < r * d ∧ q * r - p * s = 1) then (0, 14) else (q + s, 0) := by rw [Um.checkP, if_neg (by rw [h]; decide)]
      have Hr2 := Lib.hid (Hr.out.symm.trans e2)
      obtain ⟨h1, h2, h3⟩ := (Um.spanB_iff _).1 h
      obtain ⟨a1, a2, b1, b2⟩ := Um.frac_bd (n := a) (d := b) h1
      obtain ⟨c1, c2, d1, d2⟩ := Um.frac_bd (n := c) (d := d) h2
      clear e1 e2 h h1 h2 h3 Hr Hse
      have l2 : ([p, s].all fun x => !out 0 1000000000 x) = decide (0 ≤ p ∧ p ≤ 1000000000 ∧ 0 ≤ s ∧ s ≤ 1000000000) := by rw [Bool.eq_iff_iff]; simp [out]; omega
      have l3 : ([q, r].all fun x => !out 1 1000000000 x) = decide (1 ≤ q ∧ q ≤ 1000000000 ∧ 1 ≤ r ∧ r ≤ 1000000000) := by rw [Bool.eq_iff_iff]; simp [out]; omega
      rw [l2] at k2
      rw [l3] at k3
      clear l2 l3
      have cE6 := E6.c
      have fE6 := E6.f
      have lE6 := E6.lt
      have cE7 := E7.c
      have fE7 := E7.f
      have lE7 := E7.lt
      have cEz := Ez.c
      have fEz := Ez.f
      have lEz := Ez.lt
      by_cases hps : 0 ≤ p ∧ p ≤ 1000000000 ∧ 0 ≤ s ∧ s ≤ 1000000000
      case neg =>
        rw [decide_eq_false hps] at k2
        go_wp2_with fail
        refine (k2 _ _ _ _ (by repeat (first | with_reducible assumption | (with_reducible refine Ints.new1 _ _ _ _ ?_; first | rfl | (simp; done)) | (with_reducible refine Ints.new2 _ _ _ _ _ ?_; first | rfl | (simp; done)) | with_reducible refine Ints.alloc ?_ _ | with_reducible refine Ints.drewN ?_ _ | with_reducible refine Ints.drew ?_ | with_reducible refine Ints.below ?_ (by assumption) | assumption))).mono ?_
        rintro e w2 ⟨rfl, hb2⟩
        have hbw2 : Below w.heap.size w w2 := (by repeat (first | with_reducible exact Below.refl _ _ | with_reducible assumption | with_reducible refine balloc ?_ _ | with_reducible refine bdrewN ?_ _ | with_reducible refine Below.drew ?_ | (with_reducible refine bset ?_ ?_ _; rotate_left; focus (first | assumption | omega | (simp; done) | (simp; omega))) | with_reducible refine bstep ?_ (by assumption) | assumption))
        obtain rfl := Hr2.out.trans (if_pos (fun k => hps ⟨k.1, k.2.1, k.2.2.1, k.2.2.2.1⟩))
        clear k2 k3 Hr2 hps hb2 hbw1 E6 E7 Ez
        clear cE6 fE6 lE6 cE7 fE7 lE7 cEz fEz lEz
        go_wp2_with fail
        exact bodyPost_ret (v := .tuple #[.int .i64 0, .int .i64 3]) (by simp [results, Tryd.results40, go_sem]) rfl ⟨rfl, hbw2⟩
      case pos =>
      rw [decide_eq_true hps] at k2
      have Hps := Lib.hid hps
      clear hps
      go_wp2_with fail
      refine (k2 _ _ _ _ (by repeat (first | with_reducible assumption | (with_reducible refine Ints.new1 _ _ _ _ ?_; first | rfl | (simp; done)) | (with_reducible refine Ints.new2 _ _ _ _ _ ?_; first | rfl | (simp; done)) | with_reducible refine Ints.alloc ?_ _ | with_reducible refine Ints.drewN ?_ _ | with_reducible refine Ints.drew ?_ | with_reducible refine Ints.below ?_ (by assumption) | assumption))).mono ?_
      rintro e w2 ⟨rfl, hb2⟩
      clear cE6 fE6 lE6 cE7 fE7 lE7 cEz fEz lEz
      have F6 : Cs w2 g6 #[.int .i64 p, .int .i64 q] := Cs.keep (by repeat (first | with_reducible assumption | (with_reducible refine Cs.new _ _ _ _ ?_; first | rfl | (simp; done)) | with_reducible refine Cs.alloc ?_ _ | with_reducible refine Cs.drewN ?_ _ | with_reducible refine Cs.drew ?_ | with_reducible refine Cs.set4 ?_ _ _ _ _ | (with_reducible refine Cs.other4 ?_ ?_ _ _ _ _; rotate_left; focus (first | assumption | omega | (simp; done) | (simp; omega))) | with_reducible refine Cs.set2 ?_ _ _ | (with_reducible refine Cs.other2 ?_ ?_ _ _; rotate_left; focus (first | assumption | omega | (simp; done) | (simp; omega))) | (with_reducible refine Cs.other ?_ ?_ _; rotate_left; focus (first | assumption | omega | (simp; done) | (simp; omega))) | with_reducible refine Cs.keep ?_ (by assumption) | assumption)) hb2
      have F7 : Cs w2 g7 #[.int .i64 r, .int .i64 s] := Cs.keep (by repeat (first | with_reducible assumption | (with_reducible refine Cs.new _ _ _ _ ?_; first | rfl | (simp; done)) | with_reducible refine Cs.alloc ?_ _ | with_reducible refine Cs.drewN ?_ _ | with_reducible refine Cs.drew ?_ | with_reducible refine Cs.set4 ?_ _ _ _ _ | (with_reducible refine Cs.other4 ?_ ?_ _ _ _ _; rotate_left; focus (first | assumption | omega | (simp; done) | (simp; omega))) | with_reducible refine Cs.set2 ?_ _ _ | (with_reducible refine Cs.other2 ?_ ?_ _ _; rotate_left; focus (first | assumption | omega | (simp; done) | (simp; omega))) | (with_reducible refine Cs.other ?_ ?_ _; rotate_left; focus (first | assumption | omega | (simp; done) | (simp; omega))) | with_reducible refine Cs.keep ?_ (by assumption) | assumption)) hb2
      have Fz : Cs w2 (w.heap.size) #[.int .i64 a, .int .i64 b, .int .i64 c, .int .i64 d] := Cs.keep (by repeat (first | with_reducible assumption | (with_reducible refine Cs.new _ _ _ _ ?_; first | rfl | (simp; done)) | with_reducible refine Cs.alloc ?_ _ | with_reducible refine Cs.drewN ?_ _ | with_reducible refine Cs.drew ?_ | with_reducible refine Cs.set4 ?_ _ _ _ _ | (with_reducible refine Cs.other4 ?_ ?_ _ _ _ _; rotate_left; focus (first | assumption | omega | (simp; done) | (simp; omega))) | with_reducible refine Cs.set2 ?_ _ _ | (with_reducible refine Cs.other2 ?_ ?_ _ _; rotate_left; focus (first | assumption | omega | (simp; done) | (simp; omega))) | (with_reducible refine Cs.other ?_ ?_ _; rotate_left; focus (first | assumption | omega | (simp; done) | (simp; omega))) | with_reducible refine Cs.keep ?_ (by assumption) | assumption)) hb2
      have hbw2 : Below w.heap.size w w2 := (by repeat (first | with_reducible exact Below.refl _ _ | with_reducible assumption | with_reducible refine balloc ?_ _ | with_reducible refine bdrewN ?_ _ | with_reducible refine Below.drew ?_ | (with_reducible refine bset ?_ ?_ _; rotate_left; focus (first | assumption | omega | (simp; done) | (simp; omega))) | with_reducible refine bstep ?_ (by assumption) | assumption))
      clear k2 E6 E7 Ez hb2 hbw1
      have cF6 := F6.c
      have fF6 := F6.f
      have lF6 := F6.lt
      have cF7 := F7.c
      have fF7 := F7.f
      have lF7 := F7.lt
      have cFz := Fz.c
      have fFz := Fz.f
      have lFz := Fz.lt
      by_cases hqr : 1 ≤ q ∧ q ≤ 1000000000 ∧ 1 ≤ r ∧ r ≤ 1000000000
      case neg =>
        rw [decide_eq_false hqr] at k3
        go_wp2_with fail
        refine (k3 _ _ _ _ (by repeat (first | with_reducible assumption | (with_reducible refine Ints.new1 _ _ _ _ ?_; first | rfl | (simp; done)) | (with_reducible refine Ints.new2 _ _ _ _ _ ?_; first | rfl | (simp; done)) | with_reducible refine Ints.alloc ?_ _ | with_reducible refine Ints.drewN ?_ _ | with_reducible refine Ints.drew ?_ | with_reducible refine Ints.below ?_ (by assumption) | assumption))).mono ?_
        rintro e w3 ⟨rfl, hb3⟩
        have hbw3 : Below w.heap.size w w3 := (by repeat (first | with_reducible exact Below.refl _ _ | with_reducible assumption | with_reducible refine balloc ?_ _ | with_reducible refine bdrewN ?_ _ | with_reducible refine Below.drew ?_ | (with_reducible refine bset ?_ ?_ _; rotate_left; focus (first | assumption | omega | (simp; done) | (simp; omega))) | with_reducible refine bstep ?_ (by assumption) | assumption))
        obtain rfl := Hr2.out.trans (if_pos (fun k => hqr k.2.2.2.2))
        clear k3 Hr2 hqr hb3 hbw2 F6 F7 Fz
        clear cF6 fF6 lF6 cF7 fF7 lF7 cFz fFz lFz
        go_wp2_with fail
        exact bodyPost_ret (v := .tuple #[.int .i64 0, .int .i64 3]) (by simp [results, Tryd.results40, go_sem]) rfl ⟨rfl, hbw3⟩
      case pos =>
      rw [decide_eq_true hqr] at k3
      go_wp2_with fail
      refine (k3 _ _ _ _ (by repeat (first | with_reducible assumption | (with_reducible refine Ints.new1 _ _ _ _ ?_; first | rfl | (simp; done)) | (with_reducible refine Ints.new2 _ _ _ _ _ ?_; first | rfl | (simp; done)) | with_reducible refine Ints.alloc ?_ _ | with_reducible refine Ints.drewN ?_ _ | with_reducible refine Ints.drew ?_ | with_reducible refine Ints.below ?_ (by assumption) | assumption))).mono ?_
      rintro e w3 ⟨rfl, hb3⟩
      clear cF6 fF6 lF6 cF7 fF7 lF7 cFz fFz lFz
      have G6 : Cs w3 g6 #[.int .i64 p, .int .i64 q] := Cs.keep (by repeat (first | with_reducible assumption | (with_reducible refine Cs.new _ _ _ _ ?_; first | rfl | (simp; done)) | with_reducible refine Cs.alloc ?_ _ | with_reducible refine Cs.drewN ?_ _ | with_reducible refine Cs.drew ?_ | with_reducible refine Cs.set4 ?_ _ _ _ _ | (with_reducible refine Cs.other4 ?_ ?_ _ _ _ _; rotate_left; focus (first | assumption | omega | (simp; done) | (simp; omega))) | with_reducible refine Cs.set2 ?_ _ _ | (with_reducible refine Cs.other2 ?_ ?_ _ _; rotate_left; focus (first | assumption | omega | (simp; done) | (simp; omega))) | (with_reducible refine Cs.other ?_ ?_ _; rotate_left; focus (first | assumption | omega | (simp; done) | (simp; omega))) | with_reducible refine Cs.keep ?_ (by assumption) | assumption)) hb3
      have G7 : Cs w3 g7 #[.int .i64 r, .int .i64 s] := Cs.keep (by repeat (first | with_reducible assumption | (with_reducible refine Cs.new _ _ _ _ ?_; first | rfl | (simp; done)) | with_reducible refine Cs.alloc ?_ _ | with_reducible refine Cs.drewN ?_ _ | with_reducible refine Cs.drew ?_ | with_reducible refine Cs.set4 ?_ _ _ _ _ | (with_reducible refine Cs.other4 ?_ ?_ _ _ _ _; rotate_left; focus (first | assumption | omega | (simp; done) | (simp; omega))) | with_reducible refine Cs.set2 ?_ _ _ | (with_reducible refine Cs.other2 ?_ ?_ _ _; rotate_left; focus (first | assumption | omega | (simp; done) | (simp; omega))) | (with_reducible refine Cs.other ?_ ?_ _; rotate_left; focus (first | assumption | omega | (simp; done) | (simp; omega))) | with_reducible refine Cs.keep ?_ (by assumption) | assumption)) hb3
      have Gz : Cs w3 (w.heap.size) #[.int .i64 a, .int .i64 b, .int .i64 c, .int .i64 d] := Cs.keep (by repeat (first | with_reducible assumption | (with_reducible refine Cs.new _ _ _ _ ?_; first | rfl | (simp; done)) | with_reducible refine Cs.alloc ?_ _ | with_reducible refine Cs.drewN ?_ _ | with_reducible refine Cs.drew ?_ | with_reducible refine Cs.set4 ?_ _ _ _ _ | (with_reducible refine Cs.other4 ?_ ?_ _ _ _ _; rotate_left; focus (first | assumption | omega | (simp; done) | (simp; omega))) | with_reducible refine Cs.set2 ?_ _ _ | (with_reducible refine Cs.other2 ?_ ?_ _ _; rotate_left; focus (first | assumption | omega | (simp; done) | (simp; omega))) | (with_reducible refine Cs.other ?_ ?_ _; rotate_left; focus (first | assumption | omega | (simp; done) | (simp; omega))) | with_reducible refine Cs.keep ?_ (by assumption) | assumption)) hb3
      have hbw3 : Below w.heap.size w w3 := (by repeat (first | with_reducible exact Below.refl _ _ | with_reducible assumption | with_reducible refine balloc ?_ _ | with_reducible refine bdrewN ?_ _ | with_reducible refine Below.drew ?_ | (with_reducible refine bset ?_ ?_ _; rotate_left; focus (first | assumption | omega | (simp; done) | (simp; omega))) | with_reducible refine bstep ?_ (by assumption) | assumption))
      obtain ⟨p1, p2, s1, s2⟩ := Hps.out
      obtain ⟨q1, q2, r1, r2⟩ := hqr
      have Hr3 := Lib.hid (Hr2.out.trans (if_neg (fun k => k ⟨p1, p2, s1, s2, q1, q2, r1, r2⟩)))
      clear k3 F6 F7 Fz hb3 hbw2 Hr2 Hps
      have k4 := fun W => less_any p q a b W (by omega) (by omega) (by omega) (by omega) (by omega) (by omega) (by omega) (by omega)
      have k5 := fun W => less_any c d r s W (by omega) (by omega) (by omega) (by omega) (by omega) (by omega) (by omega) (by omega)
      have cG6 := G6.c
      have fG6 := G6.f
      have lG6 := G6.lt
      have cG7 := G7.c
      have fG7 := G7.f
      have lG7 := G7.lt
      have cGz := Gz.c
      have fGz := Gz.f
      have lGz := Gz.lt
      by_cases hl1 : p * b < a * q
      case neg =>
        rw [decide_eq_false hl1] at k4
        go_wp2_with fail
        refine (k4 _).mono ?_
        rintro e w4 ⟨rfl, hb4⟩
        have hbw4 : Below w.heap.size w w4 := (by repeat (first | with_reducible exact Below.refl _ _ | with_reducible assumption | with_reducible refine balloc ?_ _ | with_reducible refine bdrewN ?_ _ | with_reducible refine Below.drew ?_ | (with_reducible refine bset ?_ ?_ _; rotate_left; focus (first | assumption | omega | (simp; done) | (simp; omega))) | with_reducible refine bstep ?_ (by assumption) | assumption))
        obtain rfl := Hr3.out.trans (if_pos (fun k => absurd k.1 (by omega)))
        clear k4 k5 Hr3 hl1 hb4 hbw3 G6 G7 Gz
        clear cG6 fG6 lG6 cG7 fG7 lG7 cGz fGz lGz
        go_wp2_with fail
        exact bodyPost_ret (v := .tuple #[.int .i64 0, .int .i64 14]) (by simp [results, Tryd.results40, go_sem]) rfl ⟨rfl, hbw4⟩
      case pos =>
      rw [decide_eq_true hl1] at k4
      have Hl1 := Lib.hid hl1
      clear hl1
      go_wp2_with fail
      refine (k4 _).mono ?_
      rintro e w4 ⟨rfl, hb4⟩
      clear cG6 fG6 lG6 cG7 fG7 lG7 cGz fGz lGz
      have I6 : Cs w4 g6 #[.int .i64 p, .int .i64 q] := Cs.keep (by repeat (first | with_reducible assumption | (with_reducible refine Cs.new _ _ _ _ ?_; first | rfl | (simp; done)) | with_reducible refine Cs.alloc ?_ _ | with_reducible refine Cs.drewN ?_ _ | with_reducible refine Cs.drew ?_ | with_reducible refine Cs.set4 ?_ _ _ _ _ | (with_reducible refine Cs.other4 ?_ ?_ _ _ _ _; rotate_left; focus (first | assumption | omega | (simp; done) | (simp; omega))) | with_reducible refine Cs.set2 ?_ _ _ | (with_reducible refine Cs.other2 ?_ ?_ _ _; rotate_left; focus (first | assumption | omega | (simp; done) | (simp; omega))) | (with_reducible refine Cs.other ?_ ?_ _; rotate_left; focus (first | assumption | omega | (simp; done) | (simp; omega))) | with_reducible refine Cs.keep ?_ (by assumption) | assumption)) hb4
      have I7 : Cs w4 g7 #[.int .i64 r, .int .i64 s] := Cs.keep (by repeat (first | with_reducible assumption | (with_reducible refine Cs.new _ _ _ _ ?_; first | rfl | (simp; done)) | with_reducible refine Cs.alloc ?_ _ | with_reducible refine Cs.drewN ?_ _ | with_reducible refine Cs.drew ?_ | with_reducible refine Cs.set4 ?_ _ _ _ _ | (with_reducible refine Cs.other4 ?_ ?_ _ _ _ _; rotate_left; focus (first | assumption | omega | (simp; done) | (simp; omega))) | with_reducible refine Cs.set2 ?_ _ _ | (with_reducible refine Cs.other2 ?_ ?_ _ _; rotate_left; focus (first | assumption | omega | (simp; done) | (simp; omega))) | (with_reducible refine Cs.other ?_ ?_ _; rotate_left; focus (first | assumption | omega | (simp; done) | (simp; omega))) | with_reducible refine Cs.keep ?_ (by assumption) | assumption)) hb4
      have Iz : Cs w4 (w.heap.size) #[.int .i64 a, .int .i64 b, .int .i64 c, .int .i64 d] := Cs.keep (by repeat (first | with_reducible assumption | (with_reducible refine Cs.new _ _ _ _ ?_; first | rfl | (simp; done)) | with_reducible refine Cs.alloc ?_ _ | with_reducible refine Cs.drewN ?_ _ | with_reducible refine Cs.drew ?_ | with_reducible refine Cs.set4 ?_ _ _ _ _ | (with_reducible refine Cs.other4 ?_ ?_ _ _ _ _; rotate_left; focus (first | assumption | omega | (simp; done) | (simp; omega))) | with_reducible refine Cs.set2 ?_ _ _ | (with_reducible refine Cs.other2 ?_ ?_ _ _; rotate_left; focus (first | assumption | omega | (simp; done) | (simp; omega))) | (with_reducible refine Cs.other ?_ ?_ _; rotate_left; focus (first | assumption | omega | (simp; done) | (simp; omega))) | with_reducible refine Cs.keep ?_ (by assumption) | assumption)) hb4
      have hbw4 : Below w.heap.size w w4 := (by repeat (first | with_reducible exact Below.refl _ _ | with_reducible assumption | with_reducible refine balloc ?_ _ | with_reducible refine bdrewN ?_ _ | with_reducible refine Below.drew ?_ | (with_reducible refine bset ?_ ?_ _; rotate_left; focus (first | assumption | omega | (simp; done) | (simp; omega))) | with_reducible refine bstep ?_ (by assumption) | assumption))
      clear k4 G6 G7 Gz hb4 hbw3
      have cI6 := I6.c
      have fI6 := I6.f
      have lI6 := I6.lt
      have cI7 := I7.c
      have fI7 := I7.f
      have lI7 := I7.lt
      have cIz := Iz.c
      have fIz := Iz.f
      have lIz := Iz.lt
      by_cases hl2 : c * s < r * d
      case neg =>
        rw [decide_eq_false hl2] at k5
        go_wp2_with fail
        refine (k5 _).mono ?_
        rintro e w5 ⟨rfl, hb5⟩
        have hbw5 : Below w.heap.size w w5 := (by repeat (first | with_reducible exact Below.refl _ _ | with_reducible assumption | with_reducible refine balloc ?_ _ | with_reducible refine bdrewN ?_ _ | with_reducible refine Below.drew ?_ | (with_reducible refine bset ?_ ?_ _; rotate_left; focus (first | assumption | omega | (simp; done) | (simp; omega))) | with_reducible refine bstep ?_ (by assumption) | assumption))
        obtain rfl := Hr3.out.trans (if_pos (fun k => absurd k.2.1 (by omega)))
        clear k5 Hr3 hl2 hb5 hbw4 I6 I7 Iz
        clear cI6 fI6 lI6 cI7 fI7 lI7 cIz fIz lIz
        go_wp2_with fail
        exact bodyPost_ret (v := .tuple #[.int .i64 0, .int .i64 14]) (by simp [results, Tryd.results40, go_sem]) rfl ⟨rfl, hbw5⟩
      case pos =>
      rw [decide_eq_true hl2] at k5
      have Hl2 := Lib.hid hl2
      clear hl2
      go_wp2_with fail
      refine (k5 _).mono ?_
      rintro e w5 ⟨rfl, hb5⟩
      clear cI6 fI6 lI6 cI7 fI7 lI7 cIz fIz lIz
      have J6 : Cs w5 g6 #[.int .i64 p, .int .i64 q] := Cs.keep (by repeat (first | with_reducible assumption | (with_reducible refine Cs.new _ _ _ _ ?_; first | rfl | (simp; done)) | with_reducible refine Cs.alloc ?_ _ | with_reducible refine Cs.drewN ?_ _ | with_reducible refine Cs.drew ?_ | with_reducible refine Cs.set4 ?_ _ _ _ _ | (with_reducible refine Cs.other4 ?_ ?_ _ _ _ _; rotate_left; focus (first | assumption | omega | (simp; done) | (simp; omega))) | with_reducible refine Cs.set2 ?_ _ _ | (with_reducible refine Cs.other2 ?_ ?_ _ _; rotate_left; focus (first | assumption | omega | (simp; done) | (simp; omega))) | (with_reducible refine Cs.other ?_ ?_ _; rotate_left; focus (first | assumption | omega | (simp; done) | (simp; omega))) | with_reducible refine Cs.keep ?_ (by assumption) | assumption)) hb5
      have J7 : Cs w5 g7 #[.int .i64 r, .int .i64 s] := Cs.keep (by repeat (first | with_reducible assumption | (with_reducible refine Cs.new _ _ _ _ ?_; first | rfl | (simp; done)) | with_reducible refine Cs.alloc ?_ _ | with_reducible refine Cs.drewN ?_ _ | with_reducible refine Cs.drew ?_ | with_reducible refine Cs.set4 ?_ _ _ _ _ | (with_reducible refine Cs.other4 ?_ ?_ _ _ _ _; rotate_left; focus (first | assumption | omega | (simp; done) | (simp; omega))) | with_reducible refine Cs.set2 ?_ _ _ | (with_reducible refine Cs.other2 ?_ ?_ _ _; rotate_left; focus (first | assumption | omega | (simp; done) | (simp; omega))) | (with_reducible refine Cs.other ?_ ?_ _; rotate_left; focus (first | assumption | omega | (simp; done) | (simp; omega))) | with_reducible refine Cs.keep ?_ (by assumption) | assumption)) hb5
      have hbw5 : Below w.heap.size w w5 := (by repeat (first | with_reducible exact Below.refl _ _ | with_reducible assumption | with_reducible refine balloc ?_ _ | with_reducible refine bdrewN ?_ _ | with_reducible refine Below.drew ?_ | (with_reducible refine bset ?_ ?_ _; rotate_left; focus (first | assumption | omega | (simp; done) | (simp; omega))) | with_reducible refine bstep ?_ (by assumption) | assumption))
      clear k5 I6 I7 Iz hb5 hbw4
      have m1 : 0 ≤ q * r := Int.mul_nonneg (by omega) (by omega)
      have m2 : q * r ≤ 1000000000 * 1000000000 := Int.mul_le_mul q2 r2 (by omega) (by omega)
      have m3 : 0 ≤ p * s := Int.mul_nonneg (by omega) (by omega)
      have m4 : p * s ≤ 1000000000 * 1000000000 := Int.mul_le_mul p2 s2 (by omega) (by omega)
      have f1 : IntKind.i64.wrap (q * r) = q * r := IntWalk.i64_in _ (by omega)
      have f2 : IntKind.i64.wrap (p * s) = p * s := IntWalk.i64_in _ (by omega)
      have f3 : IntKind.i64.wrap (q * r - p * s) = q * r - p * s := IntWalk.i64_in _ (by omega)
      have f4 : IntKind.i64.wrap (q + s) = q + s := IntWalk.i64_in _ (by omega)
      clear m1 m2 m3 m4 p1 p2 q1 q2 r1 r2 s1 s2 a1 a2 b1 b2 c1 c2 d1 d2
      by_cases hd1 : q * r - p * s = 1
      case neg =>
        have g1 : (q * r - p * s == 1) = false := by simp [hd1]
        obtain rfl := Hr3.out.trans (if_pos (fun k => hd1 k.2.2))
        clear Hr3
        have cJ6 := J6.c
        have fJ6 := J6.f
        have lJ6 := J6.lt
        have cJ7 := J7.c
        have fJ7 := J7.f
        have lJ7 := J7.lt
        go_wp2_with fail
        exact bodyPost_ret (v := .tuple #[.int .i64 0, .int .i64 14]) (by simp [results, Tryd.results40, go_sem]) rfl ⟨rfl, hbw5⟩
      case pos =>
        have g1 : (q * r - p * s == 1) = true := by simp [hd1]
        obtain rfl := Hr3.out.trans (if_neg (fun k => k ⟨Hl1.out, Hl2.out, hd1⟩))
        clear Hr3 Hl1 Hl2
        have cJ6 := J6.c
        have fJ6 := J6.f
        have lJ6 := J6.lt
        have cJ7 := J7.c
        have fJ7 := J7.f
        have lJ7 := J7.lt
        go_wp2_with fail
        exact bodyPost_ret (v := .tuple #[.int .i64 (q + s), .int .i64 0]) (by simp [results, Tryd.results40, go_sem, f4]) rfl ⟨rfl, hbw5⟩

end Go.Proofs.YtkjoamindolonaaDoor
