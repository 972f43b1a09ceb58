/- RA8 UA15 RA9 UMath4 UA16 UA17 RA10 UA13 UA20 UA21 LB -/
import Derived.Test.YtminplfgadhnnaaGreatDoorSS02
import Derived.Test.YtminplfgadhnnaaGreatDoorSS03
import Derived.WalkMore
import Derived.Deep.DeepCutAuto
import Derived.BigRegion
import Derived.Laws.CopyOwn
/- The walk of the reference's CheckProof. -/
section
namespace Go.Proofs.YtminplfgadhnnaaGreatDoor
open Go.RowKit Go.Shelf
set_option linter.unusedSimpArgs false
set_option linter.unusedVariables false
open Um (frac S4 spanB spanE)

set_option maxHeartbeats 2000000 in
theorem rcheckProof_any (a b c d p q r s : Int) (w : World) :
    Calls Tryz.prog 28 #[.agg #[.int .i64 a, .int .i64 b, .int .i64 c, .int .i64 d], .agg #[.int .i64 p, .int .i64 q, .int .i64 r, .int .i64 s]] w fun e w' => e = RetIE (Um.checkP (a, b, c, d) (p, q, r, s)) ∧ Below w.heap.size w w' := by
  unfold RetIE
  generalize hr : Um.checkP (a, b, c, d) (p, q, r, s) = res at *
  have Hr := Lib.hid hr
  clear hr
  by_cases h : spanB (a, b, c, d) = true
  case neg =>
    have k1 := fun W => rcheckSpan_bad a b c d W (by simpa using h)
    have e2 : Um.checkP (a, b, c, d) (p, q, r, s) = (0, 2) := by rw [Um.checkP, if_pos (by simpa using h)]
    obtain rfl := Hr.out.symm.trans e2
    clear e2 h Hr
    go_enter Tryz.func28, Tryz.ntmps28
    go_wp2_with fail
    refine (k1 _).mono ?_
    rintro e w1 ⟨rfl, hb1⟩
    try clear cB1 fB1 lB1
    try clear B1
    replace B0 : Cs w1 (w.heap.size) #[.int .i64 a, .int .i64 b, .int .i64 c, .int .i64 d] := Cs.keep (by repeat (first | with_reducible assumption | (with_reducible refine Cs.new _ _ _ _ ?_; first | rfl | (simp; done)) | with_reducible refine Cs.alloc ?_ _ | with_reducible refine Cs.drewN ?_ _ | with_reducible refine Cs.drew ?_ | with_reducible refine Cs.set4 ?_ _ _ _ _ | (with_reducible refine Cs.other4 ?_ ?_ _ _ _ _; rotate_left; focus (first | assumption | omega | (simp; done) | (simp; omega))) | with_reducible refine Cs.set2 ?_ _ _ | (with_reducible refine Cs.other2 ?_ ?_ _ _; rotate_left; focus (first | assumption | omega | (simp; done) | (simp; omega))) | (with_reducible refine Cs.other ?_ ?_ _; rotate_left; focus (first | assumption | omega | (simp; done) | (simp; omega))) | with_reducible refine Cs.keep ?_ (by assumption) | assumption)) hb1
    replace hbw : Below w.heap.size w w1 := (by repeat (first | with_reducible exact Below.refl _ _ | with_reducible assumption | with_reducible refine balloc ?_ _ | with_reducible refine bdrewN ?_ _ | with_reducible refine Below.drew ?_ | (with_reducible refine bset ?_ ?_ _; rotate_left; focus (first | assumption | omega | (simp; done) | (simp; omega))) | with_reducible refine bstep ?_ (by assumption) | assumption))
    replace cB0 := B0.c
    replace fB0 := B0.f
    replace lB0 := B0.lt
    clear hb1
    go_wp2_with fail
    refine (k1 _).mono ?_
    rintro e w2 ⟨rfl, hb2⟩
    try clear cB0 fB0 lB0
    try clear B0
    try clear cB1 fB1 lB1
    try clear B1
    replace hbw : Below w.heap.size w w2 := (by repeat (first | with_reducible exact Below.refl _ _ | with_reducible assumption | with_reducible refine balloc ?_ _ | with_reducible refine bdrewN ?_ _ | with_reducible refine Below.drew ?_ | (with_reducible refine bset ?_ ?_ _; rotate_left; focus (first | assumption | omega | (simp; done) | (simp; omega))) | with_reducible refine bstep ?_ (by assumption) | assumption))
    clear hb2
    go_wp2_with fail
    go_ret2
    exact ⟨rfl, (by repeat (first | with_reducible exact Below.refl _ _ | with_reducible assumption | with_reducible refine balloc ?_ _ | with_reducible refine bdrewN ?_ _ | with_reducible refine Below.drew ?_ | (with_reducible refine bset ?_ ?_ _; rotate_left; focus (first | assumption | omega | (simp; done) | (simp; omega))) | with_reducible refine bstep ?_ (by assumption) | assumption))⟩
  case pos =>
  have k1 := fun W => rcheckSpan_ok a b c d W h
  have e2 : Um.checkP (a, b, c, d) (p, q, r, s) = if ¬ (0 ≤ p ∧ p ≤ 1000000000 ∧ 0 ≤ s ∧ s ≤ 1000000000 ∧ 1 ≤ q ∧ q ≤ 1000000000 ∧ 1 ≤ r ∧ r ≤ 1000000000) then (0, 3) else if ¬ (p * b < a * q ∧ c * s < r * d ∧ q * r - p * s = 1) then (0, 14) else (q + s, 0) := by rw [Um.checkP, if_neg (by rw [h]; decide)]
  have Hr2 := Lib.hid (Hr.out.symm.trans e2)
  obtain ⟨h1, h2, h3⟩ := (Um.spanB_iff _).1 h
  obtain ⟨a1, a2, b1, b2⟩ := Um.frac_bd (n := a) (d := b) h1
  obtain ⟨c1, c2, d1, d2⟩ := Um.frac_bd (n := c) (d := d) h2
  clear e2 h h1 h2 h3 Hr
  have kw := fun x lo W => rwithin_any x lo 1000000000 W
  have dec : ∀ (x lo : Int), (decide (lo ≤ x) && decide (x ≤ 1000000000)) = decide (lo ≤ x ∧ x ≤ 1000000000) := by intro x lo; simp
  simp only [dec] at kw
  clear dec
  have kp := fun W => kw p 0 W
  have kq := fun W => kw q 1 W
  have kr := fun W => kw r 1 W
  have ks := fun W => kw s 0 W
  clear kw
  go_enter Tryz.func28, Tryz.ntmps28
  go_wp2_with fail
  refine (k1 _).mono ?_
  rintro e w1 ⟨rfl, hb1⟩
  replace B0 : Cs w1 (w.heap.size) #[.int .i64 a, .int .i64 b, .int .i64 c, .int .i64 d] := Cs.keep (by repeat (first | with_reducible assumption | (with_reducible refine Cs.new _ _ _ _ ?_; first | rfl | (simp; done)) | with_reducible refine Cs.alloc ?_ _ | with_reducible refine Cs.drewN ?_ _ | with_reducible refine Cs.drew ?_ | with_reducible refine Cs.set4 ?_ _ _ _ _ | (with_reducible refine Cs.other4 ?_ ?_ _ _ _ _; rotate_left; focus (first | assumption | omega | (simp; done) | (simp; omega))) | with_reducible refine Cs.set2 ?_ _ _ | (with_reducible refine Cs.other2 ?_ ?_ _ _; rotate_left; focus (first | assumption | omega | (simp; done) | (simp; omega))) | (with_reducible refine Cs.other ?_ ?_ _; rotate_left; focus (first | assumption | omega | (simp; done) | (simp; omega))) | with_reducible refine Cs.keep ?_ (by assumption) | assumption)) hb1
  replace B1 : Cs w1 (w.heap.size + 1) #[.int .i64 p, .int .i64 q, .int .i64 r, .int .i64 s] := Cs.keep (by repeat (first | with_reducible assumption | (with_reducible refine Cs.new _ _ _ _ ?_; first | rfl | (simp; done)) | with_reducible refine Cs.alloc ?_ _ | with_reducible refine Cs.drewN ?_ _ | with_reducible refine Cs.drew ?_ | with_reducible refine Cs.set4 ?_ _ _ _ _ | (with_reducible refine Cs.other4 ?_ ?_ _ _ _ _; rotate_left; focus (first | assumption | omega | (simp; done) | (simp; omega))) | with_reducible refine Cs.set2 ?_ _ _ | (with_reducible refine Cs.other2 ?_ ?_ _ _; rotate_left; focus (first | assumption | omega | (simp; done) | (simp; omega))) | (with_reducible refine Cs.other ?_ ?_ _; rotate_left; focus (first | assumption | omega | (simp; done) | (simp; omega))) | with_reducible refine Cs.keep ?_ (by assumption) | assumption)) hb1
  replace hbw : Below w.heap.size w w1 := (by repeat (first | with_reducible exact Below.refl _ _ | with_reducible assumption | with_reducible refine balloc ?_ _ | with_reducible refine bdrewN ?_ _ | with_reducible refine Below.drew ?_ | (with_reducible refine bset ?_ ?_ _; rotate_left; focus (first | assumption | omega | (simp; done) | (simp; omega))) | with_reducible refine bstep ?_ (by assumption) | assumption))
  replace cB0 := B0.c
  replace fB0 := B0.f
  replace lB0 := B0.lt
  replace cB1 := B1.c
  replace fB1 := B1.f
  replace lB1 := B1.lt
  clear hb1
  clear k1
  by_cases hp : 0 ≤ p ∧ p ≤ 1000000000
  case neg =>
    rw [decide_eq_false hp] at kp
    obtain rfl := Hr2.out.trans (if_pos (fun k => hp ⟨k.1, k.2.1⟩))
    clear hp Hr2
    go_wp2_with fail
    refine (kp _).mono ?_
    rintro e w2 ⟨rfl, hb2⟩
    try clear cB0 fB0 lB0
    try clear B0
    try clear cB1 fB1 lB1
    try clear B1
    replace hbw : Below w.heap.size w w2 := (by repeat (first | with_reducible exact Below.refl _ _ | with_reducible assumption | with_reducible refine balloc ?_ _ | with_reducible refine bdrewN ?_ _ | with_reducible refine Below.drew ?_ | (with_reducible refine bset ?_ ?_ _; rotate_left; focus (first | assumption | omega | (simp; done) | (simp; omega))) | with_reducible refine bstep ?_ (by assumption) | assumption))
    clear hb2
    go_wp2_with fail
    go_ret2
    exact ⟨rfl, (by repeat (first | with_reducible exact Below.refl _ _ | with_reducible assumption | with_reducible refine balloc ?_ _ | with_reducible refine bdrewN ?_ _ | with_reducible refine Below.drew ?_ | (with_reducible refine bset ?_ ?_ _; rotate_left; focus (first | assumption | omega | (simp; done) | (simp; omega))) | with_reducible refine bstep ?_ (by assumption) | assumption))⟩
  case pos =>
  rw [decide_eq_true hp] at kp
  go_wp2_with fail
  refine (kp _).mono ?_
  rintro e w2 ⟨rfl, hb2⟩
  replace B0 : Cs w2 (w.heap.size) #[.int .i64 a, .int .i64 b, .int .i64 c, .int .i64 d] := Cs.keep (by repeat (first | with_reducible assumption | (with_reducible refine Cs.new _ _ _ _ ?_; first | rfl | (simp; done)) | with_reducible refine Cs.alloc ?_ _ | with_reducible refine Cs.drewN ?_ _ | with_reducible refine Cs.drew ?_ | with_reducible refine Cs.set4 ?_ _ _ _ _ | (with_reducible refine Cs.other4 ?_ ?_ _ _ _ _; rotate_left; focus (first | assumption | omega | (simp; done) | (simp; omega))) | with_reducible refine Cs.set2 ?_ _ _ | (with_reducible refine Cs.other2 ?_ ?_ _ _; rotate_left; focus (first | assumption | omega | (simp; done) | (simp; omega))) | (with_reducible refine Cs.other ?_ ?_ _; rotate_left; focus (first | assumption | omega | (simp; done) | (simp; omega))) | with_reducible refine Cs.keep ?_ (by assumption) | assumption)) hb2
  replace B1 : Cs w2 (w.heap.size + 1) #[.int .i64 p, .int .i64 q, .int .i64 r, .int .i64 s] := Cs.keep (by repeat (first | with_reducible assumption | (with_reducible refine Cs.new _ _ _ _ ?_; first | rfl | (simp; done)) | with_reducible refine Cs.alloc ?_ _ | with_reducible refine Cs.drewN ?_ _ | with_reducible refine Cs.drew ?_ | with_reducible refine Cs.set4 ?_ _ _ _ _ | (with_reducible refine Cs.other4 ?_ ?_ _ _ _ _; rotate_left; focus (first | assumption | omega | (simp; done) | (simp; omega))) | with_reducible refine Cs.set2 ?_ _ _ | (with_reducible refine Cs.other2 ?_ ?_ _ _; rotate_left; focus (first | assumption | omega | (simp; done) | (simp; omega))) | (with_reducible refine Cs.other ?_ ?_ _; rotate_left; focus (first | assumption | omega | (simp; done) | (simp; omega))) | with_reducible refine Cs.keep ?_ (by assumption) | assumption)) hb2
  replace hbw : Below w.heap.size w w2 := (by repeat (first | with_reducible exact Below.refl _ _ | with_reducible assumption | with_reducible refine balloc ?_ _ | with_reducible refine bdrewN ?_ _ | with_reducible refine Below.drew ?_ | (with_reducible refine bset ?_ ?_ _; rotate_left; focus (first | assumption | omega | (simp; done) | (simp; omega))) | with_reducible refine bstep ?_ (by assumption) | assumption))
  replace cB0 := B0.c
  replace fB0 := B0.f
  replace lB0 := B0.lt
  replace cB1 := B1.c
  replace fB1 := B1.f
  replace lB1 := B1.lt
  clear hb2
  clear kp
  by_cases hq : 1 ≤ q ∧ q ≤ 1000000000
  case neg =>
    rw [decide_eq_false hq] at kq
    obtain rfl := Hr2.out.trans (if_pos (fun k => hq ⟨k.2.2.2.2.1, k.2.2.2.2.2.1⟩))
    clear hq Hr2
    go_wp2_with fail
    refine (kq _).mono ?_
    rintro e w3 ⟨rfl, hb3⟩
    try clear cB0 fB0 lB0
    try clear B0
    try clear cB1 fB1 lB1
    try clear B1
    replace hbw : Below w.heap.size w w3 := (by repeat (first | with_reducible exact Below.refl _ _ | with_reducible assumption | with_reducible refine balloc ?_ _ | with_reducible refine bdrewN ?_ _ | with_reducible refine Below.drew ?_ | (with_reducible refine bset ?_ ?_ _; rotate_left; focus (first | assumption | omega | (simp; done) | (simp; omega))) | with_reducible refine bstep ?_ (by assumption) | assumption))
    clear hb3
    go_wp2_with fail
    go_ret2
    exact ⟨rfl, (by repeat (first | with_reducible exact Below.refl _ _ | with_reducible assumption | with_reducible refine balloc ?_ _ | with_reducible refine bdrewN ?_ _ | with_reducible refine Below.drew ?_ | (with_reducible refine bset ?_ ?_ _; rotate_left; focus (first | assumption | omega | (simp; done) | (simp; omega))) | with_reducible refine bstep ?_ (by assumption) | assumption))⟩
  case pos =>
  rw [decide_eq_true hq] at kq
  go_wp2_with fail
  refine (kq _).mono ?_
  rintro e w3 ⟨rfl, hb3⟩
  replace B0 : Cs w3 (w.heap.size) #[.int .i64 a, .int .i64 b, .int .i64 c, .int .i64 d] := Cs.keep (by repeat (first | with_reducible assumption | (with_reducible refine Cs.new _ _ _ _ ?_; first | rfl | (simp; done)) | with_reducible refine Cs.alloc ?_ _ | with_reducible refine Cs.drewN ?_ _ | with_reducible refine Cs.drew ?_ | with_reducible refine Cs.set4 ?_ _ _ _ _ | (with_reducible refine Cs.other4 ?_ ?_ _ _ _ _; rotate_left; focus (first | assumption | omega | (simp; done) | (simp; omega))) | with_reducible refine Cs.set2 ?_ _ _ | (with_reducible refine Cs.other2 ?_ ?_ _ _; rotate_left; focus (first | assumption | omega | (simp; done) | (simp; omega))) | (with_reducible refine Cs.other ?_ ?_ _; rotate_left; focus (first | assumption | omega | (simp; done) | (simp; omega))) | with_reducible refine Cs.keep ?_ (by assumption) | assumption)) hb3
  replace B1 : Cs w3 (w.heap.size + 1) #[.int .i64 p, .int .i64 q, .int .i64 r, .int .i64 s] := Cs.keep (by repeat (first | with_reducible assumption | (with_reducible refine Cs.new _ _ _ _ ?_; first | rfl | (simp; done)) | with_reducible refine Cs.alloc ?_ _ | with_reducible refine Cs.drewN ?_ _ | with_reducible refine Cs.drew ?_ | with_reducible refine Cs.set4 ?_ _ _ _ _ | (with_reducible refine Cs.other4 ?_ ?_ _ _ _ _; rotate_left; focus (first | assumption | omega | (simp; done) | (simp; omega))) | with_reducible refine Cs.set2 ?_ _ _ | (with_reducible refine Cs.other2 ?_ ?_ _ _; rotate_left; focus (first | assumption | omega | (simp; done) | (simp; omega))) | (with_reducible refine Cs.other ?_ ?_ _; rotate_left; focus (first | assumption | omega | (simp; done) | (simp; omega))) | with_reducible refine Cs.keep ?_ (by assumption) | assumption)) hb3
  replace hbw : Below w.heap.size w w3 := (by repeat (first | with_reducible exact Below.refl _ _ | with_reducible assumption | with_reducible refine balloc ?_ _ | with_reducible refine bdrewN ?_ _ | with_reducible refine Below.drew ?_ | (with_reducible refine bset ?_ ?_ _; rotate_left; focus (first | assumption | omega | (simp; done) | (simp; omega))) | with_reducible refine bstep ?_ (by assumption) | assumption))
  replace cB0 := B0.c
  replace fB0 := B0.f
  replace lB0 := B0.lt
  replace cB1 := B1.c
  replace fB1 := B1.f
  replace lB1 := B1.lt
  clear hb3
  clear kq
  by_cases hR : 1 ≤ r ∧ r ≤ 1000000000
  case neg =>
    rw [decide_eq_false hR] at kr
    obtain rfl := Hr2.out.trans (if_pos (fun k => hR k.2.2.2.2.2.2))
    clear hR Hr2
    go_wp2_with fail
    refine (kr _).mono ?_
    rintro e w4 ⟨rfl, hb4⟩
    try clear cB0 fB0 lB0
    try clear B0
    try clear cB1 fB1 lB1
    try clear B1
    replace hbw : Below w.heap.size w w4 := (by repeat (first | with_reducible exact Below.refl _ _ | with_reducible assumption | with_reducible refine balloc ?_ _ | with_reducible refine bdrewN ?_ _ | with_reducible refine Below.drew ?_ | (with_reducible refine bset ?_ ?_ _; rotate_left; focus (first | assumption | omega | (simp; done) | (simp; omega))) | with_reducible refine bstep ?_ (by assumption) | assumption))
    clear hb4
    go_wp2_with fail
    go_ret2
    exact ⟨rfl, (by repeat (first | with_reducible exact Below.refl _ _ | with_reducible assumption | with_reducible refine balloc ?_ _ | with_reducible refine bdrewN ?_ _ | with_reducible refine Below.drew ?_ | (with_reducible refine bset ?_ ?_ _; rotate_left; focus (first | assumption | omega | (simp; done) | (simp; omega))) | with_reducible refine bstep ?_ (by assumption) | assumption))⟩
  case pos =>
  rw [decide_eq_true hR] at kr
  go_wp2_with fail
  refine (kr _).mono ?_
  rintro e w4 ⟨rfl, hb4⟩
  replace B0 : Cs w4 (w.heap.size) #[.int .i64 a, .int .i64 b, .int .i64 c, .int .i64 d] := Cs.keep (by repeat (first | with_reducible assumption | (with_reducible refine Cs.new _ _ _ _ ?_; first | rfl | (simp; done)) | with_reducible refine Cs.alloc ?_ _ | with_reducible refine Cs.drewN ?_ _ | with_reducible refine Cs.drew ?_ | with_reducible refine Cs.set4 ?_ _ _ _ _ | (with_reducible refine Cs.other4 ?_ ?_ _ _ _ _; rotate_left; focus (first | assumption | omega | (simp; done) | (simp; omega))) | with_reducible refine Cs.set2 ?_ _ _ | (with_reducible refine Cs.other2 ?_ ?_ _ _; rotate_left; focus (first | assumption | omega | (simp; done) | (simp; omega))) | (with_reducible refine Cs.other ?_ ?_ _; rotate_left; focus (first | assumption | omega | (simp; done) | (simp; omega))) | with_reducible refine Cs.keep ?_ (by assumption) | assumption)) hb4
  replace B1 : Cs w4 (w.heap.size + 1) #[.int .i64 p, .int .i64 q, .int .i64 r, .int .i64 s] := Cs.keep (by repeat (first | with_reducible assumption | (with_reducible refine Cs.new _ _ _ _ ?_; first | rfl | (simp; done)) | with_reducible refine Cs.alloc ?_ _ | with_reducible refine Cs.drewN ?_ _ | with_reducible refine Cs.drew ?_ | with_reducible refine Cs.set4 ?_ _ _ _ _ | (with_reducible refine Cs.other4 ?_ ?_ _ _ _ _; rotate_left; focus (first | assumption | omega | (simp; done) | (simp; omega))) | with_reducible refine Cs.set2 ?_ _ _ | (with_reducible refine Cs.other2 ?_ ?_ _ _; rotate_left; focus (first | assumption | omega | (simp; done) | (simp; omega))) | (with_reducible refine Cs.other ?_ ?_ _; rotate_left; focus (first | assumption | omega | (simp; done) | (simp; omega))) | with_reducible refine Cs.keep ?_ (by assumption) | assumption)) hb4
  replace hbw : Below w.heap.size w w4 := (by repeat (first | with_reducible exact Below.refl _ _ | with_reducible assumption | with_reducible refine balloc ?_ _ | with_reducible refine bdrewN ?_ _ | with_reducible refine Below.drew ?_ | (with_reducible refine bset ?_ ?_ _; rotate_left; focus (first | assumption | omega | (simp; done) | (simp; omega))) | with_reducible refine bstep ?_ (by assumption) | assumption))
  replace cB0 := B0.c
  replace fB0 := B0.f
  replace lB0 := B0.lt
  replace cB1 := B1.c
  replace fB1 := B1.f
  replace lB1 := B1.lt
  clear hb4
  clear kr
  by_cases hS : 0 ≤ s ∧ s ≤ 1000000000
  case neg =>
    rw [decide_eq_false hS] at ks
    obtain rfl := Hr2.out.trans (if_pos (fun k => hS ⟨k.2.2.1, k.2.2.2.1⟩))
    clear hS Hr2
    go_wp2_with fail
    refine (ks _).mono ?_
    rintro e w5 ⟨rfl, hb5⟩
    try clear cB0 fB0 lB0
    try clear B0
    try clear cB1 fB1 lB1
    try clear B1
    replace hbw : Below w.heap.size w w5 := (by repeat (first | with_reducible exact Below.refl _ _ | with_reducible assumption | with_reducible refine balloc ?_ _ | with_reducible refine bdrewN ?_ _ | with_reducible refine Below.drew ?_ | (with_reducible refine bset ?_ ?_ _; rotate_left; focus (first | assumption | omega | (simp; done) | (simp; omega))) | with_reducible refine bstep ?_ (by assumption) | assumption))
    clear hb5
    go_wp2_with fail
    go_ret2
    exact ⟨rfl, (by repeat (first | with_reducible exact Below.refl _ _ | with_reducible assumption | with_reducible refine balloc ?_ _ | with_reducible refine bdrewN ?_ _ | with_reducible refine Below.drew ?_ | (with_reducible refine bset ?_ ?_ _; rotate_left; focus (first | assumption | omega | (simp; done) | (simp; omega))) | with_reducible refine bstep ?_ (by assumption) | assumption))⟩
  case pos =>
  rw [decide_eq_true hS] at ks
  go_wp2_with fail
  refine (ks _).mono ?_
  rintro e w5 ⟨rfl, hb5⟩
  replace B0 : Cs w5 (w.heap.size) #[.int .i64 a, .int .i64 b, .int .i64 c, .int .i64 d] := Cs.keep (by repeat (first | with_reducible assumption | (with_reducible refine Cs.new _ _ _ _ ?_; first | rfl | (simp; done)) | with_reducible refine Cs.alloc ?_ _ | with_reducible refine Cs.drewN ?_ _ | with_reducible refine Cs.drew ?_ | with_reducible refine Cs.set4 ?_ _ _ _ _ | (with_reducible refine Cs.other4 ?_ ?_ _ _ _ _; rotate_left; focus (first | assumption | omega | (simp; done) | (simp; omega))) | with_reducible refine Cs.set2 ?_ _ _ | (with_reducible refine Cs.other2 ?_ ?_ _ _; rotate_left; focus (first | assumption | omega | (simp; done) | (simp; omega))) | (with_reducible refine Cs.other ?_ ?_ _; rotate_left; focus (first | assumption | omega | (simp; done) | (simp; omega))) | with_reducible refine Cs.keep ?_ (by assumption) | assumption)) hb5
  replace B1 : Cs w5 (w.heap.size + 1) #[.int .i64 p, .int .i64 q, .int .i64 r, .int .i64 s] := Cs.keep (by repeat (first | with_reducible assumption | (with_reducible refine Cs.new _ _ _ _ ?_; first | rfl | (simp; done)) | with_reducible refine Cs.alloc ?_ _ | with_reducible refine Cs.drewN ?_ _ | with_reducible refine Cs.drew ?_ | with_reducible refine Cs.set4 ?_ _ _ _ _ | (with_reducible refine Cs.other4 ?_ ?_ _ _ _ _; rotate_left; focus (first | assumption | omega | (simp; done) | (simp; omega))) | with_reducible refine Cs.set2 ?_ _ _ | (with_reducible refine Cs.other2 ?_ ?_ _ _; rotate_left; focus (first | assumption | omega | (simp; done) | (simp; omega))) | (with_reducible refine Cs.other ?_ ?_ _; rotate_left; focus (first | assumption | omega | (simp; done) | (simp; omega))) | with_reducible refine Cs.keep ?_ (by assumption) | assumption)) hb5
  replace hbw : Below w.heap.size w w5 := (by repeat (first | with_reducible exact Below.refl _ _ | with_reducible assumption | with_reducible refine balloc ?_ _ | with_reducible refine bdrewN ?_ _ | with_reducible refine Below.drew ?_ | (with_reducible refine bset ?_ ?_ _; rotate_left; focus (first | assumption | omega | (simp; done) | (simp; omega))) | with_reducible refine bstep ?_ (by assumption) | assumption))
  replace cB0 := B0.c
  replace fB0 := B0.f
  replace lB0 := B0.lt
  replace cB1 := B1.c
  replace fB1 := B1.f
  replace lB1 := B1.lt
  clear hb5
  clear ks
  have Hr3 := Lib.hid (Hr2.out.trans (if_neg (fun k => k ⟨hp.1, hp.2, hS.1, hS.2, hq.1, hq.2, hR.1, hR.2⟩)))
  obtain ⟨p1, p2⟩ := hp
  obtain ⟨q1, q2⟩ := hq
  obtain ⟨r1, r2⟩ := hR
  obtain ⟨s1, s2⟩ := hS
  clear Hr2
  have k4 := fun W => rless_any p q a b W (by omega) (by omega) (by omega) (by omega) (by omega) (by omega) (by omega) (by omega)
  have m1 : 0 ≤ q * r := Int.mul_nonneg (by omega) (by omega)
  have m2 : q * r ≤ 1000000000 * 1000000000 := Int.mul_le_mul q2 r2 (by omega) (by omega)
  have m3 : 0 ≤ p * s := Int.mul_nonneg (by omega) (by omega)
  have m4 : p * s ≤ 1000000000 * 1000000000 := Int.mul_le_mul p2 s2 (by omega) (by omega)
  have m5 : 0 ≤ r * d := Int.mul_nonneg (by omega) (by omega)
  have m6 : r * d ≤ 1000000000 * 1000000000 := Int.mul_le_mul r2 d2 (by omega) (by omega)
  have m7 : 0 ≤ c * s := Int.mul_nonneg (by omega) (by omega)
  have m8 : c * s ≤ 1000000000 * 1000000000 := Int.mul_le_mul c2 s2 (by omega) (by omega)
  have f1 : IntKind.i64.wrap (q * r) = q * r := IntWalk.i64_in _ (by omega)
  have f2 : IntKind.i64.wrap (p * s) = p * s := IntWalk.i64_in _ (by omega)
  have f3 : IntKind.i64.wrap (q * r - p * s) = q * r - p * s := IntWalk.i64_in _ (by omega)
  have f4 : IntKind.i64.wrap (q + s) = q + s := IntWalk.i64_in _ (by omega)
  have f5 : IntKind.i64.wrap (r * d) = r * d := IntWalk.i64_in _ (by omega)
  have f6 : IntKind.i64.wrap (c * s) = c * s := IntWalk.i64_in _ (by omega)
  clear m1 m2 m3 m4 m5 m6 m7 m8 p1 p2 q1 q2 r1 r2 s1 s2 a1 a2 b1 b2 c1 c2 d1 d2
  by_cases hl1 : p * b < a * q
  case neg =>
    rw [decide_eq_false hl1] at k4
    obtain rfl := Hr3.out.trans (if_pos (fun k => absurd k.1 (by omega)))
    clear hl1 Hr3
    go_wp2_with fail
    refine (k4 _).mono ?_
    rintro e w6 ⟨rfl, hb6⟩
    try clear cB0 fB0 lB0
    try clear B0
    try clear cB1 fB1 lB1
    try clear B1
    replace hbw : Below w.heap.size w w6 := (by repeat (first | with_reducible exact Below.refl _ _ | with_reducible assumption | with_reducible refine balloc ?_ _ | with_reducible refine bdrewN ?_ _ | with_reducible refine Below.drew ?_ | (with_reducible refine bset ?_ ?_ _; rotate_left; focus (first | assumption | omega | (simp; done) | (simp; omega))) | with_reducible refine bstep ?_ (by assumption) | assumption))
    clear hb6
    go_wp2_with fail
    go_ret2
    exact ⟨rfl, (by repeat (first | with_reducible exact Below.refl _ _ | with_reducible assumption | with_reducible refine balloc ?_ _ | with_reducible refine bdrewN ?_ _ | with_reducible refine Below.drew ?_ | (with_reducible refine bset ?_ ?_ _; rotate_left; focus (first | assumption | omega | (simp; done) | (simp; omega))) | with_reducible refine bstep ?_ (by assumption) | assumption))⟩
  case pos =>
  rw [decide_eq_true hl1] at k4
  have Hl1 := Lib.hid hl1
  clear hl1
  go_wp2_with fail
  refine (k4 _).mono ?_
  rintro e w6 ⟨rfl, hb6⟩
  replace B0 : Cs w6 (w.heap.size) #[.int .i64 a, .int .i64 b, .int .i64 c, .int .i64 d] := Cs.keep (by repeat (first | with_reducible assumption | (with_reducible refine Cs.new _ _ _ _ ?_; first | rfl | (simp; done)) | with_reducible refine Cs.alloc ?_ _ | with_reducible refine Cs.drewN ?_ _ | with_reducible refine Cs.drew ?_ | with_reducible refine Cs.set4 ?_ _ _ _ _ | (with_reducible refine Cs.other4 ?_ ?_ _ _ _ _; rotate_left; focus (first | assumption | omega | (simp; done) | (simp; omega))) | with_reducible refine Cs.set2 ?_ _ _ | (with_reducible refine Cs.other2 ?_ ?_ _ _; rotate_left; focus (first | assumption | omega | (simp; done) | (simp; omega))) | (with_reducible refine Cs.other ?_ ?_ _; rotate_left; focus (first | assumption | omega | (simp; done) | (simp; omega))) | with_reducible refine Cs.keep ?_ (by assumption) | assumption)) hb6
  replace B1 : Cs w6 (w.heap.size + 1) #[.int .i64 p, .int .i64 q, .int .i64 r, .int .i64 s] := Cs.keep (by repeat (first | with_reducible assumption | (with_reducible refine Cs.new _ _ _ _ ?_; first | rfl | (simp; done)) | with_reducible refine Cs.alloc ?_ _ | with_reducible refine Cs.drewN ?_ _ | with_reducible refine Cs.drew ?_ | with_reducible refine Cs.set4 ?_ _ _ _ _ | (with_reducible refine Cs.other4 ?_ ?_ _ _ _ _; rotate_left; focus (first | assumption | omega | (simp; done) | (simp; omega))) | with_reducible refine Cs.set2 ?_ _ _ | (with_reducible refine Cs.other2 ?_ ?_ _ _; rotate_left; focus (first | assumption | omega | (simp; done) | (simp; omega))) | (with_reducible refine Cs.other ?_ ?_ _; rotate_left; focus (first | assumption | omega | (simp; done) | (simp; omega))) | with_reducible refine Cs.keep ?_ (by assumption) | assumption)) hb6
  replace hbw : Below w.heap.size w w6 := (by repeat (first | with_reducible exact Below.refl _ _ | with_reducible assumption | with_reducible refine balloc ?_ _ | with_reducible refine bdrewN ?_ _ | with_reducible refine Below.drew ?_ | (with_reducible refine bset ?_ ?_ _; rotate_left; focus (first | assumption | omega | (simp; done) | (simp; omega))) | with_reducible refine bstep ?_ (by assumption) | assumption))
  replace cB0 := B0.c
  replace fB0 := B0.f
  replace lB0 := B0.lt
  replace cB1 := B1.c
  replace fB1 := B1.f
  replace lB1 := B1.lt
  clear hb6
  clear k4
  by_cases hl2 : c * s < r * d
  case neg =>
    obtain rfl := Hr3.out.trans (if_pos (fun k => absurd k.2.1 (by omega)))
    have g1 : r * d ≤ c * s := by omega
    clear hl2 Hr3
    go_wp2_with fail
    go_ret2
    exact ⟨rfl, (by repeat (first | with_reducible exact Below.refl _ _ | with_reducible assumption | with_reducible refine balloc ?_ _ | with_reducible refine bdrewN ?_ _ | with_reducible refine Below.drew ?_ | (with_reducible refine bset ?_ ?_ _; rotate_left; focus (first | assumption | omega | (simp; done) | (simp; omega))) | with_reducible refine bstep ?_ (by assumption) | assumption))⟩
  case pos =>
  have g1 : ¬ r * d ≤ c * s := by omega
  have Hl2 := Lib.hid hl2
  clear hl2
  by_cases hd1 : q * r - p * s = 1
  case neg =>
    have g2 : (q * r - p * s == 1) = false := by simp [hd1]
    have g3 : (q * r - p * s != 1) = true := by simp [hd1]
    obtain rfl := Hr3.out.trans (if_pos (fun k => hd1 k.2.2))
    clear Hr3 hd1
    go_wp2_with fail
    go_ret2
    exact ⟨rfl, (by repeat (first | with_reducible exact Below.refl _ _ | with_reducible assumption | with_reducible refine balloc ?_ _ | with_reducible refine bdrewN ?_ _ | with_reducible refine Below.drew ?_ | (with_reducible refine bset ?_ ?_ _; rotate_left; focus (first | assumption | omega | (simp; done) | (simp; omega))) | with_reducible refine bstep ?_ (by assumption) | assumption))⟩
  case pos =>
    have g2 : (q * r - p * s == 1) = true := by simp [hd1]
    have g3 : (q * r - p * s != 1) = false := by simp [hd1]
    obtain rfl := Hr3.out.trans (if_neg (fun k => k ⟨Hl1.out, Hl2.out, hd1⟩))
    clear Hr3 Hl1 Hl2 hd1
    go_wp2_with fail
    go_ret2
    exact ⟨rfl, (by repeat (first | with_reducible exact Below.refl _ _ | with_reducible assumption | with_reducible refine balloc ?_ _ | with_reducible refine bdrewN ?_ _ | with_reducible refine Below.drew ?_ | (with_reducible refine bset ?_ ?_ _; rotate_left; focus (first | assumption | omega | (simp; done) | (simp; omega))) | with_reducible refine bstep ?_ (by assumption) | assumption))⟩

end Go.Proofs.YtminplfgadhnnaaGreatDoor
end

/- The walk of package unit's Path. -/
section
namespace Go.Proofs.YtminplfgadhnnaaGreatDoor
open Go.RowKit Go.Shelf
set_option linter.unusedSimpArgs false
set_option linter.unusedVariables false
open Um (frac S4 spanB spanE sp eu)

end Go.Proofs.YtminplfgadhnnaaGreatDoor
end

/- Walks of the reference of layer 1: Path. -/
section
namespace Go.Proofs.YtminplfgadhnnaaGreatDoor
open Go.RowKit Go.Shelf
set_option linter.unusedSimpArgs false
set_option linter.unusedVariables false
open Um (frac S4 spanB spanE eu)

end Go.Proofs.YtminplfgadhnnaaGreatDoor
end

/- Plain laws of paths: place by place, from the last number on. -/
section
set_option linter.unusedSimpArgs false
set_option linter.unusedVariables false
namespace Um

/-- number i of a path of L + 1 numbers -/
def placeOk (L i : Nat) (x : Int) : Prop := 0 ≤ x ∧ (0 < i → 1 ≤ x) ∧ (0 < i → i = L → 2 ≤ x) ∧ (L = 0 → 1 ≤ x)

def fits (zs : List Int) : Prop := (ev zs).1 ≤ 1000000000 ∧ (ev zs).2 ≤ 1000000000

end Um
end

/- The walk of package unit's isPath. -/
section
namespace Go.Proofs.YtminplfgadhnnaaGreatDoor
open Go.RowKit Go.Shelf
set_option linter.unusedSimpArgs false
set_option linter.unusedVariables false
open Um (pathB tailB)

end Go.Proofs.YtminplfgadhnnaaGreatDoor
end

/- The walk of package unit's Follow. -/
section
namespace Go.Proofs.YtminplfgadhnnaaGreatDoor
open Go.RowKit Go.Shelf
set_option linter.unusedSimpArgs false
set_option linter.unusedVariables false
open Um (frac S4 spanB spanE sp on St stepsL inl pathB)

attribute [local go_sem] Oper.semAt_some

end Go.Proofs.YtminplfgadhnnaaGreatDoor
end

/- The walk of the reference's Follow. -/
section
namespace Go.Proofs.YtminplfgadhnnaaGreatDoor
open Go.RowKit Go.Shelf
set_option linter.unusedSimpArgs false
set_option linter.unusedVariables false
open Um (ev pathB placeOk canon fits)

end Go.Proofs.YtminplfgadhnnaaGreatDoor
end

/- The walk of package unit's Proof. -/
section
namespace Go.Proofs.YtminplfgadhnnaaGreatDoor
open Go.RowKit Go.Shelf
set_option linter.unusedSimpArgs false
set_option linter.unusedVariables false
open Um (frac S4 spanB spanE sp on St stepsL)

/-- four numbers and an error are handed back -/
def RetPE (r : S4 × Int) : Ending := .returned (.tuple #[.agg #[.int .i64 r.1.1, .int .i64 r.1.2.1, .int .i64 r.1.2.2.1, .int .i64 r.1.2.2.2], .int .i64 r.2])

set_option maxHeartbeats 1000000 in
theorem proofE_ok (a b c d : Int) (w : World) (h : spanB (a, b, c, d) = true) (hfa : FirstAt w) :
    Calls Tryz.prog 27 #[.agg #[.int .i64 a, .int .i64 b, .int .i64 c, .int .i64 d]] w fun e w' => e = RetPE (Um.parts (Um.fw Um.first (Um.best (a, b, c, d))), 0) ∧ Below w.heap.size w w' := by
  have hB := Um.best_ok _ h
  obtain ⟨h1, h2, h3⟩ := (Um.spanB_iff _).1 h
  obtain ⟨a1, a2, b1, b2⟩ := Um.frac_bd (n := a) (d := b) h1
  obtain ⟨c1, c2, d1, d2⟩ := Um.frac_bd (n := c) (d := d) h2
  have k1 := fun W => checkSpan_ok a b c d W h
  have hlen := hB.len
  have k2 := fun W => simplest_any (b + d).toNat a b c d W a1 a2 b1 b2 c1 c2 d1 d2 h3 (by omega) (Nat.le_trans hlen (by omega))
  have k3 := fun A n cap W hz (hb : Below w.heap.size w W) => last_any A n cap (Um.best (a, b, c, d)) W hz (by have := hz.1; omega) hB.pos (hfa.below hb)
  have e0 : lastSt (stepsL Um.first (Um.best (a, b, c, d))) = Um.fw Um.first (Um.best (a, b, c, d)) := hB.last
  rw [e0] at k3
  have n1 := hB.n
  have n2 := hB.m
  rw [← hB.x0] at n1
  rw [← hB.x1] at n2
  have p0 := hB.p0
  have p1 := hB.p1
  have q0 := hB.q0
  have q1 := hB.q1
  unfold RetPE
  have k2' : ∀ W, Calls Tryz.prog 46 #[.agg #[.int .i64 a, .int .i64 b], .agg #[.int .i64 c, .int .i64 d]] W (RetInts (Um.best (a, b, c, d)) W) := k2
  unfold RetInts at k2'
  clear k2 hB hlen e0 h1 h2 h3 h hfa
  generalize Um.fw Um.first (Um.best (a, b, c, d)) = x at *
  generalize Um.best (a, b, c, d) = L at *
  obtain ⟨x0, x1, x2, x3⟩ := x
  dsimp only at k3 n1 n2 p0 p1 q0 q1 ⊢
  clear a1 a2 b1 b2 c1 c2 d1 d2
  have k4 := fun W => less_any (x0 - x2) (x1 - x3) x2 x3 W (by omega) (by omega) (by omega) (by omega) (by omega) (by omega) (by omega) (by omega)
  have hdc : ∀ y : Bool, decide ((x0 - x2) * x3 < x2 * (x1 - x3)) = y → Um.parts (x0, x1, x2, x3) = if y = true then (x0 - x2, x1 - x3, x2, x3) else (x2, x3, x0 - x2, x1 - x3) := by
    intro y hy
    subst hy
    unfold Um.parts
    simp
  generalize hy : decide ((x0 - x2) * x3 < x2 * (x1 - x3)) = y at *
  rw [hdc y rfl]
  clear hdc hy
  go_enter Tryz.func27, Tryz.ntmps27
  go_wp2_with fail
  refine (k1 _).mono ?_
  rintro e w1 ⟨rfl, hb1⟩
  have B0 : Cs w1 (w.heap.size) #[.int .i64 a, .int .i64 b, .int .i64 c, .int .i64 d] := Cs.keep (by repeat (first | with_reducible assumption | (with_reducible refine Cs.new _ _ _ _ ?_; first | rfl | (simp; done)) | with_reducible refine Cs.alloc ?_ _ | with_reducible refine Cs.drewN ?_ _ | with_reducible refine Cs.drew ?_ | with_reducible refine Cs.set4 ?_ _ _ _ _ | (with_reducible refine Cs.other4 ?_ ?_ _ _ _ _; rotate_left; focus (first | assumption | omega | (simp; done) | (simp; omega))) | with_reducible refine Cs.set2 ?_ _ _ | (with_reducible refine Cs.other2 ?_ ?_ _ _; rotate_left; focus (first | assumption | omega | (simp; done) | (simp; omega))) | (with_reducible refine Cs.other ?_ ?_ _; rotate_left; focus (first | assumption | omega | (simp; done) | (simp; omega))) | with_reducible refine Cs.keep ?_ (by assumption) | assumption)) hb1
  have B1 : Cs w1 (w.heap.size + 1) #[.int .i64 0, .int .i64 0, .int .i64 0, .int .i64 0] := Cs.keep (by repeat (first | with_reducible assumption | (with_reducible refine Cs.new _ _ _ _ ?_; first | rfl | (simp; done)) | with_reducible refine Cs.alloc ?_ _ | with_reducible refine Cs.drewN ?_ _ | with_reducible refine Cs.drew ?_ | with_reducible refine Cs.set4 ?_ _ _ _ _ | (with_reducible refine Cs.other4 ?_ ?_ _ _ _ _; rotate_left; focus (first | assumption | omega | (simp; done) | (simp; omega))) | with_reducible refine Cs.set2 ?_ _ _ | (with_reducible refine Cs.other2 ?_ ?_ _ _; rotate_left; focus (first | assumption | omega | (simp; done) | (simp; omega))) | (with_reducible refine Cs.other ?_ ?_ _; rotate_left; focus (first | assumption | omega | (simp; done) | (simp; omega))) | with_reducible refine Cs.keep ?_ (by assumption) | assumption)) hb1
  have hbw1 : Below w.heap.size w w1 := (by repeat (first | with_reducible exact Below.refl _ _ | with_reducible assumption | with_reducible refine balloc ?_ _ | with_reducible refine bdrewN ?_ _ | with_reducible refine Below.drew ?_ | (with_reducible refine bset ?_ ?_ _; rotate_left; focus (first | assumption | omega | (simp; done) | (simp; omega))) | with_reducible refine bstep ?_ (by assumption) | assumption))
  have cB0 := B0.c
  have fB0 := B0.f
  have lB0 := B0.lt
  have cB1 := B1.c
  have fB1 := B1.f
  have lB1 := B1.lt
  go_wp2_with fail
  refine (k2' _).mono ?_
  rintro e w2 ⟨g, cc, rfl, hI, hcc, hb2⟩
  clear cB0 fB0 lB0 cB1 fB1 lB1
  have C1 : Cs w2 (w.heap.size + 1) #[.int .i64 0, .int .i64 0, .int .i64 0, .int .i64 0] := Cs.keep (by repeat (first | with_reducible assumption | (with_reducible refine Cs.new _ _ _ _ ?_; first | rfl | (simp; done)) | with_reducible refine Cs.alloc ?_ _ | with_reducible refine Cs.drewN ?_ _ | with_reducible refine Cs.drew ?_ | with_reducible refine Cs.set4 ?_ _ _ _ _ | (with_reducible refine Cs.other4 ?_ ?_ _ _ _ _; rotate_left; focus (first | assumption | omega | (simp; done) | (simp; omega))) | with_reducible refine Cs.set2 ?_ _ _ | (with_reducible refine Cs.other2 ?_ ?_ _ _; rotate_left; focus (first | assumption | omega | (simp; done) | (simp; omega))) | (with_reducible refine Cs.other ?_ ?_ _; rotate_left; focus (first | assumption | omega | (simp; done) | (simp; omega))) | with_reducible refine Cs.keep ?_ (by assumption) | assumption)) hb2
  have hbw2 : Below w.heap.size w w2 := (by repeat (first | with_reducible exact Below.refl _ _ | with_reducible assumption | with_reducible refine balloc ?_ _ | with_reducible refine bdrewN ?_ _ | with_reducible refine Below.drew ?_ | (with_reducible refine bset ?_ ?_ _; rotate_left; focus (first | assumption | omega | (simp; done) | (simp; omega))) | with_reducible refine bstep ?_ (by assumption) | assumption))
  have cC1 := C1.c
  have fC1 := C1.f
  have lC1 := C1.lt
  go_wp2_with fail
  refine (k3 _ _ _ _ hI hbw2).mono ?_
  rintro e w3 ⟨rfl, hb3⟩
  clear cC1 fC1 lC1
  have D1 : Cs w3 (w.heap.size + 1) #[.int .i64 0, .int .i64 0, .int .i64 0, .int .i64 0] := Cs.keep (by repeat (first | with_reducible assumption | (with_reducible refine Cs.new _ _ _ _ ?_; first | rfl | (simp; done)) | with_reducible refine Cs.alloc ?_ _ | with_reducible refine Cs.drewN ?_ _ | with_reducible refine Cs.drew ?_ | with_reducible refine Cs.set4 ?_ _ _ _ _ | (with_reducible refine Cs.other4 ?_ ?_ _ _ _ _; rotate_left; focus (first | assumption | omega | (simp; done) | (simp; omega))) | with_reducible refine Cs.set2 ?_ _ _ | (with_reducible refine Cs.other2 ?_ ?_ _ _; rotate_left; focus (first | assumption | omega | (simp; done) | (simp; omega))) | (with_reducible refine Cs.other ?_ ?_ _; rotate_left; focus (first | assumption | omega | (simp; done) | (simp; omega))) | with_reducible refine Cs.keep ?_ (by assumption) | assumption)) hb3
  have hbw3 : Below w.heap.size w w3 := (by repeat (first | with_reducible exact Below.refl _ _ | with_reducible assumption | with_reducible refine balloc ?_ _ | with_reducible refine bdrewN ?_ _ | with_reducible refine Below.drew ?_ | (with_reducible refine bset ?_ ?_ _; rotate_left; focus (first | assumption | omega | (simp; done) | (simp; omega))) | with_reducible refine bstep ?_ (by assumption) | assumption))
  have f1 : IntKind.i64.wrap (x0 - x2) = x0 - x2 := IntWalk.i64_in _ (by omega)
  have f2 : IntKind.i64.wrap (x1 - x3) = x1 - x3 := IntWalk.i64_in _ (by omega)
  clear k1 k2' k3 hI hcc n1 n2 p0 p1 q0 q1 B0 B1 C1 hbw1 hbw2 hb1 hb2 hb3
  have hne : w.heap.size + 1 < w3.heap.size := D1.lt
  go_upto_region 5 with fail
  go_cut [6, 7] (fun s6 s7 wx => ∃ g6 g7 : Nat, s6 = .pointer (some ⟨g6, 0, none⟩) ∧ s7 = .pointer (some ⟨g7, 0, none⟩) ∧ g6 ≠ g7 ∧ w3.heap.size ≤ g6 ∧ w3.heap.size ≤ g7 ∧ Cs wx g6 #[.int .i64 x2, .int .i64 x3] ∧ Cs wx g7 #[.int .i64 (x0 - x2), .int .i64 (x1 - x3)] ∧ Cs wx (w.heap.size + 1) #[.int .i64 0, .int .i64 0, .int .i64 0, .int .i64 0] ∧ Below w.heap.size w wx)
  case first =>
    obtain ⟨W, hW⟩ : ∃ W, (w3.alloc (.cells #[.int .i64 x0, .int .i64 x1, .int .i64 x2, .int .i64 x3] 95)) = W := ⟨_, rfl⟩
    have A0 : Cs W w3.heap.size #[.int .i64 x0, .int .i64 x1, .int .i64 x2, .int .i64 x3] := by rw [← hW]; exact (by repeat (first | with_reducible assumption | (with_reducible refine Cs.new _ _ _ _ ?_; first | rfl | (simp; done)) | with_reducible refine Cs.alloc ?_ _ | with_reducible refine Cs.drewN ?_ _ | with_reducible refine Cs.drew ?_ | with_reducible refine Cs.set4 ?_ _ _ _ _ | (with_reducible refine Cs.other4 ?_ ?_ _ _ _ _; rotate_left; focus (first | assumption | omega | (simp; done) | (simp; omega))) | with_reducible refine Cs.set2 ?_ _ _ | (with_reducible refine Cs.other2 ?_ ?_ _ _; rotate_left; focus (first | assumption | omega | (simp; done) | (simp; omega))) | (with_reducible refine Cs.other ?_ ?_ _; rotate_left; focus (first | assumption | omega | (simp; done) | (simp; omega))) | with_reducible refine Cs.keep ?_ (by assumption) | assumption))
    have A1 : Cs W (w.heap.size + 1) #[.int .i64 0, .int .i64 0, .int .i64 0, .int .i64 0] := by rw [← hW]; exact (by repeat (first | with_reducible assumption | (with_reducible refine Cs.new _ _ _ _ ?_; first | rfl | (simp; done)) | with_reducible refine Cs.alloc ?_ _ | with_reducible refine Cs.drewN ?_ _ | with_reducible refine Cs.drew ?_ | with_reducible refine Cs.set4 ?_ _ _ _ _ | (with_reducible refine Cs.other4 ?_ ?_ _ _ _ _; rotate_left; focus (first | assumption | omega | (simp; done) | (simp; omega))) | with_reducible refine Cs.set2 ?_ _ _ | (with_reducible refine Cs.other2 ?_ ?_ _ _; rotate_left; focus (first | assumption | omega | (simp; done) | (simp; omega))) | (with_reducible refine Cs.other ?_ ?_ _; rotate_left; focus (first | assumption | omega | (simp; done) | (simp; omega))) | with_reducible refine Cs.keep ?_ (by assumption) | assumption))
    have hbW : Below w.heap.size w W := by rw [← hW]; exact (by repeat (first | with_reducible exact Below.refl _ _ | with_reducible assumption | with_reducible refine balloc ?_ _ | with_reducible refine bdrewN ?_ _ | with_reducible refine Below.drew ?_ | (with_reducible refine bset ?_ ?_ _; rotate_left; focus (first | assumption | omega | (simp; done) | (simp; omega))) | with_reducible refine bstep ?_ (by assumption) | assumption))
    rw [hW]
    clear hW
    have cA0 := A0.c
    have fA0 := A0.f
    have lA0 := A0.lt
    have cA1 := A1.c
    have fA1 := A1.f
    have lA1 := A1.lt
    go_region_held3 (fun w' => w'.cell? ⟨w3.heap.size, 0, none⟩ = some (.int .i64 x0) ∧ w'.cell? ⟨w3.heap.size, 1, none⟩ = some (.int .i64 x1) ∧ w'.cell? ⟨w3.heap.size, 2, none⟩ = some (.int .i64 x2) ∧ w'.cell? ⟨w3.heap.size, 3, none⟩ = some (.int .i64 x3))
      (go_keep) (fail)
    all_goals (go_wp2_with fail; go_meet; exact ⟨_, _, rfl, rfl, by omega, by omega, by omega, (by repeat (first | with_reducible assumption | (with_reducible refine Cs.new _ _ _ _ ?_; first | rfl | (simp; done)) | with_reducible refine Cs.alloc ?_ _ | with_reducible refine Cs.drewN ?_ _ | with_reducible refine Cs.drew ?_ | with_reducible refine Cs.set4 ?_ _ _ _ _ | (with_reducible refine Cs.other4 ?_ ?_ _ _ _ _; rotate_left; focus (first | assumption | omega | (simp; done) | (simp; omega))) | with_reducible refine Cs.set2 ?_ _ _ | (with_reducible refine Cs.other2 ?_ ?_ _ _; rotate_left; focus (first | assumption | omega | (simp; done) | (simp; omega))) | (with_reducible refine Cs.other ?_ ?_ _; rotate_left; focus (first | assumption | omega | (simp; done) | (simp; omega))) | with_reducible refine Cs.keep ?_ (by assumption) | assumption)), (by repeat (first | with_reducible assumption | (with_reducible refine Cs.new _ _ _ _ ?_; first | rfl | (simp; done)) | with_reducible refine Cs.alloc ?_ _ | with_reducible refine Cs.drewN ?_ _ | with_reducible refine Cs.drew ?_ | with_reducible refine Cs.set4 ?_ _ _ _ _ | (with_reducible refine Cs.other4 ?_ ?_ _ _ _ _; rotate_left; focus (first | assumption | omega | (simp; done) | (simp; omega))) | with_reducible refine Cs.set2 ?_ _ _ | (with_reducible refine Cs.other2 ?_ ?_ _ _; rotate_left; focus (first | assumption | omega | (simp; done) | (simp; omega))) | (with_reducible refine Cs.other ?_ ?_ _; rotate_left; focus (first | assumption | omega | (simp; done) | (simp; omega))) | with_reducible refine Cs.keep ?_ (by assumption) | assumption)), (by repeat (first | with_reducible assumption | (with_reducible refine Cs.new _ _ _ _ ?_; first | rfl | (simp; done)) | with_reducible refine Cs.alloc ?_ _ | with_reducible refine Cs.drewN ?_ _ | with_reducible refine Cs.drew ?_ | with_reducible refine Cs.set4 ?_ _ _ _ _ | (with_reducible refine Cs.other4 ?_ ?_ _ _ _ _; rotate_left; focus (first | assumption | omega | (simp; done) | (simp; omega))) | with_reducible refine Cs.set2 ?_ _ _ | (with_reducible refine Cs.other2 ?_ ?_ _ _; rotate_left; focus (first | assumption | omega | (simp; done) | (simp; omega))) | (with_reducible refine Cs.other ?_ ?_ _; rotate_left; focus (first | assumption | omega | (simp; done) | (simp; omega))) | with_reducible refine Cs.keep ?_ (by assumption) | assumption)), (by repeat (first | with_reducible exact Below.refl _ _ | with_reducible assumption | with_reducible refine balloc ?_ _ | with_reducible refine bdrewN ?_ _ | with_reducible refine Below.drew ?_ | (with_reducible refine bset ?_ ?_ _; rotate_left; focus (first | assumption | omega | (simp; done) | (simp; omega))) | with_reducible refine bstep ?_ (by assumption) | assumption))⟩)
  case rest =>
    obtain ⟨g6, g7, rfl, rfl, hne67, h6, h7, Bn6, Bn7, Bz, hbx⟩ := hcut
    clear f1 f2
    have cBn6 := Bn6.c
    have fBn6 := Bn6.f
    have lBn6 := Bn6.lt
    have cBn7 := Bn7.c
    have fBn7 := Bn7.f
    have lBn7 := Bn7.lt
    have cBz := Bz.c
    have fBz := Bz.f
    have lBz := Bz.lt
    go_wp2_with fail
    refine (k4 _).mono ?_
    rintro e w4 ⟨rfl, hb4⟩
    clear cBn6 fBn6 lBn6 cBn7 fBn7 lBn7 cBz fBz lBz
    have E6 : Cs w4 g6 #[.int .i64 x2, .int .i64 x3] := Cs.keep (by repeat (first | with_reducible assumption | (with_reducible refine Cs.new _ _ _ _ ?_; first | rfl | (simp; done)) | with_reducible refine Cs.alloc ?_ _ | with_reducible refine Cs.drewN ?_ _ | with_reducible refine Cs.drew ?_ | with_reducible refine Cs.set4 ?_ _ _ _ _ | (with_reducible refine Cs.other4 ?_ ?_ _ _ _ _; rotate_left; focus (first | assumption | omega | (simp; done) | (simp; omega))) | with_reducible refine Cs.set2 ?_ _ _ | (with_reducible refine Cs.other2 ?_ ?_ _ _; rotate_left; focus (first | assumption | omega | (simp; done) | (simp; omega))) | (with_reducible refine Cs.other ?_ ?_ _; rotate_left; focus (first | assumption | omega | (simp; done) | (simp; omega))) | with_reducible refine Cs.keep ?_ (by assumption) | assumption)) hb4
    have E7 : Cs w4 g7 #[.int .i64 (x0 - x2), .int .i64 (x1 - x3)] := Cs.keep (by repeat (first | with_reducible assumption | (with_reducible refine Cs.new _ _ _ _ ?_; first | rfl | (simp; done)) | with_reducible refine Cs.alloc ?_ _ | with_reducible refine Cs.drewN ?_ _ | with_reducible refine Cs.drew ?_ | with_reducible refine Cs.set4 ?_ _ _ _ _ | (with_reducible refine Cs.other4 ?_ ?_ _ _ _ _; rotate_left; focus (first | assumption | omega | (simp; done) | (simp; omega))) | with_reducible refine Cs.set2 ?_ _ _ | (with_reducible refine Cs.other2 ?_ ?_ _ _; rotate_left; focus (first | assumption | omega | (simp; done) | (simp; omega))) | (with_reducible refine Cs.other ?_ ?_ _; rotate_left; focus (first | assumption | omega | (simp; done) | (simp; omega))) | with_reducible refine Cs.keep ?_ (by assumption) | assumption)) hb4
    have Ez : Cs w4 (w.heap.size + 1) #[.int .i64 0, .int .i64 0, .int .i64 0, .int .i64 0] := Cs.keep (by repeat (first | with_reducible assumption | (with_reducible refine Cs.new _ _ _ _ ?_; first | rfl | (simp; done)) | with_reducible refine Cs.alloc ?_ _ | with_reducible refine Cs.drewN ?_ _ | with_reducible refine Cs.drew ?_ | with_reducible refine Cs.set4 ?_ _ _ _ _ | (with_reducible refine Cs.other4 ?_ ?_ _ _ _ _; rotate_left; focus (first | assumption | omega | (simp; done) | (simp; omega))) | with_reducible refine Cs.set2 ?_ _ _ | (with_reducible refine Cs.other2 ?_ ?_ _ _; rotate_left; focus (first | assumption | omega | (simp; done) | (simp; omega))) | (with_reducible refine Cs.other ?_ ?_ _; rotate_left; focus (first | assumption | omega | (simp; done) | (simp; omega))) | with_reducible refine Cs.keep ?_ (by assumption) | assumption)) hb4
    have hbw4 : Below w.heap.size w w4 := (by repeat (first | with_reducible exact Below.refl _ _ | with_reducible assumption | with_reducible refine balloc ?_ _ | with_reducible refine bdrewN ?_ _ | with_reducible refine Below.drew ?_ | (with_reducible refine bset ?_ ?_ _; rotate_left; focus (first | assumption | omega | (simp; done) | (simp; omega))) | with_reducible refine bstep ?_ (by assumption) | assumption))
    clear k4 Bn6 Bn7 Bz
    cases y with
    | false =>
      have cE6 := E6.c
      have fE6 := E6.f
      have lE6 := E6.lt
      have cE7 := E7.c
      have fE7 := E7.f
      have lE7 := E7.lt
      have cEz := Ez.c
      have fEz := Ez.f
      have lEz := Ez.lt
      go_wp2_with fail
      exact bodyPost_ret (v := .tuple #[.agg #[.int .i64 x2, .int .i64 x3, .int .i64 (x0 - x2), .int .i64 (x1 - x3)], .int .i64 0]) (by simp [results, Tryz.results27, go_sem, cEz, fEz, lEz]) rfl ⟨rfl, (by repeat (first | with_reducible exact Below.refl _ _ | with_reducible assumption | with_reducible refine balloc ?_ _ | with_reducible refine bdrewN ?_ _ | with_reducible refine Below.drew ?_ | (with_reducible refine bset ?_ ?_ _; rotate_left; focus (first | assumption | omega | (simp; done) | (simp; omega))) | with_reducible refine bstep ?_ (by assumption) | assumption))⟩
    | true =>
      have F := ((Ez.other2 (g' := g6) (by omega) (.int .i64 (x0 - x2)) (.int .i64 (x1 - x3))).other2 (g' := g7) (by omega) (.int .i64 x2) (.int .i64 x3)).set4 (.int .i64 (x0 - x2)) (.int .i64 (x1 - x3)) (.int .i64 x2) (.int .i64 x3)
      have hF := bset4 (bset2 (bset2 hbw4 (g := g6) (by omega) (.int .i64 (x0 - x2)) (.int .i64 (x1 - x3))) (g := g7) (by omega) (.int .i64 x2) (.int .i64 x3)) (g := w.heap.size + 1) (by omega) (.int .i64 (x0 - x2)) (.int .i64 (x1 - x3)) (.int .i64 x2) (.int .i64 x3)
      have HF := Lib.hid F
      have HhF := Lib.hid hF
      clear F hF
      have cE6 := E6.c
      have fE6 := E6.f
      have lE6 := E6.lt
      have cE7 := E7.c
      have fE7 := E7.f
      have lE7 := E7.lt
      have cEz := Ez.c
      have fEz := Ez.f
      have lEz := Ez.lt
      go_wp2_with fail
      clear cE6 fE6 lE6 cE7 fE7 lE7 cEz fEz lEz
      have F := HF.out
      have hF := HhF.out
      clear HF HhF E6 E7 Ez
      generalize ((((((((w4.setCell ⟨g6, 0, none⟩ (.int .i64 (x0 - x2))).setCell ⟨g6, 1, none⟩ (.int .i64 (x1 - x3))).setCell ⟨g7, 0, none⟩ (.int .i64 x2)).setCell ⟨g7, 1, none⟩ (.int .i64 x3)).setCell ⟨w.heap.size + 1, 0, none⟩ (.int .i64 (x0 - x2))).setCell ⟨w.heap.size + 1, 1, none⟩ (.int .i64 (x1 - x3))).setCell ⟨w.heap.size + 1, 2, none⟩ (.int .i64 x2)).setCell ⟨w.heap.size + 1, 3, none⟩ (.int .i64 x3)) = W5 at *
      have cF := F.c
      have fF := F.f
      have lF := F.lt
      exact bodyPost_ret (v := .tuple #[.agg #[.int .i64 (x0 - x2), .int .i64 (x1 - x3), .int .i64 x2, .int .i64 x3], .int .i64 0]) (by simp [results, Tryz.results27, go_sem, cF, fF, lF]) rfl ⟨rfl, hF⟩

end Go.Proofs.YtminplfgadhnnaaGreatDoor
end

/- The walk of slices.Reverse at spans. -/
section
namespace Go.Proofs.YtminplfgadhnnaaGreatDoor
open Go.RowKit Go.Shelf
set_option linter.unusedSimpArgs false
set_option linter.unusedVariables false
open Um (S4)

/-- block b is n spans, and can be written -/
structure Four (W : World) (b n : Nat) (f : Nat → S4) : Prop where
  lt : b < W.heap.size
  c : ∀ i, i < n → W.cell? ⟨b, i * 4, none⟩ = some (.int .i64 (f i).1) ∧ W.cell? ⟨b, i * 4 + 1, none⟩ = some (.int .i64 (f i).2.1) ∧ W.cell? ⟨b, i * 4 + 2, none⟩ = some (.int .i64 (f i).2.2.1) ∧ W.cell? ⟨b, i * 4 + 3, none⟩ = some (.int .i64 (f i).2.2.2)
  free : ∀ j, W.frozen? ⟨b, j, none⟩ = false

theorem Four.drew {W : World} {b n : Nat} {f : Nat → S4} (h : Four W b n f) : Four W.drew b n f := ⟨h.lt, h.c, h.free⟩
theorem Four.drewN {W : World} {b n : Nat} {f : Nat → S4} (h : Four W b n f) (k : Nat) : Four (W.drewN k) b n f := ⟨h.lt, h.c, h.free⟩

theorem four_get {W : World} {b i : Nat} {u0 u1 u2 u3 : Value} (x y z u : Value) (h0 : W.cell? ⟨b, i, none⟩ = some u0) (h1 : W.cell? ⟨b, i + 1, none⟩ = some u1) (h2 : W.cell? ⟨b, i + 2, none⟩ = some u2) (h3 : W.cell? ⟨b, i + 3, none⟩ = some u3) (j : Nat) :
    ((((W.setCell ⟨b, i, none⟩ x).setCell ⟨b, i + 1, none⟩ y).setCell ⟨b, i + 2, none⟩ z).setCell ⟨b, i + 3, none⟩ u).cell? ⟨b, j, none⟩ = if j = i + 3 then some u else if j = i + 2 then some z else if j = i + 1 then some y else if j = i then some x else W.cell? ⟨b, j, none⟩ := by
  have ne : ∀ {p q : Nat}, p ≠ q → (⟨b, p, none⟩ : Addr) ≠ ⟨b, q, none⟩ := fun hpq e => hpq (by injection e)
  have s1 : (W.setCell ⟨b, i, none⟩ x).cell? ⟨b, i + 1, none⟩ = some u1 := by rw [World.cell?_setCell_other _ _ _ _ (ne (by omega))]; exact h1
  have s2 : ((W.setCell ⟨b, i, none⟩ x).setCell ⟨b, i + 1, none⟩ y).cell? ⟨b, i + 2, none⟩ = some u2 := by rw [World.cell?_setCell_other _ _ _ _ (ne (by omega)), World.cell?_setCell_other _ _ _ _ (ne (by omega))]; exact h2
  have s3 : (((W.setCell ⟨b, i, none⟩ x).setCell ⟨b, i + 1, none⟩ y).setCell ⟨b, i + 2, none⟩ z).cell? ⟨b, i + 3, none⟩ = some u3 := by
    rw [World.cell?_setCell_other _ _ _ _ (ne (by omega)), World.cell?_setCell_other _ _ _ _ (ne (by omega)), World.cell?_setCell_other _ _ _ _ (ne (by omega))]; exact h3
  split
  · rename_i e; subst e; exact World.cell?_setCell_same' _ _ _ (by rw [s3]; simp)
  · rename_i e3
    rw [World.cell?_setCell_other _ _ _ _ (ne (fun e => e3 e.symm))]
    split
    · rename_i e; subst e; exact World.cell?_setCell_same' _ _ _ (by rw [s2]; simp)
    · rename_i e2
      rw [World.cell?_setCell_other _ _ _ _ (ne (fun e => e2 e.symm))]
      split
      · rename_i e; subst e; exact World.cell?_setCell_same' _ _ _ (by rw [s1]; simp)
      · rename_i e1
        rw [World.cell?_setCell_other _ _ _ _ (ne (fun e => e1 e.symm))]
        split
        · rename_i e; subst e; exact World.cell?_setCell_same' _ _ _ (by rw [h0]; simp)
        · rename_i e0
          rw [World.cell?_setCell_other _ _ _ _ (ne (fun e => e0 e.symm))]

theorem Four.set {W : World} {b n : Nat} {f : Nat → S4} (h : Four W b n f) {i : Nat} (hi : i < n) (v : S4) :
    Four ((((W.setCell ⟨b, i * 4, none⟩ (.int .i64 v.1)).setCell ⟨b, i * 4 + 1, none⟩ (.int .i64 v.2.1)).setCell ⟨b, i * 4 + 2, none⟩ (.int .i64 v.2.2.1)).setCell ⟨b, i * 4 + 3, none⟩ (.int .i64 v.2.2.2)) b n (fun j => if j = i then v else f j) := by
  obtain ⟨h0, h1, h2, h3⟩ := h.c i hi
  have get := four_get (.int .i64 v.1) (.int .i64 v.2.1) (.int .i64 v.2.2.1) (.int .i64 v.2.2.2) h0 h1 h2 h3
  refine ⟨by simpa [World.setCell] using h.lt, fun j hj => ?_, fun j => by simp only [World.frozen?_setCell]; exact h.free j⟩
  rw [get, get, get, get]
  by_cases e : j = i
  · subst e
    simp
  · repeat rw [if_neg (by omega)]
    exact h.c j hj

end Go.Proofs.YtminplfgadhnnaaGreatDoor
end

/- The law of a copy of spans into a block of the call's own; the walk of package unit's Back. -/
section
namespace Go.Proofs.YtminplfgadhnnaaGreatDoor
open Go.RowKit Go.Shelf
set_option linter.unusedSimpArgs false
set_option linter.unusedVariables false
open Um (S4 spanB turn4)

end Go.Proofs.YtminplfgadhnnaaGreatDoor
end

/- Contracts of layer 1 for every input, and what the simplest fraction is. -/
section
namespace Go.Proofs.YtminplfgadhnnaaGreatDoor
open Go.RowKit Go.Shelf
set_option linter.unusedSimpArgs false
set_option linter.unusedVariables false
open Um (frac S4 spanB spanE Simp turn4)

/-- what the simplest fraction of a span is -/
structure Best1 (s : S4) (n m : Int) : Prop where
  fr : frac n m = true
  lo : s.1 * m ≤ n * s.2.1
  hi : n * s.2.2.2 ≤ s.2.2.1 * m
  simp : Simp s.1 s.2.1 s.2.2.1 s.2.2.2 n m
  n1 : 1 ≤ n
  n2 : n ≤ 1000000000
  m1 : 1 ≤ m
  m2 : m ≤ 1000000000

theorem best1 {s : S4} (h : spanB s = true) : Best1 s (Um.ev (Um.best s)).1 (Um.ev (Um.best s)).2 := by
  have hb := Um.best_ok s h
  have h1 := hb.simp.n0
  have h2 := hb.simp.m0
  have h3 := hb.n
  have h4 := hb.m
  refine ⟨?_, hb.simp.lo, hb.simp.hi, hb.simp, by omega, h3, by omega, h4⟩
  have hg := Um.ev_gcd (Um.best s)
  unfold frac
  exact decide_eq_true ⟨by omega, h3, by omega, h4, hg⟩

theorem inB_iff (n d : Int) (s : S4) : inB n d s = true ↔ s.1 * d ≤ n * s.2.1 ∧ n * s.2.2.2 ≤ s.2.2.1 * d := by
  unfold inB
  rw [Bool.and_eq_true, decide_eq_true_eq, decide_eq_true_eq]

end Go.Proofs.YtminplfgadhnnaaGreatDoor
end
