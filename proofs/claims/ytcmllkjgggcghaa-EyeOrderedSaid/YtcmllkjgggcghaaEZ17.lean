/- EF7 -/
import Derived.Test.YtcmllkjgggcghaaEZ14
import Derived.Test.YtcmllkjgggcghaaEZ01
import Derived.Deep.RegionHeld3
import Derived.Sort.AtCall
/- The walk of the examples of the law package of layer 10: they hold. -/
section
namespace Go.Proofs.Ytcmllkjgggcghaa
open Go.RowKit Go.Shelf
set_option linter.unusedSimpArgs false
set_option linter.unusedVariables false

section
variable (g1 g2 g3 g4 : Nat)
theorem exW (A : Option Addr) (c : Nat) (w : World) (hz : Plates w A 2 (exT g1 g2 g3 g4)) :
    Calls Try.prog 34 #[.slice A 2 c] w fun e w' => e = .returned (.tuple #[.int .i64 9, .int .i64 0]) ∧ Below w.heap.size w w' := by
  have := whole_any A 2 c _ w hz (by omega)
  rw [ex_test, if_pos rfl, ex_whole] at this
  exact this
theorem exO (A B : Option Addr) (c C : Nat) (w : World) (hz : Plates w A 2 (exT g1 g2 g3 g4)) (hd : Ints w B 2 [1, 2]) :
    Calls Try.prog 36 #[.slice A 2 c, .slice B 2 C] w fun e w' => e = .returned (.tuple #[.agg #[.int .i64 1, .int .i64 2], .int .i64 0]) ∧ Below w.heap.size w w' := by
  have := eodds_any A B 2 c 2 C _ _ w hz (by omega) hd
  rw [ex_odds] at this
  exact this
theorem exR (A : Option Addr) (c : Nat) (w : World) (hz : Plates w A 2 (exT g1 g2 g3 g4)) :
    Calls Try.prog 15 #[.slice A 2 c, .agg #[.int .i64 1, .int .i64 1]] w (RetLE ([5, 7, 8], 0) w) := by
  have := regionE_any A 2 c _ 1 1 w hz (by omega)
  rw [ex_region] at this
  exact this
theorem exB2 (A : Option Addr) (c : Nat) (w : World) (hz : Plates w A 2 (exT g1 g2 g3 g4)) :
    Calls Try.prog 20 #[.slice A 2 c, .int .i64 2] w (RetLRE [8] (2, 1) 0 w) := by
  refine (best_any A 2 c _ 2 w hz (by omega) (by omega)).mono fun e w' h => ?_
  unfold RetBest at h
  rw [ex_test, ex_many, if_neg (by simp), if_neg (by omega)] at h
  obtain ⟨t, hb, hr⟩ := h
  have h2 := best2B_spec (ex_b2 g1 g2 g3 g4)
  rw [ex_k5] at h2
  obtain rfl := isBest_one hb h2
  rw [ex_r21] at hr
  exact hr
theorem exB9 (A : Option Addr) (c : Nat) (w : World) (hz : Plates w A 2 (exT g1 g2 g3 g4)) :
    Calls Try.prog 20 #[.slice A 2 c, .int .i64 9] w (RetLRE [4, 5, 7, 8] (0, 1) 0 w) := by
  refine (best_any A 2 c _ 9 w hz (by omega) (by omega)).mono fun e w' h => ?_
  unfold RetBest at h
  rw [ex_test, ex_many, if_neg (by simp), if_neg (by omega)] at h
  obtain ⟨t, hb, hr⟩ := h
  obtain rfl := isBest_one hb (.inl ⟨rfl, of_decide_eq_true (ex_b9 g1 g2 g3 g4)⟩)
  rw [ex_r01] at hr
  exact hr
theorem exC1 (A B : Option Addr) (c C : Nat) (w : World) (hz : Plates w A 2 (exT g1 g2 g3 g4)) (hd : Ints w B 2 [5, 8]) :
    Calls Try.prog 18 #[.slice A 2 c, .slice B 2 C, .agg #[.int .i64 2, .int .i64 1]] w (RetI 0 w) :=
  checkBest_any A B 2 c 2 C _ _ 2 1 w hz (by omega) hd (by omega) 0 (ex_c1 ..).symm
theorem exC2 (A B : Option Addr) (c C : Nat) (w : World) (hz : Plates w A 2 (exT g1 g2 g3 g4)) (hd : Ints w B 2 [5, 7]) :
    Calls Try.prog 18 #[.slice A 2 c, .slice B 2 C, .agg #[.int .i64 2, .int .i64 1]] w (RetI 14 w) :=
  checkBest_any A B 2 c 2 C _ _ 2 1 w hz (by omega) hd (by omega) 14 (ex_c2 ..).symm
end
theorem exT1 (w : World) : Calls Try.prog 22 #[.agg #[.int .i64 3, .int .i64 2], .agg #[.int .i64 1, .int .i64 3]] w fun e w' => e = .returned (.tuple #[.agg #[.int .i64 7, .int .i64 27], .int .i64 0]) ∧ Below w.heap.size w w' := by
  have := tail_any 3 2 1 3 w
  rw [ex_tail] at this
  exact this
theorem exP1 (w : World) : Calls Try.prog 24 #[.agg #[.int .i64 1, .int .i64 2], .agg #[.int .i64 9, .int .i64 10], .agg #[.int .i64 1, .int .i64 8], .agg #[.int .i64 3, .int .i64 10]] w fun e w' => e = .returned (.tuple #[.agg #[.int .i64 3, .int .i64 3], .int .i64 0]) ∧ Below w.heap.size w w' := by
  have := plan_any 1 2 9 10 1 8 3 10 w
  rw [ex_p1] at this
  exact this
theorem exP2 (w : World) : Calls Try.prog 24 #[.agg #[.int .i64 1, .int .i64 2], .agg #[.int .i64 1, .int .i64 2], .agg #[.int .i64 1, .int .i64 8], .agg #[.int .i64 3, .int .i64 10]] w fun e w' => e = .returned (.tuple #[.agg #[.int .i64 0, .int .i64 0], .int .i64 22]) ∧ Below w.heap.size w w' := by
  have := plan_any 1 2 1 2 1 8 3 10 w
  rw [ex_p2] at this
  exact this

theorem Ints.new4 (w : World) (H : Nat) (x y z u : Int) (t : TypeId) (hH : w.heap.size = H) : Ints (w.alloc (.cells #[.int .i64 x, .int .i64 y, .int .i64 z, .int .i64 u] t)) (some ⟨H, 0, none⟩) 4 [x, y, z, u] := Ints.new w H [x, y, z, u] t hH

def SW (a b c d e : Nat) (w' : World) : Prop := w'.cell? ⟨a, 0, none⟩ = some (.int .i64 1) ∧ w'.cell? ⟨a, 1, none⟩ = some (.int .i64 2) ∧ w'.cell? ⟨b, 0, none⟩ = some (.int .i64 2) ∧ w'.cell? ⟨b, 1, none⟩ = some (.int .i64 1) ∧ w'.cell? ⟨c, 0, none⟩ = some (.int .i64 0) ∧ w'.cell? ⟨c, 1, none⟩ = some (.int .i64 1) ∧ w'.cell? ⟨d, 0, none⟩ = some (.int .i64 7) ∧ w'.cell? ⟨d, 1, none⟩ = some (.int .i64 27) ∧ w'.cell? ⟨e, 0, none⟩ = some (.int .i64 3) ∧ w'.cell? ⟨e, 1, none⟩ = some (.int .i64 3)
structure Kp (w : World) (a b c d e g : Nat) (Z : List Pl) (A5 A6 A7 : Option Addr) (W : World) : Prop where
  Ba : Cs W a #[.int .i64 1, .int .i64 2]
  Bb : Cs W b #[.int .i64 2, .int .i64 1]
  Bc : Cs W c #[.int .i64 0, .int .i64 1]
  Bd : Cs W d #[.int .i64 7, .int .i64 27]
  Be : Cs W e #[.int .i64 3, .int .i64 3]
  hP : Plates W (some ⟨g, 0, none⟩) 2 Z
  h5 : Ints W A5 3 [5, 7, 8]
  h6 : Ints W A6 1 [8]
  h7 : Ints W A7 4 [4, 5, 7, 8]
  hbw : Below w.heap.size w W
section
variable {w W V U : World} {a b c d e g : Nat} {Z : List Pl} {A5 A6 A7 : Option Addr}
theorem Kp.below (h : Kp w a b c d e g Z A5 A6 A7 W) (hb : Below W.heap.size W V) : Kp w a b c d e g Z A5 A6 A7 V :=
  ⟨h.Ba.keep hb, h.Bb.keep hb, h.Bc.keep hb, h.Bd.keep hb, h.Be.keep hb, h.hP.below hb, h.h5.below hb, h.h6.below hb, h.h7.below hb, bstep h.hbw hb⟩
theorem Kp.step (h : Kp w a b c d e g Z A5 A6 A7 W) (h1 : Below W.heap.size W V) (h2 : Below V.heap.size V U) : Kp w a b c d e g Z A5 A6 A7 U := (h.below h1).below h2
theorem Kp.alloc (h : Kp w a b c d e g Z A5 A6 A7 W) (x : _) : Kp w a b c d e g Z A5 A6 A7 (W.alloc x) := h.below (balloc (Below.refl _ _) _)
theorem SW.drew (h : SW a b c d e W) : SW a b c d e W.drew := h
theorem Kp.cells (h : Kp w a b c d e g Z A5 A6 A7 W) : SW a b c d e W :=
  ⟨h.Ba.c 0, h.Ba.c 1, h.Bb.c 0, h.Bb.c 1, h.Bc.c 0, h.Bc.c 1, h.Bd.c 0, h.Bd.c 1, h.Be.c 0, h.Be.c 1⟩
end

set_option maxRecDepth 100000 in
set_option maxHeartbeats 40000000 in
theorem works_any (w : World) :
    Calls Try.prog 14 #[] w fun e w' => e = .returned (.bool true) ∧ Below w.heap.size w w' := by
  have ko := fun a b W => of_any a b W
  have kR := exR
  have kB2 := exB2
  have kB9 := exB9
  have kC1 := exC1
  have kC2 := exC2
  have ki := fun A B n c c' xs W hx hy hn => ints_any A B n n c c' xs xs W hx hy hn hn true (by simp)
  unfold RetLE at kR
  unfold RetLRE at kB2 kB9
  unfold RetI at kC1 kC2
  dsimp only at kR kB2 kB9
  go_enter Try.func14, Try.ntmps14
  go_wp2_with fail
  refine (test_any _).mono ?_
  rintro _ w1 ⟨g, g1, g2, g3, g4, c, rfl, hP, hb1⟩
  replace hP : Plates w1 (some ⟨g, 0, none⟩) 2 (exT g1 g2 g3 g4) := hP
  have hbw : Below w.heap.size w w1 := blA
  clear hb1
  generalize hZ : exT g1 g2 g3 g4 = Z at hP
  have kW := fun A c W (h : Plates W A 2 Z) => exW g1 g2 g3 g4 A c W (hZ ▸ h)
  have kO := fun A B c C W (h : Plates W A 2 Z) hd => exO g1 g2 g3 g4 A B c C W (hZ ▸ h) hd
  have kR := fun A c W (h : Plates W A 2 Z) => kR g1 g2 g3 g4 A c W (hZ ▸ h)
  have kB2 := fun A c W (h : Plates W A 2 Z) => kB2 g1 g2 g3 g4 A c W (hZ ▸ h)
  have kB9 := fun A c W (h : Plates W A 2 Z) => kB9 g1 g2 g3 g4 A c W (hZ ▸ h)
  have kC1 := fun A B c C W (h : Plates W A 2 Z) hd => kC1 g1 g2 g3 g4 A B c C W (hZ ▸ h) hd
  have kC2 := fun A B c C W (h : Plates W A 2 Z) hd => kC2 g1 g2 g3 g4 A B c C W (hZ ▸ h) hd
  clear hZ
  go_wp2_with fail
  refine (kW _ _ _ hP).mono ?_
  rintro _ w2 ⟨rfl, hb2⟩
  replace hP := hP.below hb2
  replace hbw : Below w.heap.size w w2 := blA
  clear hb2 kW
  go_wp2_with fail
  refine (kO _ _ _ _ _ (hP.below (balloc (Below.refl _ _) _)) (Ints.new2 _ _ _ _ _ rfl)).mono ?_
  rintro _ w3 ⟨rfl, hb3⟩
  replace hP := (hP.below (balloc (Below.refl _ _) _)).below hb3
  replace hbw : Below w.heap.size w w3 := blA
  clear hb3 kO
  go_wp2_with fail
  refine (ko _ _ _).mono ?_
  rintro e w4 ⟨rfl, hb4⟩
  replace Ba : Cs w4 (w3.heap.size) #[.int .i64 1, .int .i64 2] := Cs.keep csA hb4
  replace hP : Plates w4 (some ⟨g, 0, none⟩) 2 Z := Plates.below hP blA
  replace hbw : Below w.heap.size w w4 := blA
  replace cBa := Ba.c
  replace fBa := Ba.f
  replace lBa := Ba.lt
  clear hb4
  go_wp2_with fail
  refine (kR _ _ _ hP).mono ?_
  rintro _ w5 ⟨A5, n5, c5, rfl, h5, hb5⟩
  obtain rfl : n5 = 3 := h5.1.symm
  clear kR
  replace Ba : Cs w5 (w3.heap.size) #[.int .i64 1, .int .i64 2] := Cs.keep csA hb5
  replace hP : Plates w5 (some ⟨g, 0, none⟩) 2 Z := Plates.below hP blA
  replace hbw : Below w.heap.size w w5 := blA
  replace cBa := Ba.c
  replace fBa := Ba.f
  replace lBa := Ba.lt
  clear hb5
  go_wp2_with fail
  refine (kB2 _ _ _ hP).mono ?_
  rintro _ w6 ⟨A6, n6, c6, rfl, h6, hb6⟩
  obtain rfl : n6 = 1 := h6.1.symm
  clear kB2
  replace Ba : Cs w6 (w3.heap.size) #[.int .i64 1, .int .i64 2] := Cs.keep csA hb6
  replace hP : Plates w6 (some ⟨g, 0, none⟩) 2 Z := Plates.below hP blA
  replace h5 : Ints w6 A5 3 [5, 7, 8] := Ints.below intsA hb6
  replace hbw : Below w.heap.size w w6 := blA
  replace cBa := Ba.c
  replace fBa := Ba.f
  replace lBa := Ba.lt
  clear hb6
  go_wp2_with fail
  refine (kB9 _ _ _ (hP.below (balloc (Below.refl _ _) _))).mono ?_
  rintro _ w7 ⟨A7, n7, c7, rfl, h7, hb7⟩
  obtain rfl : n7 = 4 := h7.1.symm
  clear kB9
  replace Ba : Cs w7 (w3.heap.size) #[.int .i64 1, .int .i64 2] := Cs.keep csA hb7
  replace Bb : Cs w7 (w6.heap.size) #[.int .i64 2, .int .i64 1] := Cs.keep csA hb7
  replace hP : Plates w7 (some ⟨g, 0, none⟩) 2 Z := Plates.below hP blA
  replace h5 : Ints w7 A5 3 [5, 7, 8] := Ints.below intsA hb7
  replace h6 : Ints w7 A6 1 [8] := Ints.below intsA hb7
  replace hbw : Below w.heap.size w w7 := blA
  replace cBa := Ba.c
  replace fBa := Ba.f
  replace lBa := Ba.lt
  replace cBb := Bb.c
  replace fBb := Bb.f
  replace lBb := Bb.lt
  clear hb7
  go_wp2_with fail
  refine (ko _ _ _).mono ?_
  rintro e w8 ⟨rfl, hb8⟩
  replace Ba : Cs w8 (w3.heap.size) #[.int .i64 1, .int .i64 2] := Cs.keep csA hb8
  replace Bb : Cs w8 (w6.heap.size) #[.int .i64 2, .int .i64 1] := Cs.keep csA hb8
  replace Bc : Cs w8 (w7.heap.size) #[.int .i64 0, .int .i64 1] := Cs.keep csA hb8
  replace hP : Plates w8 (some ⟨g, 0, none⟩) 2 Z := Plates.below hP blA
  replace h5 : Ints w8 A5 3 [5, 7, 8] := Ints.below intsA hb8
  replace h6 : Ints w8 A6 1 [8] := Ints.below intsA hb8
  replace h7 : Ints w8 A7 4 [4, 5, 7, 8] := Ints.below intsA hb8
  replace hbw : Below w.heap.size w w8 := blA
  replace cBa := Ba.c
  replace fBa := Ba.f
  replace lBa := Ba.lt
  replace cBb := Bb.c
  replace fBb := Bb.f
  replace lBb := Bb.lt
  replace cBc := Bc.c
  replace fBc := Bc.f
  replace lBc := Bc.lt
  clear hb8
  go_wp2_with fail
  refine (exT1 _).mono ?_
  rintro e w9 ⟨rfl, hb9⟩
  replace Ba : Cs w9 (w3.heap.size) #[.int .i64 1, .int .i64 2] := Cs.keep csA hb9
  replace Bb : Cs w9 (w6.heap.size) #[.int .i64 2, .int .i64 1] := Cs.keep csA hb9
  replace Bc : Cs w9 (w7.heap.size) #[.int .i64 0, .int .i64 1] := Cs.keep csA hb9
  replace hP : Plates w9 (some ⟨g, 0, none⟩) 2 Z := Plates.below hP blA
  replace h5 : Ints w9 A5 3 [5, 7, 8] := Ints.below intsA hb9
  replace h6 : Ints w9 A6 1 [8] := Ints.below intsA hb9
  replace h7 : Ints w9 A7 4 [4, 5, 7, 8] := Ints.below intsA hb9
  replace hbw : Below w.heap.size w w9 := blA
  replace cBa := Ba.c
  replace fBa := Ba.f
  replace lBa := Ba.lt
  replace cBb := Bb.c
  replace fBb := Bb.f
  replace lBb := Bb.lt
  replace cBc := Bc.c
  replace fBc := Bc.f
  replace lBc := Bc.lt
  clear hb9
  go_wp2_with fail
  refine (ko _ _ _).mono ?_
  rintro e w10 ⟨rfl, hb10⟩
  replace Ba : Cs w10 (w3.heap.size) #[.int .i64 1, .int .i64 2] := Cs.keep csA hb10
  replace Bb : Cs w10 (w6.heap.size) #[.int .i64 2, .int .i64 1] := Cs.keep csA hb10
  replace Bc : Cs w10 (w7.heap.size) #[.int .i64 0, .int .i64 1] := Cs.keep csA hb10
  replace Bd : Cs w10 (w9.heap.size) #[.int .i64 7, .int .i64 27] := Cs.keep csA hb10
  replace hP : Plates w10 (some ⟨g, 0, none⟩) 2 Z := Plates.below hP blA
  replace h5 : Ints w10 A5 3 [5, 7, 8] := Ints.below intsA hb10
  replace h6 : Ints w10 A6 1 [8] := Ints.below intsA hb10
  replace h7 : Ints w10 A7 4 [4, 5, 7, 8] := Ints.below intsA hb10
  replace hbw : Below w.heap.size w w10 := blA
  replace cBa := Ba.c
  replace fBa := Ba.f
  replace lBa := Ba.lt
  replace cBb := Bb.c
  replace fBb := Bb.f
  replace lBb := Bb.lt
  replace cBc := Bc.c
  replace fBc := Bc.f
  replace lBc := Bc.lt
  replace cBd := Bd.c
  replace fBd := Bd.f
  replace lBd := Bd.lt
  clear hb10
  go_wp2_with fail
  refine (ko _ _ _).mono ?_
  rintro e w11 ⟨rfl, hb11⟩
  replace Ba : Cs w11 (w3.heap.size) #[.int .i64 1, .int .i64 2] := Cs.keep csA hb11
  replace Bb : Cs w11 (w6.heap.size) #[.int .i64 2, .int .i64 1] := Cs.keep csA hb11
  replace Bc : Cs w11 (w7.heap.size) #[.int .i64 0, .int .i64 1] := Cs.keep csA hb11
  replace Bd : Cs w11 (w9.heap.size) #[.int .i64 7, .int .i64 27] := Cs.keep csA hb11
  replace hP : Plates w11 (some ⟨g, 0, none⟩) 2 Z := Plates.below hP blA
  replace h5 : Ints w11 A5 3 [5, 7, 8] := Ints.below intsA hb11
  replace h6 : Ints w11 A6 1 [8] := Ints.below intsA hb11
  replace h7 : Ints w11 A7 4 [4, 5, 7, 8] := Ints.below intsA hb11
  replace hbw : Below w.heap.size w w11 := blA
  replace cBa := Ba.c
  replace fBa := Ba.f
  replace lBa := Ba.lt
  replace cBb := Bb.c
  replace fBb := Bb.f
  replace lBb := Bb.lt
  replace cBc := Bc.c
  replace fBc := Bc.f
  replace lBc := Bc.lt
  replace cBd := Bd.c
  replace fBd := Bd.f
  replace lBd := Bd.lt
  clear hb11
  go_wp2_with fail
  refine (ko _ _ _).mono ?_
  rintro e w12 ⟨rfl, hb12⟩
  replace Ba : Cs w12 (w3.heap.size) #[.int .i64 1, .int .i64 2] := Cs.keep csA hb12
  replace Bb : Cs w12 (w6.heap.size) #[.int .i64 2, .int .i64 1] := Cs.keep csA hb12
  replace Bc : Cs w12 (w7.heap.size) #[.int .i64 0, .int .i64 1] := Cs.keep csA hb12
  replace Bd : Cs w12 (w9.heap.size) #[.int .i64 7, .int .i64 27] := Cs.keep csA hb12
  replace hP : Plates w12 (some ⟨g, 0, none⟩) 2 Z := Plates.below hP blA
  replace h5 : Ints w12 A5 3 [5, 7, 8] := Ints.below intsA hb12
  replace h6 : Ints w12 A6 1 [8] := Ints.below intsA hb12
  replace h7 : Ints w12 A7 4 [4, 5, 7, 8] := Ints.below intsA hb12
  replace hbw : Below w.heap.size w w12 := blA
  replace cBa := Ba.c
  replace fBa := Ba.f
  replace lBa := Ba.lt
  replace cBb := Bb.c
  replace fBb := Bb.f
  replace lBb := Bb.lt
  replace cBc := Bc.c
  replace fBc := Bc.f
  replace lBc := Bc.lt
  replace cBd := Bd.c
  replace fBd := Bd.f
  replace lBd := Bd.lt
  clear hb12
  go_wp2_with fail
  refine (ko _ _ _).mono ?_
  rintro e w13 ⟨rfl, hb13⟩
  replace Ba : Cs w13 (w3.heap.size) #[.int .i64 1, .int .i64 2] := Cs.keep csA hb13
  replace Bb : Cs w13 (w6.heap.size) #[.int .i64 2, .int .i64 1] := Cs.keep csA hb13
  replace Bc : Cs w13 (w7.heap.size) #[.int .i64 0, .int .i64 1] := Cs.keep csA hb13
  replace Bd : Cs w13 (w9.heap.size) #[.int .i64 7, .int .i64 27] := Cs.keep csA hb13
  replace hP : Plates w13 (some ⟨g, 0, none⟩) 2 Z := Plates.below hP blA
  replace h5 : Ints w13 A5 3 [5, 7, 8] := Ints.below intsA hb13
  replace h6 : Ints w13 A6 1 [8] := Ints.below intsA hb13
  replace h7 : Ints w13 A7 4 [4, 5, 7, 8] := Ints.below intsA hb13
  replace hbw : Below w.heap.size w w13 := blA
  replace cBa := Ba.c
  replace fBa := Ba.f
  replace lBa := Ba.lt
  replace cBb := Bb.c
  replace fBb := Bb.f
  replace lBb := Bb.lt
  replace cBc := Bc.c
  replace fBc := Bc.f
  replace lBc := Bc.lt
  replace cBd := Bd.c
  replace fBd := Bd.f
  replace lBd := Bd.lt
  clear hb13
  go_wp2_with fail
  refine (exP1 _).mono ?_
  rintro e w14 ⟨rfl, hb14⟩
  replace Ba : Cs w14 (w3.heap.size) #[.int .i64 1, .int .i64 2] := Cs.keep csA hb14
  replace Bb : Cs w14 (w6.heap.size) #[.int .i64 2, .int .i64 1] := Cs.keep csA hb14
  replace Bc : Cs w14 (w7.heap.size) #[.int .i64 0, .int .i64 1] := Cs.keep csA hb14
  replace Bd : Cs w14 (w9.heap.size) #[.int .i64 7, .int .i64 27] := Cs.keep csA hb14
  replace hP : Plates w14 (some ⟨g, 0, none⟩) 2 Z := Plates.below hP blA
  replace h5 : Ints w14 A5 3 [5, 7, 8] := Ints.below intsA hb14
  replace h6 : Ints w14 A6 1 [8] := Ints.below intsA hb14
  replace h7 : Ints w14 A7 4 [4, 5, 7, 8] := Ints.below intsA hb14
  replace hbw : Below w.heap.size w w14 := blA
  replace cBa := Ba.c
  replace fBa := Ba.f
  replace lBa := Ba.lt
  replace cBb := Bb.c
  replace fBb := Bb.f
  replace lBb := Bb.lt
  replace cBc := Bc.c
  replace fBc := Bc.f
  replace lBc := Bc.lt
  replace cBd := Bd.c
  replace fBd := Bd.f
  replace lBd := Bd.lt
  clear hb14
  go_wp2_with fail
  refine (ko _ _ _).mono ?_
  rintro e w15 ⟨rfl, hb15⟩
  replace Ba : Cs w15 (w3.heap.size) #[.int .i64 1, .int .i64 2] := Cs.keep csA hb15
  replace Bb : Cs w15 (w6.heap.size) #[.int .i64 2, .int .i64 1] := Cs.keep csA hb15
  replace Bc : Cs w15 (w7.heap.size) #[.int .i64 0, .int .i64 1] := Cs.keep csA hb15
  replace Bd : Cs w15 (w9.heap.size) #[.int .i64 7, .int .i64 27] := Cs.keep csA hb15
  replace Be : Cs w15 (w14.heap.size) #[.int .i64 3, .int .i64 3] := Cs.keep csA hb15
  replace hP : Plates w15 (some ⟨g, 0, none⟩) 2 Z := Plates.below hP blA
  replace h5 : Ints w15 A5 3 [5, 7, 8] := Ints.below intsA hb15
  replace h6 : Ints w15 A6 1 [8] := Ints.below intsA hb15
  replace h7 : Ints w15 A7 4 [4, 5, 7, 8] := Ints.below intsA hb15
  replace hbw : Below w.heap.size w w15 := blA
  replace cBa := Ba.c
  replace fBa := Ba.f
  replace lBa := Ba.lt
  replace cBb := Bb.c
  replace fBb := Bb.f
  replace lBb := Bb.lt
  replace cBc := Bc.c
  replace fBc := Bc.f
  replace lBc := Bc.lt
  replace cBd := Bd.c
  replace fBd := Bd.f
  replace lBd := Bd.lt
  replace cBe := Be.c
  replace fBe := Be.f
  replace lBe := Be.lt
  clear hb15
  go_wp2_with fail
  refine (ko _ _ _).mono ?_
  rintro e w16 ⟨rfl, hb16⟩
  replace Ba : Cs w16 (w3.heap.size) #[.int .i64 1, .int .i64 2] := Cs.keep csA hb16
  replace Bb : Cs w16 (w6.heap.size) #[.int .i64 2, .int .i64 1] := Cs.keep csA hb16
  replace Bc : Cs w16 (w7.heap.size) #[.int .i64 0, .int .i64 1] := Cs.keep csA hb16
  replace Bd : Cs w16 (w9.heap.size) #[.int .i64 7, .int .i64 27] := Cs.keep csA hb16
  replace Be : Cs w16 (w14.heap.size) #[.int .i64 3, .int .i64 3] := Cs.keep csA hb16
  replace hP : Plates w16 (some ⟨g, 0, none⟩) 2 Z := Plates.below hP blA
  replace h5 : Ints w16 A5 3 [5, 7, 8] := Ints.below intsA hb16
  replace h6 : Ints w16 A6 1 [8] := Ints.below intsA hb16
  replace h7 : Ints w16 A7 4 [4, 5, 7, 8] := Ints.below intsA hb16
  replace hbw : Below w.heap.size w w16 := blA
  replace cBa := Ba.c
  replace fBa := Ba.f
  replace lBa := Ba.lt
  replace cBb := Bb.c
  replace fBb := Bb.f
  replace lBb := Bb.lt
  replace cBc := Bc.c
  replace fBc := Bc.f
  replace lBc := Bc.lt
  replace cBd := Bd.c
  replace fBd := Bd.f
  replace lBd := Bd.lt
  replace cBe := Be.c
  replace fBe := Be.f
  replace lBe := Be.lt
  clear hb16
  go_wp2_with fail
  refine (ko _ _ _).mono ?_
  rintro e w17 ⟨rfl, hb17⟩
  replace Ba : Cs w17 (w3.heap.size) #[.int .i64 1, .int .i64 2] := Cs.keep csA hb17
  replace Bb : Cs w17 (w6.heap.size) #[.int .i64 2, .int .i64 1] := Cs.keep csA hb17
  replace Bc : Cs w17 (w7.heap.size) #[.int .i64 0, .int .i64 1] := Cs.keep csA hb17
  replace Bd : Cs w17 (w9.heap.size) #[.int .i64 7, .int .i64 27] := Cs.keep csA hb17
  replace Be : Cs w17 (w14.heap.size) #[.int .i64 3, .int .i64 3] := Cs.keep csA hb17
  replace hP : Plates w17 (some ⟨g, 0, none⟩) 2 Z := Plates.below hP blA
  replace h5 : Ints w17 A5 3 [5, 7, 8] := Ints.below intsA hb17
  replace h6 : Ints w17 A6 1 [8] := Ints.below intsA hb17
  replace h7 : Ints w17 A7 4 [4, 5, 7, 8] := Ints.below intsA hb17
  replace hbw : Below w.heap.size w w17 := blA
  replace cBa := Ba.c
  replace fBa := Ba.f
  replace lBa := Ba.lt
  replace cBb := Bb.c
  replace fBb := Bb.f
  replace lBb := Bb.lt
  replace cBc := Bc.c
  replace fBc := Bc.f
  replace lBc := Bc.lt
  replace cBd := Bd.c
  replace fBd := Bd.f
  replace lBd := Bd.lt
  replace cBe := Be.c
  replace fBe := Be.f
  replace lBe := Be.lt
  clear hb17
  go_wp2_with fail
  refine (ko _ _ _).mono ?_
  rintro e w18 ⟨rfl, hb18⟩
  replace Ba : Cs w18 (w3.heap.size) #[.int .i64 1, .int .i64 2] := Cs.keep csA hb18
  replace Bb : Cs w18 (w6.heap.size) #[.int .i64 2, .int .i64 1] := Cs.keep csA hb18
  replace Bc : Cs w18 (w7.heap.size) #[.int .i64 0, .int .i64 1] := Cs.keep csA hb18
  replace Bd : Cs w18 (w9.heap.size) #[.int .i64 7, .int .i64 27] := Cs.keep csA hb18
  replace Be : Cs w18 (w14.heap.size) #[.int .i64 3, .int .i64 3] := Cs.keep csA hb18
  replace hP : Plates w18 (some ⟨g, 0, none⟩) 2 Z := Plates.below hP blA
  replace h5 : Ints w18 A5 3 [5, 7, 8] := Ints.below intsA hb18
  replace h6 : Ints w18 A6 1 [8] := Ints.below intsA hb18
  replace h7 : Ints w18 A7 4 [4, 5, 7, 8] := Ints.below intsA hb18
  replace hbw : Below w.heap.size w w18 := blA
  replace cBa := Ba.c
  replace fBa := Ba.f
  replace lBa := Ba.lt
  replace cBb := Bb.c
  replace fBb := Bb.f
  replace lBb := Bb.lt
  replace cBc := Bc.c
  replace fBc := Bc.f
  replace lBc := Bc.lt
  replace cBd := Bd.c
  replace fBd := Bd.f
  replace lBd := Bd.lt
  replace cBe := Be.c
  replace fBe := Be.f
  replace lBe := Be.lt
  clear hb18
  go_wp2_with fail
  refine (exP2 _).mono ?_
  rintro e w19 ⟨rfl, hb19⟩
  replace Ba : Cs w19 (w3.heap.size) #[.int .i64 1, .int .i64 2] := Cs.keep csA hb19
  replace Bb : Cs w19 (w6.heap.size) #[.int .i64 2, .int .i64 1] := Cs.keep csA hb19
  replace Bc : Cs w19 (w7.heap.size) #[.int .i64 0, .int .i64 1] := Cs.keep csA hb19
  replace Bd : Cs w19 (w9.heap.size) #[.int .i64 7, .int .i64 27] := Cs.keep csA hb19
  replace Be : Cs w19 (w14.heap.size) #[.int .i64 3, .int .i64 3] := Cs.keep csA hb19
  replace hP : Plates w19 (some ⟨g, 0, none⟩) 2 Z := Plates.below hP blA
  replace h5 : Ints w19 A5 3 [5, 7, 8] := Ints.below intsA hb19
  replace h6 : Ints w19 A6 1 [8] := Ints.below intsA hb19
  replace h7 : Ints w19 A7 4 [4, 5, 7, 8] := Ints.below intsA hb19
  replace hbw : Below w.heap.size w w19 := blA
  replace cBa := Ba.c
  replace fBa := Ba.f
  replace lBa := Ba.lt
  replace cBb := Bb.c
  replace fBb := Bb.f
  replace lBb := Bb.lt
  replace cBc := Bc.c
  replace fBc := Bc.f
  replace lBc := Bc.lt
  replace cBd := Bd.c
  replace fBd := Bd.f
  replace lBd := Bd.lt
  replace cBe := Be.c
  replace fBe := Be.f
  replace lBe := Be.lt
  clear hb19
  go_wp2_with fail
  simp only [List.append]
  have hK : Kp w w3.heap.size w6.heap.size w7.heap.size w9.heap.size w14.heap.size g Z A5 A6 A7 (w19.alloc (.cells #[.int .i64 0, .int .i64 0] 38)) := Kp.alloc ⟨Ba, Bb, Bc, Bd, Be, hP, h5, h6, h7, hbw⟩ _
  clear Ba Bb Bc Bd Be hP h5 h6 h7 hbw cBa fBa lBa cBb fBb lBb cBc fBc lBc cBd fBd lBd cBe fBe lBe
  -- BEGIN
  refine wp_region_seq (S := SW w3.heap.size w6.heap.size w7.heap.size w9.heap.size w14.heap.size) [.t 0 1, .t 1 3, .t 2 7, .t 3 15, .t 4 31, .t 5 63, .t 6 127, .t 7 255, .t 8 511, .t 9 1023, .t 10 2047, .t 11 4095, .t 12 8191, .t 13 16383, .t 14 32767, .t 15 65535, .t 16 131071, .t 17 262143, .t 18 524287, .t 19 1048575, .t 20 2097151, .t 21 4194303, .t 22 8388607, .t 23 16777215, .t 24 33554431, .t 25 67108863, .t 26 134217727, .t 27 268435455, .t 28 536870911, .t 29 1073741823, .t 30 2147483647, .t 31 4294967295, .t 32 8589934591, .t 33 17179869183, .t 34 34359738367, .t 35 68719476735, .t 36 137438953471, .t 37 274877906943, .t 38 549755813887, .t 39 1099511627775, .t 40 2199023255551, .o 41 4398046511103, .o 42 8796093022207, .t 43 17592186044415, .t 44 35184372088831, .t 45 70368744177663, .o 46 140737488355327, .o 47 281474976710655, .t 48 562949953421311, .t 49 1125899906842623, .t 50 2251799813685247, .o 51 4503599627370495, .t 52 9007199254740991, .t 53 18014398509481983, .t 54 36028797018963967, .t 55 72057594037927935, .o 56 144115188075855871, .o 57 288230376151711743, .t 58 576460752303423487, .t 59 1152921504606846975, .t 60 2305843009213693951, .o 61 4611686018427387903, .t 62 9223372036854775807, .t 63 18446744073709551615, .t 64 36893488147419103231, .t 65 73786976294838206463, .o 66 147573952589676412927, .t 67 295147905179352825855, .t 68 590295810358705651711, .t 69 1180591620717411303423, .t 70 2361183241434822606847, .t 71 4722366482869645213695, .t 72 9444732965739290427391, .t 73 18889465931478580854783, .t 74 37778931862957161709567, .t 75 75557863725914323419135, .b 76 77 151115727451828646838271 226673591177742970257407 302231454903657293676543, .o 78 604462909807314587353087, .t 79 1208925819614629174706175, .t 80 2417851639229258349412351, .t 81 4835703278458516698824703, .t 82 9671406556917033397649407, .b 83 84 19342813113834066795298815 29014219670751100192948223 38685626227668133590597631, .o 85 77371252455336267181195263, .t 86 154742504910672534362390527, .t 87 309485009821345068724781055, .t 88 618970019642690137449562111] (by kernel_rfl) (by kernel_rfl) (by as_aux_lemma => kernel_rfl) (by kernel_rfl) (fun c a d v w h => by cases d <;> exact h) (SW.drew hK.cells) (fun hHeld => ?_)
  clear hHeld
  refine seq_take (v := ?_) rfl (by rfl) ?_ ?_
  rotate_left
  · intro w9 hSw; (unfold SW at hSw); (go_simp <;> with_reducible rfl)
  try simp only [Act.put, List.setIfInBounds_toArray, List.set_cons_zero, List.set_cons_succ]
  refine seq_take (v := ?_) rfl (by rfl) ?_ ?_
  rotate_left
  · intro w9 hSw; (unfold SW at hSw); (go_simp <;> with_reducible rfl)
  try simp only [Act.put, List.setIfInBounds_toArray, List.set_cons_zero, List.set_cons_succ]
  refine seq_take (v := ?_) rfl (by rfl) ?_ ?_
  rotate_left
  · intro w9 hSw; (unfold SW at hSw); (go_simp <;> with_reducible rfl)
  try simp only [Act.put, List.setIfInBounds_toArray, List.set_cons_zero, List.set_cons_succ]
  refine seq_take (v := ?_) rfl (by rfl) ?_ ?_
  rotate_left
  · intro w9 hSw; (unfold SW at hSw); (go_simp <;> with_reducible rfl)
  try simp only [Act.put, List.setIfInBounds_toArray, List.set_cons_zero, List.set_cons_succ]
  refine seq_take (v := ?_) rfl (by rfl) ?_ ?_
  rotate_left
  · intro w9 hSw; (unfold SW at hSw); (go_simp <;> with_reducible rfl)
  try simp only [Act.put, List.setIfInBounds_toArray, List.set_cons_zero, List.set_cons_succ]
  refine seq_take (v := ?_) rfl (by rfl) ?_ ?_
  rotate_left
  · intro w9 hSw; (unfold SW at hSw); (go_simp <;> with_reducible rfl)
  try simp only [Act.put, List.setIfInBounds_toArray, List.set_cons_zero, List.set_cons_succ]
  refine seq_take (v := ?_) rfl (by rfl) ?_ ?_
  rotate_left
  · intro w9 hSw; (unfold SW at hSw); (go_simp <;> with_reducible rfl)
  try simp only [Act.put, List.setIfInBounds_toArray, List.set_cons_zero, List.set_cons_succ]
  refine seq_take (v := ?_) rfl (by rfl) ?_ ?_
  rotate_left
  · intro w9 hSw; (unfold SW at hSw); (go_simp <;> with_reducible rfl)
  try simp only [Act.put, List.setIfInBounds_toArray, List.set_cons_zero, List.set_cons_succ]
  refine seq_take (v := ?_) rfl (by rfl) ?_ ?_
  rotate_left
  · intro w9 hSw; (unfold SW at hSw); (go_simp <;> with_reducible rfl)
  try simp only [Act.put, List.setIfInBounds_toArray, List.set_cons_zero, List.set_cons_succ]
  refine seq_take (v := ?_) rfl (by rfl) ?_ ?_
  rotate_left
  · intro w9 hSw; (unfold SW at hSw); (go_simp <;> with_reducible rfl)
  try simp only [Act.put, List.setIfInBounds_toArray, List.set_cons_zero, List.set_cons_succ]
  refine seq_take (v := ?_) rfl (by rfl) ?_ ?_
  rotate_left
  · intro w9 hSw; (unfold SW at hSw); (go_simp <;> with_reducible rfl)
  try simp only [Act.put, List.setIfInBounds_toArray, List.set_cons_zero, List.set_cons_succ]
  refine seq_take (v := ?_) rfl (by rfl) ?_ ?_
  rotate_left
  · intro w9 hSw; (unfold SW at hSw); (go_simp <;> with_reducible rfl)
  try simp only [Act.put, List.setIfInBounds_toArray, List.set_cons_zero, List.set_cons_succ]
  as_aux_lemma =>
   refine seq_take (v := ?_) rfl (by rfl) ?_ ?_
   rotate_left
   · intro w9 hSw; (unfold SW at hSw); (go_simp <;> with_reducible rfl)
   try simp only [Act.put, List.setIfInBounds_toArray, List.set_cons_zero, List.set_cons_succ]
   refine seq_take (v := ?_) rfl (by rfl) ?_ ?_
   rotate_left
   · intro w9 hSw; (unfold SW at hSw); (go_simp <;> with_reducible rfl)
   try simp only [Act.put, List.setIfInBounds_toArray, List.set_cons_zero, List.set_cons_succ]
   refine seq_take (v := ?_) rfl (by rfl) ?_ ?_
   rotate_left
   · intro w9 hSw; (unfold SW at hSw); (go_simp <;> with_reducible rfl)
   try simp only [Act.put, List.setIfInBounds_toArray, List.set_cons_zero, List.set_cons_succ]
   refine seq_take (v := ?_) rfl (by rfl) ?_ ?_
   rotate_left
   · intro w9 hSw; (unfold SW at hSw); (go_simp <;> with_reducible rfl)
   try simp only [Act.put, List.setIfInBounds_toArray, List.set_cons_zero, List.set_cons_succ]
   refine seq_take (v := ?_) rfl (by rfl) ?_ ?_
   rotate_left
   · intro w9 hSw; (unfold SW at hSw); (go_simp <;> with_reducible rfl)
   try simp only [Act.put, List.setIfInBounds_toArray, List.set_cons_zero, List.set_cons_succ]
   refine seq_take (v := ?_) rfl (by rfl) ?_ ?_
   rotate_left
   · intro w9 hSw; (unfold SW at hSw); (go_simp <;> with_reducible rfl)
   try simp only [Act.put, List.setIfInBounds_toArray, List.set_cons_zero, List.set_cons_succ]
   refine seq_take (v := ?_) rfl (by rfl) ?_ ?_
   rotate_left
   · intro w9 hSw; (unfold SW at hSw); (go_simp <;> with_reducible rfl)
   try simp only [Act.put, List.setIfInBounds_toArray, List.set_cons_zero, List.set_cons_succ]
   refine seq_take (v := ?_) rfl (by rfl) ?_ ?_
   rotate_left
   · intro w9 hSw; (unfold SW at hSw); (go_simp <;> with_reducible rfl)
   try simp only [Act.put, List.setIfInBounds_toArray, List.set_cons_zero, List.set_cons_succ]
   refine seq_take (v := ?_) rfl (by rfl) ?_ ?_
   rotate_left
   · intro w9 hSw; (unfold SW at hSw); (go_simp <;> with_reducible rfl)
   try simp only [Act.put, List.setIfInBounds_toArray, List.set_cons_zero, List.set_cons_succ]
   refine seq_take (v := ?_) rfl (by rfl) ?_ ?_
   rotate_left
   · intro w9 hSw; (unfold SW at hSw); (go_simp <;> with_reducible rfl)
   try simp only [Act.put, List.setIfInBounds_toArray, List.set_cons_zero, List.set_cons_succ]
   refine seq_take (v := ?_) rfl (by rfl) ?_ ?_
   rotate_left
   · intro w9 hSw; (unfold SW at hSw); (go_simp <;> with_reducible rfl)
   try simp only [Act.put, List.setIfInBounds_toArray, List.set_cons_zero, List.set_cons_succ]
   refine seq_take (v := ?_) rfl (by rfl) ?_ ?_
   rotate_left
   · intro w9 hSw; (unfold SW at hSw); (go_simp <;> with_reducible rfl)
   try simp only [Act.put, List.setIfInBounds_toArray, List.set_cons_zero, List.set_cons_succ]
   as_aux_lemma =>
    refine seq_take (v := ?_) rfl (by rfl) ?_ ?_
    rotate_left
    · intro w9 hSw; (unfold SW at hSw); (go_simp <;> with_reducible rfl)
    try simp only [Act.put, List.setIfInBounds_toArray, List.set_cons_zero, List.set_cons_succ]
    refine seq_take (v := ?_) rfl (by rfl) ?_ ?_
    rotate_left
    · intro w9 hSw; (unfold SW at hSw); (go_simp <;> with_reducible rfl)
    try simp only [Act.put, List.setIfInBounds_toArray, List.set_cons_zero, List.set_cons_succ]
    refine seq_take (v := ?_) rfl (by rfl) ?_ ?_
    rotate_left
    · intro w9 hSw; (unfold SW at hSw); (go_simp <;> with_reducible rfl)
    try simp only [Act.put, List.setIfInBounds_toArray, List.set_cons_zero, List.set_cons_succ]
    refine seq_take (v := ?_) rfl (by rfl) ?_ ?_
    rotate_left
    · intro w9 hSw; (unfold SW at hSw); (go_simp <;> with_reducible rfl)
    try simp only [Act.put, List.setIfInBounds_toArray, List.set_cons_zero, List.set_cons_succ]
    refine seq_take (v := ?_) rfl (by rfl) ?_ ?_
    rotate_left
    · intro w9 hSw; (unfold SW at hSw); (go_simp <;> with_reducible rfl)
    try simp only [Act.put, List.setIfInBounds_toArray, List.set_cons_zero, List.set_cons_succ]
    refine seq_take (v := ?_) rfl (by rfl) ?_ ?_
    rotate_left
    · intro w9 hSw; (unfold SW at hSw); (go_simp <;> with_reducible rfl)
    try simp only [Act.put, List.setIfInBounds_toArray, List.set_cons_zero, List.set_cons_succ]
    refine seq_take (v := ?_) rfl (by rfl) ?_ ?_
    rotate_left
    · intro w9 hSw; (unfold SW at hSw); (go_simp <;> with_reducible rfl)
    try simp only [Act.put, List.setIfInBounds_toArray, List.set_cons_zero, List.set_cons_succ]
    refine seq_take (v := ?_) rfl (by rfl) ?_ ?_
    rotate_left
    · intro w9 hSw; (unfold SW at hSw); (go_simp <;> with_reducible rfl)
    try simp only [Act.put, List.setIfInBounds_toArray, List.set_cons_zero, List.set_cons_succ]
    refine seq_take (v := ?_) rfl (by rfl) ?_ ?_
    rotate_left
    · intro w9 hSw; (unfold SW at hSw); (go_simp <;> with_reducible rfl)
    try simp only [Act.put, List.setIfInBounds_toArray, List.set_cons_zero, List.set_cons_succ]
    refine seq_take (v := ?_) rfl (by rfl) ?_ ?_
    rotate_left
    · intro w9 hSw; (unfold SW at hSw); (go_simp <;> with_reducible rfl)
    try simp only [Act.put, List.setIfInBounds_toArray, List.set_cons_zero, List.set_cons_succ]
    refine seq_take (v := ?_) rfl (by rfl) ?_ ?_
    rotate_left
    · intro w9 hSw; (unfold SW at hSw); (go_simp <;> with_reducible rfl)
    try simp only [Act.put, List.setIfInBounds_toArray, List.set_cons_zero, List.set_cons_succ]
    refine seq_take (v := ?_) rfl (by rfl) ?_ ?_
    rotate_left
    · intro w9 hSw; (unfold SW at hSw); (go_simp <;> with_reducible rfl)
    try simp only [Act.put, List.setIfInBounds_toArray, List.set_cons_zero, List.set_cons_succ]
    as_aux_lemma =>
     refine seq_take (v := ?_) rfl (by rfl) ?_ ?_
     rotate_left
     · intro w9 hSw; (unfold SW at hSw); (go_simp <;> with_reducible rfl)
     try simp only [Act.put, List.setIfInBounds_toArray, List.set_cons_zero, List.set_cons_succ]
     refine seq_take (v := ?_) rfl (by rfl) ?_ ?_
     rotate_left
     · intro w9 hSw; (unfold SW at hSw); (go_simp <;> with_reducible rfl)
     try simp only [Act.put, List.setIfInBounds_toArray, List.set_cons_zero, List.set_cons_succ]
     refine seq_take (v := ?_) rfl (by rfl) ?_ ?_
     rotate_left
     · intro w9 hSw; (unfold SW at hSw); (go_simp <;> with_reducible rfl)
     try simp only [Act.put, List.setIfInBounds_toArray, List.set_cons_zero, List.set_cons_succ]
     refine seq_take (v := ?_) rfl (by rfl) ?_ ?_
     rotate_left
     · intro w9 hSw; (unfold SW at hSw); (go_simp <;> with_reducible rfl)
     try simp only [Act.put, List.setIfInBounds_toArray, List.set_cons_zero, List.set_cons_succ]
     refine seq_take (v := ?_) rfl (by rfl) ?_ ?_
     rotate_left
     · intro w9 hSw; (unfold SW at hSw); (go_simp <;> with_reducible rfl)
     try simp only [Act.put, List.setIfInBounds_toArray, List.set_cons_zero, List.set_cons_succ]
     refine seq_one rfl (fun K9 hS9 => ?_)
     go_simp
     refine hS9.out _ _ (by first | exact hK.cells | exact (Kp.alloc hK _).cells | exact (Kp.below hK (by as_aux_lemma => exact blA)).cells | go_keep) (fun hHeld => ?_)
     clear hS9 K9 hHeld
     try simp only [Act.put, List.setIfInBounds_toArray, List.set_cons_zero, List.set_cons_succ]
     refine seq_one rfl (fun K9 hS9 => ?_)
     go_simp
     refine (ki _ _ _ _ _ _ _ (Ints.below hK.h5 blA) (Ints.drew (Ints.new3 _ _ _ _ _ _ (by simp))) (by omega)).mono ?_
     rintro e w20 ⟨rfl, hb20⟩
     replace hK := Kp.step hK (by as_aux_lemma => exact blA) hb20
     clear hb20
     refine hS9.out _ _ hK.cells (fun hHeld => ?_)
     clear hS9 K9 hHeld
     try simp only [Act.put, List.setIfInBounds_toArray, List.set_cons_zero, List.set_cons_succ]
     refine seq_take (v := ?_) rfl (by rfl) ?_ ?_
     rotate_left
     · intro w9 hSw; (unfold SW at hSw); (go_simp <;> with_reducible rfl)
     try simp only [Act.put, List.setIfInBounds_toArray, List.set_cons_zero, List.set_cons_succ]
     as_aux_lemma =>
      refine seq_take (v := ?_) rfl (by rfl) ?_ ?_
      rotate_left
      · intro w9 hSw; (unfold SW at hSw); (go_simp <;> with_reducible rfl)
      try simp only [Act.put, List.setIfInBounds_toArray, List.set_cons_zero, List.set_cons_succ]
      refine seq_take (v := ?_) rfl (by rfl) ?_ ?_
      rotate_left
      · intro w9 hSw; (unfold SW at hSw); (go_simp <;> with_reducible rfl)
      try simp only [Act.put, List.setIfInBounds_toArray, List.set_cons_zero, List.set_cons_succ]
      refine seq_one rfl (fun K9 hS9 => ?_)
      go_simp
      refine hS9.out _ _ (by first | exact hK.cells | exact (Kp.alloc hK _).cells | exact (Kp.below hK (by as_aux_lemma => exact blA)).cells | go_keep) (fun hHeld => ?_)
      clear hS9 K9 hHeld
      try simp only [Act.put, List.setIfInBounds_toArray, List.set_cons_zero, List.set_cons_succ]
      refine seq_one rfl (fun K9 hS9 => ?_)
      go_simp
      refine (ki _ _ _ _ _ _ _ (Ints.below hK.h6 blA) (Ints.new1 _ _ _ _ (by simp)) (by omega)).mono ?_
      rintro e w21 ⟨rfl, hb21⟩
      replace hK := Kp.step hK (by as_aux_lemma => exact blA) hb21
      clear hb21
      refine hS9.out _ _ hK.cells (fun hHeld => ?_)
      clear hS9 K9 hHeld
      try simp only [Act.put, List.setIfInBounds_toArray, List.set_cons_zero, List.set_cons_succ]
      refine seq_take (v := ?_) rfl (by rfl) ?_ ?_
      rotate_left
      · intro w9 hSw; (unfold SW at hSw); (go_simp <;> with_reducible rfl)
      try simp only [Act.put, List.setIfInBounds_toArray, List.set_cons_zero, List.set_cons_succ]
      refine seq_take (v := ?_) rfl (by rfl) ?_ ?_
      rotate_left
      · intro w9 hSw; (unfold SW at hSw); (go_simp <;> with_reducible rfl)
      try simp only [Act.put, List.setIfInBounds_toArray, List.set_cons_zero, List.set_cons_succ]
      refine seq_take (v := ?_) rfl (by rfl) ?_ ?_
      rotate_left
      · intro w9 hSw; (unfold SW at hSw); (go_simp <;> with_reducible rfl)
      try simp only [Act.put, List.setIfInBounds_toArray, List.set_cons_zero, List.set_cons_succ]
      refine seq_one rfl (fun K9 hS9 => ?_)
      go_simp
      refine (ko _ _ _).mono ?_
      rintro e w22 ⟨rfl, hb22⟩
      replace hK := Kp.step hK (by as_aux_lemma => exact blA) hb22
      clear hb22
      refine hS9.out _ _ hK.cells (fun hHeld => ?_)
      clear hS9 K9 hHeld
      try simp only [Act.put, List.setIfInBounds_toArray, List.set_cons_zero, List.set_cons_succ]
      as_aux_lemma =>
       refine seq_take (v := ?_) rfl (by rfl) ?_ ?_
       rotate_left
       · intro w9 hSw; (unfold SW at hSw); (go_simp <;> with_reducible rfl)
       try simp only [Act.put, List.setIfInBounds_toArray, List.set_cons_zero, List.set_cons_succ]
       refine seq_take (v := ?_) rfl (by rfl) ?_ ?_
       rotate_left
       · intro w9 hSw; (unfold SW at hSw); (go_simp <;> with_reducible rfl)
       try simp only [Act.put, List.setIfInBounds_toArray, List.set_cons_zero, List.set_cons_succ]
       refine seq_take (v := ?_) rfl (by rfl) ?_ ?_
       rotate_left
       · intro w9 hSw; (unfold SW at hSw); (go_simp <;> with_reducible rfl)
       try simp only [Act.put, List.setIfInBounds_toArray, List.set_cons_zero, List.set_cons_succ]
       refine seq_take (v := ?_) rfl (by rfl) ?_ ?_
       rotate_left
       · intro w9 hSw; (unfold SW at hSw); (go_simp <;> with_reducible rfl)
       try simp only [Act.put, List.setIfInBounds_toArray, List.set_cons_zero, List.set_cons_succ]
       refine seq_one rfl (fun K9 hS9 => ?_)
       go_simp
       refine hS9.out _ _ (by first | exact hK.cells | exact (Kp.alloc hK _).cells | exact (Kp.below hK (by as_aux_lemma => exact blA)).cells | go_keep) (fun hHeld => ?_)
       clear hS9 K9 hHeld
       try simp only [Act.put, List.setIfInBounds_toArray, List.set_cons_zero, List.set_cons_succ]
       refine seq_one rfl (fun K9 hS9 => ?_)
       go_simp
       refine (ki _ _ _ _ _ _ _ (Ints.below hK.h7 blA) (Ints.new4 _ _ _ _ _ _ _ (by simp)) (by omega)).mono ?_
       rintro e w23 ⟨rfl, hb23⟩
       replace hK := Kp.step hK (by as_aux_lemma => exact blA) hb23
       clear hb23
       refine hS9.out _ _ hK.cells (fun hHeld => ?_)
       clear hS9 K9 hHeld
       try simp only [Act.put, List.setIfInBounds_toArray, List.set_cons_zero, List.set_cons_succ]
       refine seq_take (v := ?_) rfl (by rfl) ?_ ?_
       rotate_left
       · intro w9 hSw; (unfold SW at hSw); (go_simp <;> with_reducible rfl)
       try simp only [Act.put, List.setIfInBounds_toArray, List.set_cons_zero, List.set_cons_succ]
       refine seq_take (v := ?_) rfl (by rfl) ?_ ?_
       rotate_left
       · intro w9 hSw; (unfold SW at hSw); (go_simp <;> with_reducible rfl)
       try simp only [Act.put, List.setIfInBounds_toArray, List.set_cons_zero, List.set_cons_succ]
       as_aux_lemma =>
        refine seq_take (v := ?_) rfl (by rfl) ?_ ?_
        rotate_left
        · intro w9 hSw; (unfold SW at hSw); (go_simp <;> with_reducible rfl)
        try simp only [Act.put, List.setIfInBounds_toArray, List.set_cons_zero, List.set_cons_succ]
        refine seq_one rfl (fun K9 hS9 => ?_)
        go_simp
        refine (ko _ _ _).mono ?_
        rintro e w24 ⟨rfl, hb24⟩
        replace hK := Kp.step hK (by as_aux_lemma => exact blA) hb24
        clear hb24
        refine hS9.out _ _ hK.cells (fun hHeld => ?_)
        clear hS9 K9 hHeld
        try simp only [Act.put, List.setIfInBounds_toArray, List.set_cons_zero, List.set_cons_succ]
        refine seq_take (v := ?_) rfl (by rfl) ?_ ?_
        rotate_left
        · intro w9 hSw; (unfold SW at hSw); (go_simp <;> with_reducible rfl)
        try simp only [Act.put, List.setIfInBounds_toArray, List.set_cons_zero, List.set_cons_succ]
        refine seq_take (v := ?_) rfl (by rfl) ?_ ?_
        rotate_left
        · intro w9 hSw; (unfold SW at hSw); (go_simp <;> with_reducible rfl)
        try simp only [Act.put, List.setIfInBounds_toArray, List.set_cons_zero, List.set_cons_succ]
        refine seq_take (v := ?_) rfl (by rfl) ?_ ?_
        rotate_left
        · intro w9 hSw; (unfold SW at hSw); (go_simp <;> with_reducible rfl)
        try simp only [Act.put, List.setIfInBounds_toArray, List.set_cons_zero, List.set_cons_succ]
        refine seq_take (v := ?_) rfl (by rfl) ?_ ?_
        rotate_left
        · intro w9 hSw; (unfold SW at hSw); (go_simp <;> with_reducible rfl)
        try simp only [Act.put, List.setIfInBounds_toArray, List.set_cons_zero, List.set_cons_succ]
        refine seq_one rfl (fun K9 hS9 => ?_)
        go_simp
        refine (ko _ _ _).mono ?_
        rintro e w25 ⟨rfl, hb25⟩
        replace hK := Kp.step hK (by as_aux_lemma => exact blA) hb25
        clear hb25
        refine hS9.out _ _ hK.cells (fun hHeld => ?_)
        clear hS9 K9 hHeld
        try simp only [Act.put, List.setIfInBounds_toArray, List.set_cons_zero, List.set_cons_succ]
        refine seq_take (v := ?_) rfl (by rfl) ?_ ?_
        rotate_left
        · intro w9 hSw; (unfold SW at hSw); (go_simp <;> with_reducible rfl)
        try simp only [Act.put, List.setIfInBounds_toArray, List.set_cons_zero, List.set_cons_succ]
        as_aux_lemma =>
         refine seq_take (v := ?_) rfl (by rfl) ?_ ?_
         rotate_left
         · intro w9 hSw; (unfold SW at hSw); (go_simp <;> with_reducible rfl)
         try simp only [Act.put, List.setIfInBounds_toArray, List.set_cons_zero, List.set_cons_succ]
         refine seq_take (v := ?_) rfl (by rfl) ?_ ?_
         rotate_left
         · intro w9 hSw; (unfold SW at hSw); (go_simp <;> with_reducible rfl)
         try simp only [Act.put, List.setIfInBounds_toArray, List.set_cons_zero, List.set_cons_succ]
         refine seq_take (v := ?_) rfl (by rfl) ?_ ?_
         rotate_left
         · intro w9 hSw; (unfold SW at hSw); (go_simp <;> with_reducible rfl)
         try simp only [Act.put, List.setIfInBounds_toArray, List.set_cons_zero, List.set_cons_succ]
         refine seq_take (v := ?_) rfl (by rfl) ?_ ?_
         rotate_left
         · intro w9 hSw; (unfold SW at hSw); (go_simp <;> with_reducible rfl)
         try simp only [Act.put, List.setIfInBounds_toArray, List.set_cons_zero, List.set_cons_succ]
         refine seq_take (v := ?_) rfl (by rfl) ?_ ?_
         rotate_left
         · intro w9 hSw; (unfold SW at hSw); (go_simp <;> with_reducible rfl)
         try simp only [Act.put, List.setIfInBounds_toArray, List.set_cons_zero, List.set_cons_succ]
         refine seq_take (v := ?_) rfl (by rfl) ?_ ?_
         rotate_left
         · intro w9 hSw; (unfold SW at hSw); (go_simp <;> with_reducible rfl)
         try simp only [Act.put, List.setIfInBounds_toArray, List.set_cons_zero, List.set_cons_succ]
         refine seq_take (v := ?_) rfl (by rfl) ?_ ?_
         rotate_left
         · intro w9 hSw; (unfold SW at hSw); (go_simp <;> with_reducible rfl)
         try simp only [Act.put, List.setIfInBounds_toArray, List.set_cons_zero, List.set_cons_succ]
         refine seq_take (v := ?_) rfl (by rfl) ?_ ?_
         rotate_left
         · intro w9 hSw; (unfold SW at hSw); (go_simp <;> with_reducible rfl)
         try simp only [Act.put, List.setIfInBounds_toArray, List.set_cons_zero, List.set_cons_succ]
         refine seq_two rfl rfl (fun K9 hS9 => ?_) (fun K9 hS9 => ?_)
         · go_simp
           refine hS9.out _ _ (by first | exact hK.cells | exact (Kp.alloc hK _).cells | exact (Kp.below hK (by as_aux_lemma => exact blA)).cells | go_keep) (fun hHeld => ?_)
           clear hS9 K9 hHeld
           try simp only [Act.put, List.setIfInBounds_toArray, List.set_cons_zero, List.set_cons_succ]
           refine seq_one rfl (fun K9 hS9 => ?_)
           go_simp
           refine (ko _ _ _).mono ?_
           rintro e w26 ⟨rfl, hb26⟩
           have hL := Ints.below (Ints.new2 _ _ _ _ _ rfl) hb26
           replace hK := Kp.step hK (by as_aux_lemma => exact blA) hb26
           clear hb26
           refine hS9.out _ _ hK.cells (fun hHeld => ?_)
           clear hS9 K9 hHeld
           try simp only [Act.put, List.setIfInBounds_toArray, List.set_cons_zero, List.set_cons_succ]
           as_aux_lemma =>
            refine seq_one rfl (fun K9 hS9 => ?_)
            go_simp
            refine (kC1 _ _ _ _ _ (hK.hP.below blA) (by first | exact Ints.new2 _ _ _ _ _ (by simp) | exact hL | exact Ints.alloc hL _)).mono ?_
            rintro e w27 ⟨rfl, hb27⟩
            replace hK := Kp.step hK (by as_aux_lemma => exact blA) hb27
            clear hb27
            refine hS9.out _ _ hK.cells (fun hHeld => ?_)
            clear hS9 K9 hHeld
            try simp only [Act.put, List.setIfInBounds_toArray, List.set_cons_zero, List.set_cons_succ]
            refine seq_take (v := ?_) rfl (by rfl) ?_ ?_
            rotate_left
            · intro w9 hSw; (unfold SW at hSw); (go_simp <;> with_reducible rfl)
            try simp only [Act.put, List.setIfInBounds_toArray, List.set_cons_zero, List.set_cons_succ]
            refine seq_take (v := ?_) rfl (by rfl) ?_ ?_
            rotate_left
            · intro w9 hSw; (unfold SW at hSw); (go_simp <;> with_reducible rfl)
            try simp only [Act.put, List.setIfInBounds_toArray, List.set_cons_zero, List.set_cons_succ]
            refine seq_take (v := ?_) rfl (by rfl) ?_ ?_
            rotate_left
            · intro w9 hSw; (unfold SW at hSw); (go_simp <;> with_reducible rfl)
            try simp only [Act.put, List.setIfInBounds_toArray, List.set_cons_zero, List.set_cons_succ]
            refine seq_take (v := ?_) rfl (by rfl) ?_ ?_
            rotate_left
            · intro w9 hSw; (unfold SW at hSw); (go_simp <;> with_reducible rfl)
            try simp only [Act.put, List.setIfInBounds_toArray, List.set_cons_zero, List.set_cons_succ]
            refine seq_two rfl rfl (fun K9 hS9 => ?_) (fun K9 hS9 => ?_)
            · go_simp
              refine hS9.out _ _ (by first | exact hK.cells | exact (Kp.alloc hK _).cells | exact (Kp.below hK (by as_aux_lemma => exact blA)).cells | go_keep) (fun hHeld => ?_)
              clear hS9 K9 hHeld
              try simp only [Act.put, List.setIfInBounds_toArray, List.set_cons_zero, List.set_cons_succ]
              refine seq_one rfl (fun K9 hS9 => ?_)
              go_simp
              refine (ko _ _ _).mono ?_
              rintro e w28 ⟨rfl, hb28⟩
              have hL := Ints.below (Ints.new2 _ _ _ _ _ rfl) hb28
              replace hK := Kp.step hK (by as_aux_lemma => exact blA) hb28
              clear hb28
              refine hS9.out _ _ hK.cells (fun hHeld => ?_)
              clear hS9 K9 hHeld
              try simp only [Act.put, List.setIfInBounds_toArray, List.set_cons_zero, List.set_cons_succ]
              as_aux_lemma =>
               refine seq_one rfl (fun K9 hS9 => ?_)
               go_simp
               refine (kC2 _ _ _ _ _ (hK.hP.below blA) (by first | exact Ints.new2 _ _ _ _ _ (by simp) | exact hL | exact Ints.alloc hL _)).mono ?_
               rintro e w29 ⟨rfl, hb29⟩
               replace hK := Kp.step hK (by as_aux_lemma => exact blA) hb29
               clear hb29
               refine hS9.out _ _ hK.cells (fun hHeld => ?_)
               clear hS9 K9 hHeld
               try simp only [Act.put, List.setIfInBounds_toArray, List.set_cons_zero, List.set_cons_succ]
               refine seq_take (v := ?_) rfl (by rfl) ?_ ?_
               rotate_left
               · intro w9 hSw; (unfold SW at hSw); (go_simp <;> with_reducible rfl)
               try simp only [Act.put, List.setIfInBounds_toArray, List.set_cons_zero, List.set_cons_succ]
               refine seq_take (v := ?_) rfl (by rfl) ?_ ?_
               rotate_left
               · intro w9 hSw; (unfold SW at hSw); (go_simp <;> with_reducible rfl)
               try simp only [Act.put, List.setIfInBounds_toArray, List.set_cons_zero, List.set_cons_succ]
               refine seq_take (v := ?_) rfl (by rfl) ?_ ?_
               rotate_left
               · intro w9 hSw; (unfold SW at hSw); (go_simp <;> with_reducible rfl)
               try simp only [Act.put, List.setIfInBounds_toArray, List.set_cons_zero, List.set_cons_succ]
               refine seq_done ?_
               go_wp2_with fail
               go_ret
               exact ⟨rfl, hK.hbw⟩
            · go_simp
              refine (ko _ _ _).mono ?_
              rintro e w28 ⟨rfl, hb28⟩
              replace hK := Kp.step hK (by as_aux_lemma => exact blA) hb28
              clear hb28
              refine hS9.out _ _ hK.cells (fun hHeld => ?_)
              clear hS9 K9 hHeld
              try simp only [Act.put, List.setIfInBounds_toArray, List.set_cons_zero, List.set_cons_succ]
              refine seq_one rfl (fun K9 hS9 => ?_)
              go_simp
              refine hS9.out _ _ (by first | exact hK.cells | exact (Kp.alloc hK _).cells | exact (Kp.below hK (by as_aux_lemma => exact blA)).cells | go_keep) (fun hHeld => ?_)
              clear hS9 K9 hHeld
              try simp only [Act.put, List.setIfInBounds_toArray, List.set_cons_zero, List.set_cons_succ]
              as_aux_lemma =>
               refine seq_one rfl (fun K9 hS9 => ?_)
               go_simp
               refine (kC2 _ _ _ _ _ (hK.hP.below blA) (by first | exact Ints.new2 _ _ _ _ _ (by simp) | exact hL | exact Ints.alloc hL _)).mono ?_
               rintro e w29 ⟨rfl, hb29⟩
               replace hK := Kp.step hK (by as_aux_lemma => exact blA) hb29
               clear hb29
               refine hS9.out _ _ hK.cells (fun hHeld => ?_)
               clear hS9 K9 hHeld
               try simp only [Act.put, List.setIfInBounds_toArray, List.set_cons_zero, List.set_cons_succ]
               refine seq_take (v := ?_) rfl (by rfl) ?_ ?_
               rotate_left
               · intro w9 hSw; (unfold SW at hSw); (go_simp <;> with_reducible rfl)
               try simp only [Act.put, List.setIfInBounds_toArray, List.set_cons_zero, List.set_cons_succ]
               refine seq_take (v := ?_) rfl (by rfl) ?_ ?_
               rotate_left
               · intro w9 hSw; (unfold SW at hSw); (go_simp <;> with_reducible rfl)
               try simp only [Act.put, List.setIfInBounds_toArray, List.set_cons_zero, List.set_cons_succ]
               refine seq_take (v := ?_) rfl (by rfl) ?_ ?_
               rotate_left
               · intro w9 hSw; (unfold SW at hSw); (go_simp <;> with_reducible rfl)
               try simp only [Act.put, List.setIfInBounds_toArray, List.set_cons_zero, List.set_cons_succ]
               refine seq_done ?_
               go_wp2_with fail
               go_ret
               exact ⟨rfl, hK.hbw⟩
         · go_simp
           refine (ko _ _ _).mono ?_
           rintro e w26 ⟨rfl, hb26⟩
           replace hK := Kp.step hK (by as_aux_lemma => exact blA) hb26
           clear hb26
           refine hS9.out _ _ hK.cells (fun hHeld => ?_)
           clear hS9 K9 hHeld
           try simp only [Act.put, List.setIfInBounds_toArray, List.set_cons_zero, List.set_cons_succ]
           refine seq_one rfl (fun K9 hS9 => ?_)
           go_simp
           refine hS9.out _ _ (by first | exact hK.cells | exact (Kp.alloc hK _).cells | exact (Kp.below hK (by as_aux_lemma => exact blA)).cells | go_keep) (fun hHeld => ?_)
           clear hS9 K9 hHeld
           try simp only [Act.put, List.setIfInBounds_toArray, List.set_cons_zero, List.set_cons_succ]
           as_aux_lemma =>
            refine seq_one rfl (fun K9 hS9 => ?_)
            go_simp
            refine (kC1 _ _ _ _ _ (hK.hP.below blA) (by first | exact Ints.new2 _ _ _ _ _ (by simp) | exact hL | exact Ints.alloc hL _)).mono ?_
            rintro e w27 ⟨rfl, hb27⟩
            replace hK := Kp.step hK (by as_aux_lemma => exact blA) hb27
            clear hb27
            refine hS9.out _ _ hK.cells (fun hHeld => ?_)
            clear hS9 K9 hHeld
            try simp only [Act.put, List.setIfInBounds_toArray, List.set_cons_zero, List.set_cons_succ]
            refine seq_take (v := ?_) rfl (by rfl) ?_ ?_
            rotate_left
            · intro w9 hSw; (unfold SW at hSw); (go_simp <;> with_reducible rfl)
            try simp only [Act.put, List.setIfInBounds_toArray, List.set_cons_zero, List.set_cons_succ]
            refine seq_take (v := ?_) rfl (by rfl) ?_ ?_
            rotate_left
            · intro w9 hSw; (unfold SW at hSw); (go_simp <;> with_reducible rfl)
            try simp only [Act.put, List.setIfInBounds_toArray, List.set_cons_zero, List.set_cons_succ]
            refine seq_take (v := ?_) rfl (by rfl) ?_ ?_
            rotate_left
            · intro w9 hSw; (unfold SW at hSw); (go_simp <;> with_reducible rfl)
            try simp only [Act.put, List.setIfInBounds_toArray, List.set_cons_zero, List.set_cons_succ]
            refine seq_take (v := ?_) rfl (by rfl) ?_ ?_
            rotate_left
            · intro w9 hSw; (unfold SW at hSw); (go_simp <;> with_reducible rfl)
            try simp only [Act.put, List.setIfInBounds_toArray, List.set_cons_zero, List.set_cons_succ]
            refine seq_two rfl rfl (fun K9 hS9 => ?_) (fun K9 hS9 => ?_)
            · go_simp
              refine hS9.out _ _ (by first | exact hK.cells | exact (Kp.alloc hK _).cells | exact (Kp.below hK (by as_aux_lemma => exact blA)).cells | go_keep) (fun hHeld => ?_)
              clear hS9 K9 hHeld
              try simp only [Act.put, List.setIfInBounds_toArray, List.set_cons_zero, List.set_cons_succ]
              refine seq_one rfl (fun K9 hS9 => ?_)
              go_simp
              refine (ko _ _ _).mono ?_
              rintro e w28 ⟨rfl, hb28⟩
              have hL := Ints.below (Ints.new2 _ _ _ _ _ rfl) hb28
              replace hK := Kp.step hK (by as_aux_lemma => exact blA) hb28
              clear hb28
              refine hS9.out _ _ hK.cells (fun hHeld => ?_)
              clear hS9 K9 hHeld
              try simp only [Act.put, List.setIfInBounds_toArray, List.set_cons_zero, List.set_cons_succ]
              as_aux_lemma =>
               refine seq_one rfl (fun K9 hS9 => ?_)
               go_simp
               refine (kC2 _ _ _ _ _ (hK.hP.below blA) (by first | exact Ints.new2 _ _ _ _ _ (by simp) | exact hL | exact Ints.alloc hL _)).mono ?_
               rintro e w29 ⟨rfl, hb29⟩
               replace hK := Kp.step hK (by as_aux_lemma => exact blA) hb29
               clear hb29
               refine hS9.out _ _ hK.cells (fun hHeld => ?_)
               clear hS9 K9 hHeld
               try simp only [Act.put, List.setIfInBounds_toArray, List.set_cons_zero, List.set_cons_succ]
               refine seq_take (v := ?_) rfl (by rfl) ?_ ?_
               rotate_left
               · intro w9 hSw; (unfold SW at hSw); (go_simp <;> with_reducible rfl)
               try simp only [Act.put, List.setIfInBounds_toArray, List.set_cons_zero, List.set_cons_succ]
               refine seq_take (v := ?_) rfl (by rfl) ?_ ?_
               rotate_left
               · intro w9 hSw; (unfold SW at hSw); (go_simp <;> with_reducible rfl)
               try simp only [Act.put, List.setIfInBounds_toArray, List.set_cons_zero, List.set_cons_succ]
               refine seq_take (v := ?_) rfl (by rfl) ?_ ?_
               rotate_left
               · intro w9 hSw; (unfold SW at hSw); (go_simp <;> with_reducible rfl)
               try simp only [Act.put, List.setIfInBounds_toArray, List.set_cons_zero, List.set_cons_succ]
               refine seq_done ?_
               go_wp2_with fail
               go_ret
               exact ⟨rfl, hK.hbw⟩
            · go_simp
              refine (ko _ _ _).mono ?_
              rintro e w28 ⟨rfl, hb28⟩
              replace hK := Kp.step hK (by as_aux_lemma => exact blA) hb28
              clear hb28
              refine hS9.out _ _ hK.cells (fun hHeld => ?_)
              clear hS9 K9 hHeld
              try simp only [Act.put, List.setIfInBounds_toArray, List.set_cons_zero, List.set_cons_succ]
              refine seq_one rfl (fun K9 hS9 => ?_)
              go_simp
              refine hS9.out _ _ (by first | exact hK.cells | exact (Kp.alloc hK _).cells | exact (Kp.below hK (by as_aux_lemma => exact blA)).cells | go_keep) (fun hHeld => ?_)
              clear hS9 K9 hHeld
              try simp only [Act.put, List.setIfInBounds_toArray, List.set_cons_zero, List.set_cons_succ]
              as_aux_lemma =>
               refine seq_one rfl (fun K9 hS9 => ?_)
               go_simp
               refine (kC2 _ _ _ _ _ (hK.hP.below blA) (by first | exact Ints.new2 _ _ _ _ _ (by simp) | exact hL | exact Ints.alloc hL _)).mono ?_
               rintro e w29 ⟨rfl, hb29⟩
               replace hK := Kp.step hK (by as_aux_lemma => exact blA) hb29
               clear hb29
               refine hS9.out _ _ hK.cells (fun hHeld => ?_)
               clear hS9 K9 hHeld
               try simp only [Act.put, List.setIfInBounds_toArray, List.set_cons_zero, List.set_cons_succ]
               refine seq_take (v := ?_) rfl (by rfl) ?_ ?_
               rotate_left
               · intro w9 hSw; (unfold SW at hSw); (go_simp <;> with_reducible rfl)
               try simp only [Act.put, List.setIfInBounds_toArray, List.set_cons_zero, List.set_cons_succ]
               refine seq_take (v := ?_) rfl (by rfl) ?_ ?_
               rotate_left
               · intro w9 hSw; (unfold SW at hSw); (go_simp <;> with_reducible rfl)
               try simp only [Act.put, List.setIfInBounds_toArray, List.set_cons_zero, List.set_cons_succ]
               refine seq_take (v := ?_) rfl (by rfl) ?_ ?_
               rotate_left
               · intro w9 hSw; (unfold SW at hSw); (go_simp <;> with_reducible rfl)
               try simp only [Act.put, List.setIfInBounds_toArray, List.set_cons_zero, List.set_cons_succ]
               refine seq_done ?_
               go_wp2_with fail
               go_ret
               exact ⟨rfl, hK.hbw⟩
  -- END

end Go.Proofs.Ytcmllkjgggcghaa
end
