/- EK10 EL10 -/
import Derived.Test.YtcmllkjgggcghaaEZ17
import Derived.Test.YtcmllkjgggcghaaEZ26
/- The walk of EyeKnown: but for Works. -/
section
namespace Go.Proofs.Ytcmllkjgggcghaa
open Go.RowKit Go.Shelf
set_option linter.unusedSimpArgs false
set_option linter.unusedVariables false

section
variable (g1 g2 g3 g4 : Nat)
theorem exk_odds : oddsP (exT g1 g2 g3 g4) 2 [0, 2] = ((1, 0), 0) := by kernel_rfl
theorem exk_region : regionP (exT g1 g2 g3 g4) 2 0 1 = ([4, 5, 7, 8], 0) := by kernel_rfl
theorem exk_b1 : best2B (ocG (exT g1 g2 g3 g4) 2) (ocE (exT g1 g2 g3 g4) 2) 9 1 5 = true := by kernel_rfl
theorem exk_b3 : best2B (ocG (exT g1 g2 g3 g4) 2) (ocE (exT g1 g2 g3 g4) 2) 9 3 4 = true := by kernel_rfl
theorem exk_k4 : key (ocG (exT g1 g2 g3 g4) 2) (ocE (exT g1 g2 g3 g4) 2) 4 = (1, 1) := by kernel_rfl
theorem exk_r11 : regL (exT g1 g2 g3 g4) 2 (1, 1) 9 = [5, 7, 8] := by kernel_rfl
theorem exk_sum : sumP (exT g1 g2 g3 g4) 2 [5, 7, 8] = ((3, 8), 0) := by kernel_rfl
theorem exkO (A B : Option Addr) (c C : Nat) (w : World) (hz : Plates w A 2 (exT g1 g2 g3 g4)) (hd : Ints w B 2 [0, 2]) :
    Calls Try.prog 36 #[.slice A 2 c, .slice B 2 C] w fun e w' => e = .returned (.tuple #[.agg #[.int .i64 1, .int .i64 0], .int .i64 0]) ∧ Below w.heap.size w w' := by
  have := eodds_any A B 2 c 2 C _ _ w hz (by omega) hd
  rw [exk_odds] at this
  exact this
theorem exkR (A : Option Addr) (c : Nat) (w : World) (hz : Plates w A 2 (exT g1 g2 g3 g4)) :
    Calls Try.prog 15 #[.slice A 2 c, .agg #[.int .i64 0, .int .i64 1]] w (RetLE ([4, 5, 7, 8], 0) w) := by
  have := regionE_any A 2 c _ 0 1 w hz (by omega)
  rw [exk_region] at this
  exact this
theorem exkB1 (A : Option Addr) (c : Nat) (w : World) (hz : Plates w A 2 (exT g1 g2 g3 g4)) :
    Calls Try.prog 20 #[.slice A 2 c, .int .i64 1] w (RetLRE [8] (2, 1) 0 w) := by
  refine (best_any A 2 c _ 1 w hz (by omega) (by omega)).mono fun e w' h => ?_
  unfold RetBest at h
  rw [ex_test, ex_many, if_neg (by simp), if_neg (by omega)] at h
  obtain ⟨t, hb, hr⟩ := h
  have h2 := best2B_spec (exk_b1 g1 g2 g3 g4)
  rw [ex_k5] at h2
  obtain rfl := isBest_one hb h2
  rw [ex_r21] at hr
  exact hr
theorem exkB3 (A : Option Addr) (c : Nat) (w : World) (hz : Plates w A 2 (exT g1 g2 g3 g4)) :
    Calls Try.prog 20 #[.slice A 2 c, .int .i64 3] w (RetLRE [5, 7, 8] (1, 1) 0 w) := by
  refine (best_any A 2 c _ 3 w hz (by omega) (by omega)).mono fun e w' h => ?_
  unfold RetBest at h
  rw [ex_test, ex_many, if_neg (by simp), if_neg (by omega)] at h
  obtain ⟨t, hb, hr⟩ := h
  have h2 := best2B_spec (exk_b3 g1 g2 g3 g4)
  rw [exk_k4] at h2
  obtain rfl := isBest_one hb h2
  rw [exk_r11] at hr
  exact hr
theorem exkS (A B : Option Addr) (c C : Nat) (w : World) (hz : Plates w A 2 (exT g1 g2 g3 g4)) (hd : Ints w B 3 [5, 7, 8]) (hC : 3 ≤ C) :
    Calls Try.prog 38 #[.slice A 2 c, .slice B 3 C] w fun e w' => e = .returned (.tuple #[.agg #[.int .i64 3, .int .i64 8], .int .i64 0]) ∧ Below w.heap.size w w' := by
  have := esum_any A B 2 c 3 C _ _ w hz (by omega) hd (by omega) hC
  rw [exk_sum] at this
  exact this
end

def SV (a b c d : Nat) (w' : World) : Prop := w'.cell? ⟨a, 0, none⟩ = some (.int .i64 1) ∧ w'.cell? ⟨a, 1, none⟩ = some (.int .i64 0) ∧ w'.cell? ⟨b, 0, none⟩ = some (.int .i64 2) ∧ w'.cell? ⟨b, 1, none⟩ = some (.int .i64 1) ∧ w'.cell? ⟨c, 0, none⟩ = some (.int .i64 1) ∧ w'.cell? ⟨c, 1, none⟩ = some (.int .i64 1) ∧ w'.cell? ⟨d, 0, none⟩ = some (.int .i64 3) ∧ w'.cell? ⟨d, 1, none⟩ = some (.int .i64 8)
structure Kq (w : World) (a b c d : Nat) (A4 A6 A9 : Option Addr) (W : World) : Prop where
  Ba : Cs W a #[.int .i64 1, .int .i64 0]
  Bb : Cs W b #[.int .i64 2, .int .i64 1]
  Bc : Cs W c #[.int .i64 1, .int .i64 1]
  Bd : Cs W d #[.int .i64 3, .int .i64 8]
  h4 : Ints W A4 4 [4, 5, 7, 8]
  h6 : Ints W A6 1 [8]
  h9 : Ints W A9 3 [5, 7, 8]
  hbw : Below w.heap.size w W
section
variable {w W V U : World} {a b c d : Nat} {A4 A6 A9 : Option Addr}
theorem Kq.below (h : Kq w a b c d A4 A6 A9 W) (hb : Below W.heap.size W V) : Kq w a b c d A4 A6 A9 V :=
  ⟨h.Ba.keep hb, h.Bb.keep hb, h.Bc.keep hb, h.Bd.keep hb, h.h4.below hb, h.h6.below hb, h.h9.below hb, bstep h.hbw hb⟩
theorem Kq.step (h : Kq w a b c d A4 A6 A9 W) (h1 : Below W.heap.size W V) (h2 : Below V.heap.size V U) : Kq w a b c d A4 A6 A9 U := (h.below h1).below h2
theorem Kq.alloc (h : Kq w a b c d A4 A6 A9 W) (x : _) : Kq w a b c d A4 A6 A9 (W.alloc x) := h.below (balloc (Below.refl _ _) _)
theorem SV.drew (h : SV a b c d W) : SV a b c d W.drew := h
theorem Kq.cells (h : Kq w a b c d A4 A6 A9 W) : SV a b c d W :=
  ⟨h.Ba.c 0, h.Ba.c 1, h.Bb.c 0, h.Bb.c 1, h.Bc.c 0, h.Bc.c 1, h.Bd.c 0, h.Bd.c 1⟩
end

set_option maxRecDepth 100000 in
set_option maxHeartbeats 40000000 in
theorem eyeKnown_walk (kw : ∀ w : World, Calls Try.prog 14 #[] w fun e w' => e = .returned (.bool true) ∧ Below w.heap.size w w') (w : World) :
    Calls Try.prog 12 #[] w fun e w' => e = .returned (.bool true) ∧ Below w.heap.size w w' := by
  have ko := fun a b W => of_any a b W
  have kR := exkR
  have kB1 := exkB1
  have kB3 := exkB3
  have ki := fun A B n c c' xs W hx hy hn => ints_any A B n n c c' xs xs W hx hy hn hn true (by simp)
  unfold RetLE at kR
  unfold RetLRE at kB1 kB3
  dsimp only at kR kB1 kB3
  go_enter Try.func12, Try.ntmps12
  go_wp2_with fail
  refine (test_any _).mono ?_
  rintro _ w1 ⟨g, g1, g2, g3, g4, c, rfl, hP, hb1⟩
  replace hP : Plates w1 (some ⟨g, 0, none⟩) 2 (exT g1 g2 g3 g4) := hP
  have hbw : Below w.heap.size w w1 := blA
  clear hb1
  generalize hZ : exT g1 g2 g3 g4 = Z at hP
  have kO := fun A B c C W (h : Plates W A 2 Z) hd => exkO g1 g2 g3 g4 A B c C W (hZ ▸ h) hd
  have kR := fun A c W (h : Plates W A 2 Z) => kR g1 g2 g3 g4 A c W (hZ ▸ h)
  have kB1 := fun A c W (h : Plates W A 2 Z) => kB1 g1 g2 g3 g4 A c W (hZ ▸ h)
  have kB3 := fun A c W (h : Plates W A 2 Z) => kB3 g1 g2 g3 g4 A c W (hZ ▸ h)
  have kS := fun A B c C W (h : Plates W A 2 Z) hd hC => exkS g1 g2 g3 g4 A B c C W (hZ ▸ h) hd hC
  clear hZ
  go_wp2_with fail
  refine (kO _ _ _ _ _ (hP.below (balloc (Below.refl _ _) _)) (Ints.new2 _ _ _ _ _ rfl)).mono ?_
  rintro _ w2 ⟨rfl, hb2⟩
  replace hP := (hP.below (balloc (Below.refl _ _) _)).below hb2
  replace hbw : Below w.heap.size w w2 := blA
  clear hb2 kO
  go_wp2_with fail
  refine (ko _ _ _).mono ?_
  rintro e w3 ⟨rfl, hb3⟩
  replace Ba : Cs w3 (w2.heap.size) #[.int .i64 1, .int .i64 0] := Cs.keep csA hb3
  replace hP : Plates w3 (some ⟨g, 0, none⟩) 2 Z := Plates.below hP blA
  replace hbw : Below w.heap.size w w3 := blA
  replace cBa := Ba.c
  replace fBa := Ba.f
  replace lBa := Ba.lt
  clear hb3
  go_wp2_with fail
  refine (kR _ _ _ hP).mono ?_
  rintro _ w4 ⟨A4, n4, c4, rfl, h4, hb4⟩
  obtain rfl : n4 = 4 := h4.1.symm
  clear kR
  replace Ba : Cs w4 (w2.heap.size) #[.int .i64 1, .int .i64 0] := Cs.keep csA hb4
  replace hP : Plates w4 (some ⟨g, 0, none⟩) 2 Z := Plates.below hP blA
  replace hbw : Below w.heap.size w w4 := blA
  replace cBa := Ba.c
  replace fBa := Ba.f
  replace lBa := Ba.lt
  clear hb4
  go_wp2_with fail
  refine (kB1 _ _ _ hP).mono ?_
  rintro _ w5 ⟨A6, n6, c6, rfl, h6, hb5⟩
  obtain rfl : n6 = 1 := h6.1.symm
  clear kB1
  replace Ba : Cs w5 (w2.heap.size) #[.int .i64 1, .int .i64 0] := Cs.keep csA hb5
  replace hP : Plates w5 (some ⟨g, 0, none⟩) 2 Z := Plates.below hP blA
  replace h4 : Ints w5 A4 4 [4, 5, 7, 8] := Ints.below intsA hb5
  replace hbw : Below w.heap.size w w5 := blA
  replace cBa := Ba.c
  replace fBa := Ba.f
  replace lBa := Ba.lt
  clear hb5
  go_wp2_with fail
  refine (kB3 _ _ _ (hP.below (balloc (Below.refl _ _) _))).mono ?_
  rintro _ w6 ⟨A9, n9, c9, rfl, h9, hb6⟩
  obtain rfl : n9 = 3 := h9.1.symm
  clear kB3
  replace Ba : Cs w6 (w2.heap.size) #[.int .i64 1, .int .i64 0] := Cs.keep csA hb6
  replace Bb : Cs w6 (w5.heap.size) #[.int .i64 2, .int .i64 1] := Cs.keep csA hb6
  replace hP : Plates w6 (some ⟨g, 0, none⟩) 2 Z := Plates.below hP blA
  replace h4 : Ints w6 A4 4 [4, 5, 7, 8] := Ints.below intsA hb6
  replace h6 : Ints w6 A6 1 [8] := Ints.below intsA hb6
  replace hbw : Below w.heap.size w w6 := blA
  replace cBa := Ba.c
  replace fBa := Ba.f
  replace lBa := Ba.lt
  replace cBb := Bb.c
  replace fBb := Bb.f
  replace lBb := Bb.lt
  clear hb6
  go_wp2_with fail
  refine (kS _ _ _ _ _ (hP.below blA) (Ints.new3 _ _ _ _ _ _ (by simp)) (by omega)).mono ?_
  rintro _ w7 ⟨rfl, hb7⟩
  clear kS
  try clear hP
  replace Ba : Cs w7 (w2.heap.size) #[.int .i64 1, .int .i64 0] := Cs.keep csA hb7
  replace Bb : Cs w7 (w5.heap.size) #[.int .i64 2, .int .i64 1] := Cs.keep csA hb7
  replace Bc : Cs w7 (w6.heap.size) #[.int .i64 1, .int .i64 1] := Cs.keep csA hb7
  replace h4 : Ints w7 A4 4 [4, 5, 7, 8] := Ints.below intsA hb7
  replace h6 : Ints w7 A6 1 [8] := Ints.below intsA hb7
  replace h9 : Ints w7 A9 3 [5, 7, 8] := Ints.below intsA hb7
  replace hbw : Below w.heap.size w w7 := blA
  replace cBa := Ba.c
  replace fBa := Ba.f
  replace lBa := Ba.lt
  replace cBb := Bb.c
  replace fBb := Bb.f
  replace lBb := Bb.lt
  replace cBc := Bc.c
  replace fBc := Bc.f
  replace lBc := Bc.lt
  clear hb7
  go_wp2_with fail
  try simp only [List.append]
  have Bd : Cs (w7.alloc (.cells #[.int .i64 3, .int .i64 8] 59)) w7.heap.size #[.int .i64 3, .int .i64 8] := csA
  have hK : Kq w w2.heap.size w5.heap.size w6.heap.size w7.heap.size A4 A6 A9 (w7.alloc (.cells #[.int .i64 3, .int .i64 8] 59)) := ⟨csA, csA, csA, Bd, h4.alloc _, h6.alloc _, h9.alloc _, blA⟩
  clear Ba Bb Bc Bd h4 h6 h9 hbw cBa fBa lBa cBb fBb lBb cBc fBc lBc
  refine wp_region_seq (S := SV w2.heap.size w5.heap.size w6.heap.size w7.heap.size) [.t 0 1, .t 1 3, .t 2 7, .t 3 15, .t 4 31, .t 5 63, .t 6 127, .t 7 255, .t 8 511, .t 9 1023, .t 10 2047, .t 11 4095, .t 12 8191, .t 13 16383, .t 14 32767, .t 15 65535, .t 16 131071, .t 17 262143, .t 18 524287, .t 19 1048575, .t 20 2097151, .t 21 4194303, .t 22 8388607, .t 23 16777215, .t 24 33554431, .o 25 67108863, .o 26 134217727, .t 27 268435455, .t 28 536870911, .t 29 1073741823, .o 30 2147483647, .o 31 4294967295, .t 32 8589934591, .t 33 17179869183, .t 34 34359738367, .o 35 68719476735, .t 36 137438953471, .t 37 274877906943, .t 38 549755813887, .t 39 1099511627775, .o 40 2199023255551, .o 41 4398046511103, .t 42 8796093022207, .t 43 17592186044415, .t 44 35184372088831, .o 45 70368744177663, .t 46 140737488355327, .t 47 281474976710655, .t 48 562949953421311, .t 49 1125899906842623, .t 50 2251799813685247, .t 51 4503599627370495, .t 52 9007199254740991, .t 53 18014398509481983, .o 54 36028797018963967, .t 55 72057594037927935, .t 56 144115188075855871] (by kernel_rfl) (by kernel_rfl) (by as_aux_lemma => kernel_rfl) (by kernel_rfl) (fun c a d v w h => by cases d <;> exact h) (SV.drew hK.cells) (fun hHeld => ?_)
  clear hHeld
  refine seq_take (v := ?_) rfl (by rfl) ?_ ?_
  rotate_left
  · intro w9 hSw; (unfold SV at hSw); (go_simp <;> with_reducible rfl)
  try simp only [Act.put, List.setIfInBounds_toArray, List.set_cons_zero, List.set_cons_succ]
  refine seq_take (v := ?_) rfl (by rfl) ?_ ?_
  rotate_left
  · intro w9 hSw; (unfold SV at hSw); (go_simp <;> with_reducible rfl)
  try simp only [Act.put, List.setIfInBounds_toArray, List.set_cons_zero, List.set_cons_succ]
  refine seq_take (v := ?_) rfl (by rfl) ?_ ?_
  rotate_left
  · intro w9 hSw; (unfold SV at hSw); (go_simp <;> with_reducible rfl)
  try simp only [Act.put, List.setIfInBounds_toArray, List.set_cons_zero, List.set_cons_succ]
  refine seq_take (v := ?_) rfl (by rfl) ?_ ?_
  rotate_left
  · intro w9 hSw; (unfold SV at hSw); (go_simp <;> with_reducible rfl)
  try simp only [Act.put, List.setIfInBounds_toArray, List.set_cons_zero, List.set_cons_succ]
  refine seq_take (v := ?_) rfl (by rfl) ?_ ?_
  rotate_left
  · intro w9 hSw; (unfold SV at hSw); (go_simp <;> with_reducible rfl)
  try simp only [Act.put, List.setIfInBounds_toArray, List.set_cons_zero, List.set_cons_succ]
  refine seq_take (v := ?_) rfl (by rfl) ?_ ?_
  rotate_left
  · intro w9 hSw; (unfold SV at hSw); (go_simp <;> with_reducible rfl)
  try simp only [Act.put, List.setIfInBounds_toArray, List.set_cons_zero, List.set_cons_succ]
  refine seq_take (v := ?_) rfl (by rfl) ?_ ?_
  rotate_left
  · intro w9 hSw; (unfold SV at hSw); (go_simp <;> with_reducible rfl)
  try simp only [Act.put, List.setIfInBounds_toArray, List.set_cons_zero, List.set_cons_succ]
  refine seq_take (v := ?_) rfl (by rfl) ?_ ?_
  rotate_left
  · intro w9 hSw; (unfold SV at hSw); (go_simp <;> with_reducible rfl)
  try simp only [Act.put, List.setIfInBounds_toArray, List.set_cons_zero, List.set_cons_succ]
  refine seq_take (v := ?_) rfl (by rfl) ?_ ?_
  rotate_left
  · intro w9 hSw; (unfold SV at hSw); (go_simp <;> with_reducible rfl)
  try simp only [Act.put, List.setIfInBounds_toArray, List.set_cons_zero, List.set_cons_succ]
  refine seq_take (v := ?_) rfl (by rfl) ?_ ?_
  rotate_left
  · intro w9 hSw; (unfold SV at hSw); (go_simp <;> with_reducible rfl)
  try simp only [Act.put, List.setIfInBounds_toArray, List.set_cons_zero, List.set_cons_succ]
  refine seq_take (v := ?_) rfl (by rfl) ?_ ?_
  rotate_left
  · intro w9 hSw; (unfold SV at hSw); (go_simp <;> with_reducible rfl)
  try simp only [Act.put, List.setIfInBounds_toArray, List.set_cons_zero, List.set_cons_succ]
  refine seq_take (v := ?_) rfl (by rfl) ?_ ?_
  rotate_left
  · intro w9 hSw; (unfold SV at hSw); (go_simp <;> with_reducible rfl)
  try simp only [Act.put, List.setIfInBounds_toArray, List.set_cons_zero, List.set_cons_succ]
  as_aux_lemma =>
   refine seq_take (v := ?_) rfl (by rfl) ?_ ?_
   rotate_left
   · intro w9 hSw; (unfold SV at hSw); (go_simp <;> with_reducible rfl)
   try simp only [Act.put, List.setIfInBounds_toArray, List.set_cons_zero, List.set_cons_succ]
   refine seq_take (v := ?_) rfl (by rfl) ?_ ?_
   rotate_left
   · intro w9 hSw; (unfold SV at hSw); (go_simp <;> with_reducible rfl)
   try simp only [Act.put, List.setIfInBounds_toArray, List.set_cons_zero, List.set_cons_succ]
   refine seq_take (v := ?_) rfl (by rfl) ?_ ?_
   rotate_left
   · intro w9 hSw; (unfold SV at hSw); (go_simp <;> with_reducible rfl)
   try simp only [Act.put, List.setIfInBounds_toArray, List.set_cons_zero, List.set_cons_succ]
   refine seq_take (v := ?_) rfl (by rfl) ?_ ?_
   rotate_left
   · intro w9 hSw; (unfold SV at hSw); (go_simp <;> with_reducible rfl)
   try simp only [Act.put, List.setIfInBounds_toArray, List.set_cons_zero, List.set_cons_succ]
   refine seq_take (v := ?_) rfl (by rfl) ?_ ?_
   rotate_left
   · intro w9 hSw; (unfold SV at hSw); (go_simp <;> with_reducible rfl)
   try simp only [Act.put, List.setIfInBounds_toArray, List.set_cons_zero, List.set_cons_succ]
   refine seq_take (v := ?_) rfl (by rfl) ?_ ?_
   rotate_left
   · intro w9 hSw; (unfold SV at hSw); (go_simp <;> with_reducible rfl)
   try simp only [Act.put, List.setIfInBounds_toArray, List.set_cons_zero, List.set_cons_succ]
   refine seq_take (v := ?_) rfl (by rfl) ?_ ?_
   rotate_left
   · intro w9 hSw; (unfold SV at hSw); (go_simp <;> with_reducible rfl)
   try simp only [Act.put, List.setIfInBounds_toArray, List.set_cons_zero, List.set_cons_succ]
   refine seq_take (v := ?_) rfl (by rfl) ?_ ?_
   rotate_left
   · intro w9 hSw; (unfold SV at hSw); (go_simp <;> with_reducible rfl)
   try simp only [Act.put, List.setIfInBounds_toArray, List.set_cons_zero, List.set_cons_succ]
   refine seq_take (v := ?_) rfl (by rfl) ?_ ?_
   rotate_left
   · intro w9 hSw; (unfold SV at hSw); (go_simp <;> with_reducible rfl)
   try simp only [Act.put, List.setIfInBounds_toArray, List.set_cons_zero, List.set_cons_succ]
   refine seq_take (v := ?_) rfl (by rfl) ?_ ?_
   rotate_left
   · intro w9 hSw; (unfold SV at hSw); (go_simp <;> with_reducible rfl)
   try simp only [Act.put, List.setIfInBounds_toArray, List.set_cons_zero, List.set_cons_succ]
   refine seq_take (v := ?_) rfl (by rfl) ?_ ?_
   rotate_left
   · intro w9 hSw; (unfold SV at hSw); (go_simp <;> with_reducible rfl)
   try simp only [Act.put, List.setIfInBounds_toArray, List.set_cons_zero, List.set_cons_succ]
   refine seq_take (v := ?_) rfl (by rfl) ?_ ?_
   rotate_left
   · intro w9 hSw; (unfold SV at hSw); (go_simp <;> with_reducible rfl)
   try simp only [Act.put, List.setIfInBounds_toArray, List.set_cons_zero, List.set_cons_succ]
   as_aux_lemma =>
    refine seq_take (v := ?_) rfl (by rfl) ?_ ?_
    rotate_left
    · intro w9 hSw; (unfold SV at hSw); (go_simp <;> with_reducible rfl)
    try simp only [Act.put, List.setIfInBounds_toArray, List.set_cons_zero, List.set_cons_succ]
    refine seq_one rfl (fun K9 hS9 => ?_)
    go_simp
    refine hS9.out _ _ (by first | exact hK.cells | exact (Kq.alloc hK _).cells | exact (Kq.below hK (by as_aux_lemma => exact blA)).cells | go_keep) (fun hHeld => ?_)
    clear hS9 K9 hHeld
    try simp only [Act.put, List.setIfInBounds_toArray, List.set_cons_zero, List.set_cons_succ]
    refine seq_one rfl (fun K9 hS9 => ?_)
    go_simp
    refine (ki _ _ _ _ _ _ _ (Ints.below hK.h4 blA) (Ints.drew (Ints.new4 _ _ _ _ _ _ _ (by simp))) (by omega)).mono ?_
    rintro e w20 ⟨rfl, hb20⟩
    replace hK := Kq.step hK (by as_aux_lemma => exact blA) hb20
    clear hb20
    refine hS9.out _ _ hK.cells (fun hHeld => ?_)
    clear hS9 K9 hHeld
    try simp only [Act.put, List.setIfInBounds_toArray, List.set_cons_zero, List.set_cons_succ]
    refine seq_take (v := ?_) rfl (by rfl) ?_ ?_
    rotate_left
    · intro w9 hSw; (unfold SV at hSw); (go_simp <;> with_reducible rfl)
    try simp only [Act.put, List.setIfInBounds_toArray, List.set_cons_zero, List.set_cons_succ]
    refine seq_take (v := ?_) rfl (by rfl) ?_ ?_
    rotate_left
    · intro w9 hSw; (unfold SV at hSw); (go_simp <;> with_reducible rfl)
    try simp only [Act.put, List.setIfInBounds_toArray, List.set_cons_zero, List.set_cons_succ]
    refine seq_take (v := ?_) rfl (by rfl) ?_ ?_
    rotate_left
    · intro w9 hSw; (unfold SV at hSw); (go_simp <;> with_reducible rfl)
    try simp only [Act.put, List.setIfInBounds_toArray, List.set_cons_zero, List.set_cons_succ]
    refine seq_one rfl (fun K9 hS9 => ?_)
    go_simp
    refine hS9.out _ _ (by first | exact hK.cells | exact (Kq.alloc hK _).cells | exact (Kq.below hK (by as_aux_lemma => exact blA)).cells | go_keep) (fun hHeld => ?_)
    clear hS9 K9 hHeld
    try simp only [Act.put, List.setIfInBounds_toArray, List.set_cons_zero, List.set_cons_succ]
    as_aux_lemma =>
     refine seq_one rfl (fun K9 hS9 => ?_)
     go_simp
     refine (ki _ _ _ _ _ _ _ (Ints.below hK.h6 blA) (Ints.new1 _ _ _ _ (by simp)) (by omega)).mono ?_
     rintro e w21 ⟨rfl, hb21⟩
     replace hK := Kq.step hK (by as_aux_lemma => exact blA) hb21
     clear hb21
     refine hS9.out _ _ hK.cells (fun hHeld => ?_)
     clear hS9 K9 hHeld
     try simp only [Act.put, List.setIfInBounds_toArray, List.set_cons_zero, List.set_cons_succ]
     refine seq_take (v := ?_) rfl (by rfl) ?_ ?_
     rotate_left
     · intro w9 hSw; (unfold SV at hSw); (go_simp <;> with_reducible rfl)
     try simp only [Act.put, List.setIfInBounds_toArray, List.set_cons_zero, List.set_cons_succ]
     refine seq_take (v := ?_) rfl (by rfl) ?_ ?_
     rotate_left
     · intro w9 hSw; (unfold SV at hSw); (go_simp <;> with_reducible rfl)
     try simp only [Act.put, List.setIfInBounds_toArray, List.set_cons_zero, List.set_cons_succ]
     refine seq_take (v := ?_) rfl (by rfl) ?_ ?_
     rotate_left
     · intro w9 hSw; (unfold SV at hSw); (go_simp <;> with_reducible rfl)
     try simp only [Act.put, List.setIfInBounds_toArray, List.set_cons_zero, List.set_cons_succ]
     refine seq_one rfl (fun K9 hS9 => ?_)
     go_simp
     refine (ko _ _ _).mono ?_
     rintro e w22 ⟨rfl, hb22⟩
     replace hK := Kq.step hK (by as_aux_lemma => exact blA) hb22
     clear hb22
     refine hS9.out _ _ hK.cells (fun hHeld => ?_)
     clear hS9 K9 hHeld
     try simp only [Act.put, List.setIfInBounds_toArray, List.set_cons_zero, List.set_cons_succ]
     refine seq_take (v := ?_) rfl (by rfl) ?_ ?_
     rotate_left
     · intro w9 hSw; (unfold SV at hSw); (go_simp <;> with_reducible rfl)
     try simp only [Act.put, List.setIfInBounds_toArray, List.set_cons_zero, List.set_cons_succ]
     refine seq_take (v := ?_) rfl (by rfl) ?_ ?_
     rotate_left
     · intro w9 hSw; (unfold SV at hSw); (go_simp <;> with_reducible rfl)
     try simp only [Act.put, List.setIfInBounds_toArray, List.set_cons_zero, List.set_cons_succ]
     refine seq_take (v := ?_) rfl (by rfl) ?_ ?_
     rotate_left
     · intro w9 hSw; (unfold SV at hSw); (go_simp <;> with_reducible rfl)
     try simp only [Act.put, List.setIfInBounds_toArray, List.set_cons_zero, List.set_cons_succ]
     as_aux_lemma =>
      refine seq_take (v := ?_) rfl (by rfl) ?_ ?_
      rotate_left
      · intro w9 hSw; (unfold SV at hSw); (go_simp <;> with_reducible rfl)
      try simp only [Act.put, List.setIfInBounds_toArray, List.set_cons_zero, List.set_cons_succ]
      refine seq_one rfl (fun K9 hS9 => ?_)
      go_simp
      refine hS9.out _ _ (by first | exact hK.cells | exact (Kq.alloc hK _).cells | exact (Kq.below hK (by as_aux_lemma => exact blA)).cells | go_keep) (fun hHeld => ?_)
      clear hS9 K9 hHeld
      try simp only [Act.put, List.setIfInBounds_toArray, List.set_cons_zero, List.set_cons_succ]
      refine seq_one rfl (fun K9 hS9 => ?_)
      go_simp
      refine (ki _ _ _ _ _ _ _ (Ints.below hK.h9 blA) (Ints.new3 _ _ _ _ _ _ (by simp)) (by omega)).mono ?_
      rintro e w23 ⟨rfl, hb23⟩
      replace hK := Kq.step hK (by as_aux_lemma => exact blA) hb23
      clear hb23
      refine hS9.out _ _ hK.cells (fun hHeld => ?_)
      clear hS9 K9 hHeld
      try simp only [Act.put, List.setIfInBounds_toArray, List.set_cons_zero, List.set_cons_succ]
      refine seq_take (v := ?_) rfl (by rfl) ?_ ?_
      rotate_left
      · intro w9 hSw; (unfold SV at hSw); (go_simp <;> with_reducible rfl)
      try simp only [Act.put, List.setIfInBounds_toArray, List.set_cons_zero, List.set_cons_succ]
      refine seq_take (v := ?_) rfl (by rfl) ?_ ?_
      rotate_left
      · intro w9 hSw; (unfold SV at hSw); (go_simp <;> with_reducible rfl)
      try simp only [Act.put, List.setIfInBounds_toArray, List.set_cons_zero, List.set_cons_succ]
      refine seq_take (v := ?_) rfl (by rfl) ?_ ?_
      rotate_left
      · intro w9 hSw; (unfold SV at hSw); (go_simp <;> with_reducible rfl)
      try simp only [Act.put, List.setIfInBounds_toArray, List.set_cons_zero, List.set_cons_succ]
      refine seq_one rfl (fun K9 hS9 => ?_)
      go_simp
      refine (ko _ _ _).mono ?_
      rintro e w24 ⟨rfl, hb24⟩
      replace hK := Kq.step hK (by as_aux_lemma => exact blA) hb24
      clear hb24
      refine hS9.out _ _ hK.cells (fun hHeld => ?_)
      clear hS9 K9 hHeld
      try simp only [Act.put, List.setIfInBounds_toArray, List.set_cons_zero, List.set_cons_succ]
      as_aux_lemma =>
       refine seq_take (v := ?_) rfl (by rfl) ?_ ?_
       rotate_left
       · intro w9 hSw; (unfold SV at hSw); (go_simp <;> with_reducible rfl)
       try simp only [Act.put, List.setIfInBounds_toArray, List.set_cons_zero, List.set_cons_succ]
       refine seq_take (v := ?_) rfl (by rfl) ?_ ?_
       rotate_left
       · intro w9 hSw; (unfold SV at hSw); (go_simp <;> with_reducible rfl)
       try simp only [Act.put, List.setIfInBounds_toArray, List.set_cons_zero, List.set_cons_succ]
       refine seq_take (v := ?_) rfl (by rfl) ?_ ?_
       rotate_left
       · intro w9 hSw; (unfold SV at hSw); (go_simp <;> with_reducible rfl)
       try simp only [Act.put, List.setIfInBounds_toArray, List.set_cons_zero, List.set_cons_succ]
       refine seq_take (v := ?_) rfl (by rfl) ?_ ?_
       rotate_left
       · intro w9 hSw; (unfold SV at hSw); (go_simp <;> with_reducible rfl)
       try simp only [Act.put, List.setIfInBounds_toArray, List.set_cons_zero, List.set_cons_succ]
       refine seq_take (v := ?_) rfl (by rfl) ?_ ?_
       rotate_left
       · intro w9 hSw; (unfold SV at hSw); (go_simp <;> with_reducible rfl)
       try simp only [Act.put, List.setIfInBounds_toArray, List.set_cons_zero, List.set_cons_succ]
       refine seq_take (v := ?_) rfl (by rfl) ?_ ?_
       rotate_left
       · intro w9 hSw; (unfold SV at hSw); (go_simp <;> with_reducible rfl)
       try simp only [Act.put, List.setIfInBounds_toArray, List.set_cons_zero, List.set_cons_succ]
       refine seq_take (v := ?_) rfl (by rfl) ?_ ?_
       rotate_left
       · intro w9 hSw; (unfold SV at hSw); (go_simp <;> with_reducible rfl)
       try simp only [Act.put, List.setIfInBounds_toArray, List.set_cons_zero, List.set_cons_succ]
       refine seq_take (v := ?_) rfl (by rfl) ?_ ?_
       rotate_left
       · intro w9 hSw; (unfold SV at hSw); (go_simp <;> with_reducible rfl)
       try simp only [Act.put, List.setIfInBounds_toArray, List.set_cons_zero, List.set_cons_succ]
       refine seq_one rfl (fun K9 hS9 => ?_)
       go_simp
       refine (kw _).mono ?_
       rintro e w25 ⟨rfl, hb25⟩
       replace hK := Kq.step hK (by as_aux_lemma => exact blA) hb25
       clear hb25
       refine hS9.out _ _ hK.cells (fun hHeld => ?_)
       clear hS9 K9 hHeld
       try simp only [Act.put, List.setIfInBounds_toArray, List.set_cons_zero, List.set_cons_succ]
       refine seq_take (v := ?_) rfl (by rfl) ?_ ?_
       rotate_left
       · intro w9 hSw; (unfold SV at hSw); (go_simp <;> with_reducible rfl)
       try simp only [Act.put, List.setIfInBounds_toArray, List.set_cons_zero, List.set_cons_succ]
       as_aux_lemma =>
        refine seq_take (v := ?_) rfl (by rfl) ?_ ?_
        rotate_left
        · intro w9 hSw; (unfold SV at hSw); (go_simp <;> with_reducible rfl)
        try simp only [Act.put, List.setIfInBounds_toArray, List.set_cons_zero, List.set_cons_succ]
        refine seq_done ?_
        go_wp2_with fail
        go_ret
        exact ⟨rfl, hK.hbw⟩

end Go.Proofs.Ytcmllkjgggcghaa
end

/- The walk of EyeKnown. -/
section
namespace Go.Proofs.Ytcmllkjgggcghaa
open Go.RowKit Go.Shelf

theorem eyeKnown_any (w : World) : Calls Try.prog 12 #[] w fun e w' => e = .returned (.bool true) ∧ Below w.heap.size w w' :=
  eyeKnown_walk works_any w

end Go.Proofs.Ytcmllkjgggcghaa
end
