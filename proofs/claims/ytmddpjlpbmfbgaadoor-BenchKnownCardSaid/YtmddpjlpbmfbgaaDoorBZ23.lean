/- BK10 BT10 -/
import Derived.Test.YtmddpjlpbmfbgaaDoorBZ16
import Derived.Test.YtmddpjlpbmfbgaaDoorBZ17
/- The walk of BenchKnown: it answers true. -/
section
namespace Go.Proofs.YtmddpjlpbmfbgaaDoor
open Go.RowKit Go.Shelf
set_option linter.unusedSimpArgs false
set_option linter.unusedVariables false
attribute [local go_sem high] span_eq

theorem kn_run : runE (pT.take 2) [3, 5, 9] = ([5, 9, 3], 0) := by decide +kernel
theorem kn_dep : depE 4 [(0, 1), (2, 3)] = (1, 0) := by decide +kernel
theorem kn_t3 : testE 3 [(1, 2), (0, 1)] 1 = ([], 5) := by decide +kernel
theorem kn_t4 : testE 3 (pT.take 2) 1 = ([0, 0, 1], 0) := by decide +kernel
theorem kn_m : mergeE 4 [(0, 2), (1, 3), (1, 2)] 2 = ([], 5) := by decide +kernel
theorem kn_s : spaE 300 50 100 100 100 150 0 0 = (((100, 1), (400, 1)), 0) := by decide +kernel

def SK10 (b : Nat) (w' : World) : Prop := w'.cell? ⟨b, 0, none⟩ = some (.int .i64 100) ∧ w'.cell? ⟨b, 1, none⟩ = some (.int .i64 1) ∧ w'.cell? ⟨b, 2, none⟩ = some (.int .i64 400) ∧ w'.cell? ⟨b, 3, none⟩ = some (.int .i64 1)
structure K10 (w : World) (b : Nat) (A3 A9 : Option Addr) (W : World) : Prop where
  Bs : Cs W b #[.int .i64 100, .int .i64 1, .int .i64 400, .int .i64 1]
  h3 : Ints W A3 3 [5, 9, 3]
  h9 : Ints W A9 3 [0, 0, 1]
  hbw : Below w.heap.size w W
section
variable {w W V U : World} {b : Nat} {A3 A9 : Option Addr}
theorem K10.below (h : K10 w b A3 A9 W) (hb : Below W.heap.size W V) : K10 w b A3 A9 V := ⟨h.Bs.keep hb, h.h3.below hb, h.h9.below hb, bstep h.hbw hb⟩
theorem K10.alloc (h : K10 w b A3 A9 W) (x : _) : K10 w b A3 A9 (W.alloc x) := h.below (balloc (Below.refl _ _) _)
theorem SK10.drew (h : SK10 b W) : SK10 b W.drew := h
theorem K10.cells (h : K10 w b A3 A9 W) : SK10 b W := ⟨h.Bs.c 0, h.Bs.c 1, h.Bs.c 2, h.Bs.c 3⟩
end

set_option maxRecDepth 100000 in
set_option maxHeartbeats 16000000 in
theorem benchKnown_any (w : World) (hT : TabW w) : Calls Tryd.prog 10 #[] w fun e w' => e = .returned (.bool true) ∧ Below w.heap.size w w' := by
  have kw := fun W hT => works_any W hT
  have kr := fun A B c C W hz hy => run_any A B 3 c 2 C (pT.take 2) [3, 5, 9] W hz (by omega) hy (by omega)
  rw [kn_run] at kr
  have kd := fun A C W hz => depth_any 4 A 2 C [(0, 1), (2, 3)] W hz (by omega)
  rw [kn_dep] at kd
  have kt := fun A C W hz hC hT => test_any 3 A 2 C [(1, 2), (0, 1)] 1 W hz (by omega) hC hT
  rw [kn_t3] at kt
  have kt2 := fun A C W hz hC hT => test_any 3 A 2 C (pT.take 2) 1 W hz (by omega) hC hT
  rw [kn_t4] at kt2
  have km := fun A C W hz hC hT => merge_any 4 A 3 C [(0, 2), (1, 3), (1, 2)] 2 W hz (by omega) hC hT
  rw [kn_m] at km
  have ks := fun W => span_any 300 50 100 100 100 150 0 0 W
  rw [kn_s] at ks
  have kl := fun A B n c c' xs W hx hy hn => longs_any A B n n c c' xs xs W hx hy hn hn true (by simp)
  unfold RetLE at kr kt kt2 km
  dsimp only at kr kd kt kt2 km ks
  have HT := Lib.hid hT
  clear hT
  go_enter Tryd.func10, Tryd.ntmps10
  go_wp2_with fail
  refine wp_region_seq (S := fun _ => True) [.o 0 1, .t 1 3, .o 2 7, .o 3 15, .t 5 47, .o 4 63, .t 6 127] (by kernel_rfl) (by kernel_rfl) (by as_aux_lemma => kernel_rfl) (by kernel_rfl) (fun c a d v w h => by cases d <;> exact h) trivial (fun _ => ?_)
  refine seq_one rfl (fun K9 hS9 => ?_)
  go_simp
  refine (three_any _).mono ?_
  rintro _ w1 ⟨g, rfl, hP, hb1⟩
  replace hP : Prs w1 (some ⟨g, 0, none⟩) 3 pT := hP
  have hbw : Below w.heap.size w w1 := blA
  clear hb1
  refine hS9.out _ _ trivial (fun _ => ?_)
  clear hS9 K9
  try simp only [Act.put, List.setIfInBounds_toArray, List.set_cons_zero, List.set_cons_succ]
  refine seq_take (v := .slice (some ⟨g, 0, none⟩) 2 3) rfl (by rfl) ?_ ?_
  · intro w9 hSw; go_simp
  try simp only [Act.put, List.setIfInBounds_toArray, List.set_cons_zero, List.set_cons_succ]
  refine seq_one rfl (fun K9 hS9 => ?_)
  go_simp
  refine (pair_any _ _ _).mono ?_
  rintro _ w2 ⟨rfl, hb2⟩
  replace hP := hP.below hb2
  replace hbw : Below w.heap.size w w2 := blA
  clear hb2
  refine hS9.out _ _ trivial (fun _ => ?_)
  clear hS9 K9
  try simp only [Act.put, List.setIfInBounds_toArray, List.set_cons_zero, List.set_cons_succ]
  refine seq_one rfl (fun K9 hS9 => ?_)
  go_simp
  refine (pair_any _ _ _).mono ?_
  rintro _ w3 ⟨rfl, hb3⟩
  replace hP := hP.below hb3
  replace hbw : Below w.heap.size w w3 := blA
  clear hb3
  refine hS9.out _ _ trivial (fun _ => ?_)
  clear hS9 K9
  try simp only [Act.put, List.setIfInBounds_toArray, List.set_cons_zero, List.set_cons_succ]
  refine seq_take (v := .slice (some ⟨g, 0, none⟩) 2 3) rfl (by rfl) ?_ ?_
  · intro w9 hSw; go_simp
  try simp only [Act.put, List.setIfInBounds_toArray, List.set_cons_zero, List.set_cons_succ]
  refine seq_one rfl (fun K9 hS9 => ?_)
  go_simp
  refine hS9.out _ _ trivial (fun _ => ?_)
  clear hS9 K9
  try simp only [Act.put, List.setIfInBounds_toArray, List.set_cons_zero, List.set_cons_succ]
  refine seq_take (v := ?_) rfl (by rfl) ?_ ?_
  rotate_left
  · intro w9 hSw; (go_simp <;> with_reducible rfl)
  try simp only [Act.put, List.setIfInBounds_toArray, List.set_cons_zero, List.set_cons_succ]
  refine seq_done ?_
  have hQ : Prs (w3.alloc (.cells #[.int .i64 1, .int .i64 2, .int .i64 0, .int .i64 1] 52)) (some ⟨w3.heap.size, 0, none⟩) 2 [(1, 2), (0, 1)] := Prs.new2 _ _ _ _ _ _ _ rfl
  replace hP := hP.alloc (.cells #[.int .i64 1, .int .i64 2, .int .i64 0, .int .i64 1] 52)
  replace hbw : Below w.heap.size w (w3.alloc (.cells #[.int .i64 1, .int .i64 2, .int .i64 0, .int .i64 1] 52)) := blA
  generalize w3.alloc (.cells #[.int .i64 1, .int .i64 2, .int .i64 0, .int .i64 1] 52) = w4 at *
  go_wp2_with fail
  refine (kr _ _ _ _ _ ((hP.pre 2 (by omega)).alloc _) (Ints.new3 _ _ _ _ _ _ rfl)).mono ?_
  rintro _ w5 ⟨A3, n3, c3, rfl, h3, _, hb5⟩
  obtain rfl : n3 = 3 := h3.1.symm
  clear kr
  replace hP : Prs w5 (some ⟨g, 0, none⟩) 3 pT := Prs.below hP blA
  replace hQ : Prs w5 (some ⟨w3.heap.size, 0, none⟩) 2 [(1, 2), (0, 1)] := Prs.below hQ blA
  replace hbw : Below w.heap.size w w5 := blA
  clear hb5
  go_wp2_with fail
  refine (pair_any _ _ _).mono ?_
  rintro e w6 ⟨rfl, hb6⟩
  replace hP : Prs w6 (some ⟨g, 0, none⟩) 3 pT := Prs.below hP blA
  replace hQ : Prs w6 (some ⟨w3.heap.size, 0, none⟩) 2 [(1, 2), (0, 1)] := Prs.below hQ blA
  replace h3 : Ints w6 A3 3 [5, 9, 3] := Ints.below intsA hb6
  replace hbw : Below w.heap.size w w6 := blA
  clear hb6
  go_wp2_with fail
  refine (pair_any _ _ _).mono ?_
  rintro e w7 ⟨rfl, hb7⟩
  replace hP : Prs w7 (some ⟨g, 0, none⟩) 3 pT := Prs.below hP blA
  replace hQ : Prs w7 (some ⟨w3.heap.size, 0, none⟩) 2 [(1, 2), (0, 1)] := Prs.below hQ blA
  replace h3 : Ints w7 A3 3 [5, 9, 3] := Ints.below intsA hb7
  replace hbw : Below w.heap.size w w7 := blA
  clear hb7
  go_wp2_with fail
  refine (kd _ _ _ (Prs.new2 _ _ _ _ _ _ _ rfl)).mono ?_
  rintro _ w8 ⟨rfl, hb8⟩
  clear kd
  replace hP : Prs w8 (some ⟨g, 0, none⟩) 3 pT := Prs.below hP blA
  replace hQ : Prs w8 (some ⟨w3.heap.size, 0, none⟩) 2 [(1, 2), (0, 1)] := Prs.below hQ blA
  replace h3 : Ints w8 A3 3 [5, 9, 3] := Ints.below intsA hb8
  replace hbw : Below w.heap.size w w8 := blA
  clear hb8
  go_wp2_with fail
  refine (kt _ _ _ hQ (by omega) (HT.out.below hbw HT.out.1)).mono ?_
  rintro _ w9 ⟨A4, n4, c4, rfl, h4, _, hb9⟩
  obtain rfl : n4 = 0 := h4.1.symm
  clear kt h4
  try clear hQ
  replace hP : Prs w9 (some ⟨g, 0, none⟩) 3 pT := Prs.below hP blA
  replace h3 : Ints w9 A3 3 [5, 9, 3] := Ints.below intsA hb9
  replace hbw : Below w.heap.size w w9 := blA
  clear hb9
  go_wp2_with fail
  refine (kt2 _ _ _ (hP.pre 2 (by omega)) (by omega) (HT.out.below hbw HT.out.1)).mono ?_
  rintro _ w10 ⟨A9, n9, c9, rfl, h9, _, hb10⟩
  obtain rfl : n9 = 3 := h9.1.symm
  clear kt2
  try clear hP
  try clear hQ
  replace h3 : Ints w10 A3 3 [5, 9, 3] := Ints.below intsA hb10
  replace hbw : Below w.heap.size w w10 := blA
  clear hb10
  go_wp2_with fail
  refine (pair_any _ _ _).mono ?_
  rintro e w11 ⟨rfl, hb11⟩
  try clear hP
  try clear hQ
  replace h3 : Ints w11 A3 3 [5, 9, 3] := Ints.below intsA hb11
  replace h9 : Ints w11 A9 3 [0, 0, 1] := Ints.below intsA hb11
  replace hbw : Below w.heap.size w w11 := blA
  clear hb11
  go_wp2_with fail
  refine (pair_any _ _ _).mono ?_
  rintro e w12 ⟨rfl, hb12⟩
  try clear hP
  try clear hQ
  replace h3 : Ints w12 A3 3 [5, 9, 3] := Ints.below intsA hb12
  replace h9 : Ints w12 A9 3 [0, 0, 1] := Ints.below intsA hb12
  replace hbw : Below w.heap.size w w12 := blA
  clear hb12
  go_wp2_with fail
  refine (pair_any _ _ _).mono ?_
  rintro e w15 ⟨rfl, hb15⟩
  try clear hP
  try clear hQ
  replace h3 : Ints w15 A3 3 [5, 9, 3] := Ints.below intsA hb15
  replace h9 : Ints w15 A9 3 [0, 0, 1] := Ints.below intsA hb15
  replace hbw : Below w.heap.size w w15 := blA
  clear hb15
  go_wp2_with fail
  refine (km _ _ _ (Prs.new3 _ _ _ _ _ _ _ _ _ rfl) (by omega) (HT.out.below blA HT.out.1)).mono ?_
  rintro _ w13 ⟨A5, n5, c5, rfl, h5, _, hb13⟩
  obtain rfl : n5 = 0 := h5.1.symm
  clear km h5
  try clear hP
  try clear hQ
  replace h3 : Ints w13 A3 3 [5, 9, 3] := Ints.below intsA hb13
  replace h9 : Ints w13 A9 3 [0, 0, 1] := Ints.below intsA hb13
  replace hbw : Below w.heap.size w w13 := blA
  clear hb13
  go_wp2_with fail
  refine (bar_any _ _).mono ?_
  rintro e w16 ⟨rfl, hb16⟩
  try clear hP
  try clear hQ
  replace h3 : Ints w16 A3 3 [5, 9, 3] := Ints.below intsA hb16
  replace h9 : Ints w16 A9 3 [0, 0, 1] := Ints.below intsA hb16
  replace hbw : Below w.heap.size w w16 := blA
  clear hb16
  go_wp2_with fail
  refine (ks _).mono ?_
  rintro e w14 ⟨rfl, hb14⟩
  try clear hP
  try clear hQ
  replace h3 : Ints w14 A3 3 [5, 9, 3] := Ints.below intsA hb14
  replace h9 : Ints w14 A9 3 [0, 0, 1] := Ints.below intsA hb14
  replace hbw : Below w.heap.size w w14 := blA
  clear hb14
  clear ks
  go_wp2_with fail
  have hK : K10 w w14.heap.size A3 A9 (w14.alloc (.cells #[.int .i64 100, .int .i64 1, .int .i64 400, .int .i64 1] 71)) := ⟨csA, Ints.alloc h3 _, Ints.alloc h9 _, balloc hbw _⟩
  clear h3 h9 hbw
  -- BEGIN
  refine wp_region_seq (S := SK10 w14.heap.size) [.t 0 1, .t 1 3, .t 2 7, .t 3 15, .t 4 31, .t 5 63, .t 6 127, .t 7 255, .t 8 511, .t 9 1023, .t 10 2047, .t 11 4095, .t 12 8191, .t 13 16383, .t 14 32767, .t 15 65535, .t 16 131071, .t 17 262143, .t 18 524287, .t 19 1048575, .t 20 2097151, .t 21 4194303, .t 22 8388607, .t 23 16777215, .o 24 33554431, .o 25 67108863, .t 26 134217727, .t 27 268435455, .t 28 536870911, .t 29 1073741823, .t 30 2147483647, .t 31 4294967295, .t 32 8589934591, .o 33 17179869183, .o 34 34359738367, .t 35 68719476735, .t 36 137438953471, .t 37 274877906943, .o 38 549755813887, .o 39 1099511627775, .t 40 2199023255551, .t 41 4398046511103, .t 42 8796093022207, .t 43 17592186044415, .o 44 35184372088831, .t 45 70368744177663, .t 46 140737488355327] (by kernel_rfl) (by kernel_rfl) (by as_aux_lemma => kernel_rfl) (by kernel_rfl) (fun c a d v w h => by cases d <;> exact h) (SK10.drew hK.cells) (fun hHeld => ?_)
  clear hHeld
  refine seq_take (v := ?_) rfl (by rfl) ?_ ?_
  rotate_left
  · intro w9 hSw; (unfold SK10 at hSw); (go_simp <;> with_reducible rfl)
  try simp only [Act.put, List.setIfInBounds_toArray, List.set_cons_zero, List.set_cons_succ]
  refine seq_take (v := ?_) rfl (by rfl) ?_ ?_
  rotate_left
  · intro w9 hSw; (unfold SK10 at hSw); (go_simp <;> with_reducible rfl)
  try simp only [Act.put, List.setIfInBounds_toArray, List.set_cons_zero, List.set_cons_succ]
  refine seq_take (v := ?_) rfl (by rfl) ?_ ?_
  rotate_left
  · intro w9 hSw; (unfold SK10 at hSw); (go_simp <;> with_reducible rfl)
  try simp only [Act.put, List.setIfInBounds_toArray, List.set_cons_zero, List.set_cons_succ]
  refine seq_take (v := ?_) rfl (by rfl) ?_ ?_
  rotate_left
  · intro w9 hSw; (unfold SK10 at hSw); (go_simp <;> with_reducible rfl)
  try simp only [Act.put, List.setIfInBounds_toArray, List.set_cons_zero, List.set_cons_succ]
  refine seq_take (v := ?_) rfl (by rfl) ?_ ?_
  rotate_left
  · intro w9 hSw; (unfold SK10 at hSw); (go_simp <;> with_reducible rfl)
  try simp only [Act.put, List.setIfInBounds_toArray, List.set_cons_zero, List.set_cons_succ]
  refine seq_take (v := ?_) rfl (by rfl) ?_ ?_
  rotate_left
  · intro w9 hSw; (unfold SK10 at hSw); (go_simp <;> with_reducible rfl)
  try simp only [Act.put, List.setIfInBounds_toArray, List.set_cons_zero, List.set_cons_succ]
  refine seq_take (v := ?_) rfl (by rfl) ?_ ?_
  rotate_left
  · intro w9 hSw; (unfold SK10 at hSw); (go_simp <;> with_reducible rfl)
  try simp only [Act.put, List.setIfInBounds_toArray, List.set_cons_zero, List.set_cons_succ]
  refine seq_take (v := ?_) rfl (by rfl) ?_ ?_
  rotate_left
  · intro w9 hSw; (unfold SK10 at hSw); (go_simp <;> with_reducible rfl)
  try simp only [Act.put, List.setIfInBounds_toArray, List.set_cons_zero, List.set_cons_succ]
  refine seq_take (v := ?_) rfl (by rfl) ?_ ?_
  rotate_left
  · intro w9 hSw; (unfold SK10 at hSw); (go_simp <;> with_reducible rfl)
  try simp only [Act.put, List.setIfInBounds_toArray, List.set_cons_zero, List.set_cons_succ]
  refine seq_take (v := ?_) rfl (by rfl) ?_ ?_
  rotate_left
  · intro w9 hSw; (unfold SK10 at hSw); (go_simp <;> with_reducible rfl)
  try simp only [Act.put, List.setIfInBounds_toArray, List.set_cons_zero, List.set_cons_succ]
  refine seq_take (v := ?_) rfl (by rfl) ?_ ?_
  rotate_left
  · intro w9 hSw; (unfold SK10 at hSw); (go_simp <;> with_reducible rfl)
  try simp only [Act.put, List.setIfInBounds_toArray, List.set_cons_zero, List.set_cons_succ]
  refine seq_take (v := ?_) rfl (by rfl) ?_ ?_
  rotate_left
  · intro w9 hSw; (unfold SK10 at hSw); (go_simp <;> with_reducible rfl)
  try simp only [Act.put, List.setIfInBounds_toArray, List.set_cons_zero, List.set_cons_succ]
  refine seq_take (v := ?_) rfl (by rfl) ?_ ?_
  rotate_left
  · intro w9 hSw; (unfold SK10 at hSw); (go_simp <;> with_reducible rfl)
  try simp only [Act.put, List.setIfInBounds_toArray, List.set_cons_zero, List.set_cons_succ]
  refine seq_take (v := ?_) rfl (by rfl) ?_ ?_
  rotate_left
  · intro w9 hSw; (unfold SK10 at hSw); (go_simp <;> with_reducible rfl)
  try simp only [Act.put, List.setIfInBounds_toArray, List.set_cons_zero, List.set_cons_succ]
  refine seq_take (v := ?_) rfl (by rfl) ?_ ?_
  rotate_left
  · intro w9 hSw; (unfold SK10 at hSw); (go_simp <;> with_reducible rfl)
  try simp only [Act.put, List.setIfInBounds_toArray, List.set_cons_zero, List.set_cons_succ]
  refine seq_take (v := ?_) rfl (by rfl) ?_ ?_
  rotate_left
  · intro w9 hSw; (unfold SK10 at hSw); (go_simp <;> with_reducible rfl)
  try simp only [Act.put, List.setIfInBounds_toArray, List.set_cons_zero, List.set_cons_succ]
  refine seq_take (v := ?_) rfl (by rfl) ?_ ?_
  rotate_left
  · intro w9 hSw; (unfold SK10 at hSw); (go_simp <;> with_reducible rfl)
  try simp only [Act.put, List.setIfInBounds_toArray, List.set_cons_zero, List.set_cons_succ]
  refine seq_take (v := ?_) rfl (by rfl) ?_ ?_
  rotate_left
  · intro w9 hSw; (unfold SK10 at hSw); (go_simp <;> with_reducible rfl)
  try simp only [Act.put, List.setIfInBounds_toArray, List.set_cons_zero, List.set_cons_succ]
  refine seq_take (v := ?_) rfl (by rfl) ?_ ?_
  rotate_left
  · intro w9 hSw; (unfold SK10 at hSw); (go_simp <;> with_reducible rfl)
  try simp only [Act.put, List.setIfInBounds_toArray, List.set_cons_zero, List.set_cons_succ]
  refine seq_take (v := ?_) rfl (by rfl) ?_ ?_
  rotate_left
  · intro w9 hSw; (unfold SK10 at hSw); (go_simp <;> with_reducible rfl)
  try simp only [Act.put, List.setIfInBounds_toArray, List.set_cons_zero, List.set_cons_succ]
  refine seq_take (v := ?_) rfl (by rfl) ?_ ?_
  rotate_left
  · intro w9 hSw; (unfold SK10 at hSw); (go_simp <;> with_reducible rfl)
  try simp only [Act.put, List.setIfInBounds_toArray, List.set_cons_zero, List.set_cons_succ]
  refine seq_take (v := ?_) rfl (by rfl) ?_ ?_
  rotate_left
  · intro w9 hSw; (unfold SK10 at hSw); (go_simp <;> with_reducible rfl)
  try simp only [Act.put, List.setIfInBounds_toArray, List.set_cons_zero, List.set_cons_succ]
  refine seq_take (v := ?_) rfl (by rfl) ?_ ?_
  rotate_left
  · intro w9 hSw; (unfold SK10 at hSw); (go_simp <;> with_reducible rfl)
  try simp only [Act.put, List.setIfInBounds_toArray, List.set_cons_zero, List.set_cons_succ]
  refine seq_take (v := ?_) rfl (by rfl) ?_ ?_
  rotate_left
  · intro w9 hSw; (unfold SK10 at hSw); (go_simp <;> with_reducible rfl)
  try simp only [Act.put, List.setIfInBounds_toArray, List.set_cons_zero, List.set_cons_succ]
  refine seq_one rfl (fun K9 hS9 => ?_)
  go_simp
  refine hS9.out _ _ (by first | with_reducible exact (hK.alloc _).cells | with_reducible exact SK10.drew (hK.alloc _).cells | exact (hK.below (by as_aux_lemma => exact blA)).cells) (fun hHeld => ?_)
  clear hS9 K9 hHeld
  try simp only [Act.put, List.setIfInBounds_toArray, List.set_cons_zero, List.set_cons_succ]
  refine seq_one rfl (fun K9 hS9 => ?_)
  go_simp
  refine (kl _ _ _ _ _ _ _ (Ints.below hK.h3 blA) (by first | exact Ints.new3 _ _ _ _ _ _ (by simp) | exact Ints.drew (Ints.new3 _ _ _ _ _ _ (by simp))) (by omega)).mono ?_
  rintro e w40 ⟨rfl, hb40⟩
  replace hK := (hK.below (by as_aux_lemma => exact blA)).below hb40
  clear hb40
  refine hS9.out _ _ hK.cells (fun hHeld => ?_)
  clear hS9 K9 hHeld
  try simp only [Act.put, List.setIfInBounds_toArray, List.set_cons_zero, List.set_cons_succ]
  refine seq_take (v := ?_) rfl (by rfl) ?_ ?_
  rotate_left
  · intro w9 hSw; (unfold SK10 at hSw); (go_simp <;> with_reducible rfl)
  try simp only [Act.put, List.setIfInBounds_toArray, List.set_cons_zero, List.set_cons_succ]
  refine seq_take (v := ?_) rfl (by rfl) ?_ ?_
  rotate_left
  · intro w9 hSw; (unfold SK10 at hSw); (go_simp <;> with_reducible rfl)
  try simp only [Act.put, List.setIfInBounds_toArray, List.set_cons_zero, List.set_cons_succ]
  refine seq_take (v := ?_) rfl (by rfl) ?_ ?_
  rotate_left
  · intro w9 hSw; (unfold SK10 at hSw); (go_simp <;> with_reducible rfl)
  try simp only [Act.put, List.setIfInBounds_toArray, List.set_cons_zero, List.set_cons_succ]
  refine seq_take (v := ?_) rfl (by rfl) ?_ ?_
  rotate_left
  · intro w9 hSw; (unfold SK10 at hSw); (go_simp <;> with_reducible rfl)
  try simp only [Act.put, List.setIfInBounds_toArray, List.set_cons_zero, List.set_cons_succ]
  refine seq_take (v := ?_) rfl (by rfl) ?_ ?_
  rotate_left
  · intro w9 hSw; (unfold SK10 at hSw); (go_simp <;> with_reducible rfl)
  try simp only [Act.put, List.setIfInBounds_toArray, List.set_cons_zero, List.set_cons_succ]
  refine seq_take (v := ?_) rfl (by rfl) ?_ ?_
  rotate_left
  · intro w9 hSw; (unfold SK10 at hSw); (go_simp <;> with_reducible rfl)
  try simp only [Act.put, List.setIfInBounds_toArray, List.set_cons_zero, List.set_cons_succ]
  refine seq_take (v := ?_) rfl (by rfl) ?_ ?_
  rotate_left
  · intro w9 hSw; (unfold SK10 at hSw); (go_simp <;> with_reducible rfl)
  try simp only [Act.put, List.setIfInBounds_toArray, List.set_cons_zero, List.set_cons_succ]
  refine seq_one rfl (fun K9 hS9 => ?_)
  go_simp
  refine hS9.out _ _ (by first | with_reducible exact (hK.alloc _).cells | with_reducible exact SK10.drew (hK.alloc _).cells | exact (hK.below (by as_aux_lemma => exact blA)).cells) (fun hHeld => ?_)
  clear hS9 K9 hHeld
  try simp only [Act.put, List.setIfInBounds_toArray, List.set_cons_zero, List.set_cons_succ]
  refine seq_one rfl (fun K9 hS9 => ?_)
  go_simp
  refine (kl _ _ _ _ _ _ _ (Ints.below hK.h9 blA) (by first | exact Ints.new3 _ _ _ _ _ _ (by simp) | exact Ints.drew (Ints.new3 _ _ _ _ _ _ (by simp))) (by omega)).mono ?_
  rintro e w41 ⟨rfl, hb41⟩
  replace hK := (hK.below (by as_aux_lemma => exact blA)).below hb41
  clear hb41
  refine hS9.out _ _ hK.cells (fun hHeld => ?_)
  clear hS9 K9 hHeld
  try simp only [Act.put, List.setIfInBounds_toArray, List.set_cons_zero, List.set_cons_succ]
  refine seq_take (v := ?_) rfl (by rfl) ?_ ?_
  rotate_left
  · intro w9 hSw; (unfold SK10 at hSw); (go_simp <;> with_reducible rfl)
  try simp only [Act.put, List.setIfInBounds_toArray, List.set_cons_zero, List.set_cons_succ]
  refine seq_take (v := ?_) rfl (by rfl) ?_ ?_
  rotate_left
  · intro w9 hSw; (unfold SK10 at hSw); (go_simp <;> with_reducible rfl)
  try simp only [Act.put, List.setIfInBounds_toArray, List.set_cons_zero, List.set_cons_succ]
  refine seq_take (v := .agg #[.int .i64 100, .int .i64 1, .int .i64 400, .int .i64 1]) rfl (by rfl) ?_ ?_
  · intro w9 hSw; (unfold SK10 at hSw); go_simp
  try simp only [Act.put, List.setIfInBounds_toArray, List.set_cons_zero, List.set_cons_succ]
  refine seq_one rfl (fun K9 hS9 => ?_)
  go_simp
  refine (whole_any _ _).mono ?_
  rintro e w42 ⟨rfl, hb42⟩
  replace hK := (hK.below (by as_aux_lemma => exact blA)).below hb42
  clear hb42
  refine hS9.out _ _ hK.cells (fun hHeld => ?_)
  clear hS9 K9 hHeld
  try simp only [Act.put, List.setIfInBounds_toArray, List.set_cons_zero, List.set_cons_succ]
  refine seq_one rfl (fun K9 hS9 => ?_)
  go_simp
  refine (whole_any _ _).mono ?_
  rintro e w43 ⟨rfl, hb43⟩
  replace hK := (hK.below (by as_aux_lemma => exact blA)).below hb43
  clear hb43
  refine hS9.out _ _ hK.cells (fun hHeld => ?_)
  clear hS9 K9 hHeld
  try simp only [Act.put, List.setIfInBounds_toArray, List.set_cons_zero, List.set_cons_succ]
  refine seq_take (v := .agg #[.int .i64 100, .int .i64 1, .int .i64 400, .int .i64 1]) rfl (by rfl) ?_ ?_
  · intro w9 hSw; (unfold SK10 at hSw); go_simp
  try simp only [Act.put, List.setIfInBounds_toArray, List.set_cons_zero, List.set_cons_succ]
  refine seq_take (v := .bool true) rfl (by rfl) ?_ ?_
  · intro w9 hSw; (unfold SK10 at hSw); go_simp
  try simp only [Act.put, List.setIfInBounds_toArray, List.set_cons_zero, List.set_cons_succ]
  refine seq_take (v := ?_) rfl (by rfl) ?_ ?_
  rotate_left
  · intro w9 hSw; (unfold SK10 at hSw); (go_simp <;> with_reducible rfl)
  try simp only [Act.put, List.setIfInBounds_toArray, List.set_cons_zero, List.set_cons_succ]
  refine seq_take (v := ?_) rfl (by rfl) ?_ ?_
  rotate_left
  · intro w9 hSw; (unfold SK10 at hSw); (go_simp <;> with_reducible rfl)
  try simp only [Act.put, List.setIfInBounds_toArray, List.set_cons_zero, List.set_cons_succ]
  refine seq_one rfl (fun K9 hS9 => ?_)
  go_simp
  refine (kw _ (HT.out.below hK.hbw HT.out.1)).mono ?_
  rintro e w44 ⟨rfl, hb44⟩
  replace hK := (hK.below (by as_aux_lemma => exact blA)).below hb44
  clear hb44
  refine hS9.out _ _ hK.cells (fun hHeld => ?_)
  clear hS9 K9 hHeld
  try simp only [Act.put, List.setIfInBounds_toArray, List.set_cons_zero, List.set_cons_succ]
  refine seq_take (v := ?_) rfl (by rfl) ?_ ?_
  rotate_left
  · intro w9 hSw; (unfold SK10 at hSw); (go_simp <;> with_reducible rfl)
  try simp only [Act.put, List.setIfInBounds_toArray, List.set_cons_zero, List.set_cons_succ]
  refine seq_take (v := ?_) rfl (by rfl) ?_ ?_
  rotate_left
  · intro w9 hSw; (unfold SK10 at hSw); (go_simp <;> with_reducible rfl)
  try simp only [Act.put, List.setIfInBounds_toArray, List.set_cons_zero, List.set_cons_succ]
  refine seq_done ?_
  go_wp2_with fail
  go_ret
  exact ⟨rfl, hK.hbw⟩
  -- END

end Go.Proofs.YtmddpjlpbmfbgaaDoor
end

/- BenchKnown: the call answers true, whatever the input, and every argument reads as it did. Conditions: none of its own; the listed variable is tied to the program's text by the given tie. -/
section
namespace Go.Proofs.YtmddpjlpbmfbgaaDoor
open Go.ChangeShapes Go.WideShapes Go.ChangeAt Go.RowKit
set_option linter.unusedVariables false

theorem benchKnown_params : (Tryd.f10.params.toList.all fun t => Tryd.prog.readableRec t && decide (t < Tryd.prog.types.size)) = true := by kernel_rfl

set_option maxRecDepth 100000 in
/-- the walk, for each argument that there is and each world that holds the listed variable -/
theorem benchKnown_contract (H : Type) (enc : TypeId × Value → H) (W : World) (base : Nat) (args : Array Value) (ds gs : List (DataW H)) (before : List MemPlace)
    (hval : ∀ (j : Nat) t v, Tryd.f10.params[j]? = some t → args[j]? = some v → Value.okWide Tryd.prog W .any base t v)
    (hW : DataW.Whole enc Tryd.prog Tryd.f10.params.toList Rows.benchKnownSpec.vars false W args.toList ds gs before) (hL : laidMetH Tryd.prog Rows.benchKnownRow.laid W) :
    Calls Tryd.prog 10 args W fun e W' => ∃ v, e = .returned v ∧ Rows.benchKnownSpec.post enc Tryd.prog Tryd.f10 false true false false W args v W' := by
  have hW' := hW
  obtain ⟨p, q, hA0, hV, hps, hfz, hnd⟩ := hW
  have hA : DataW.TrodAll enc Tryd.prog W 0 (fun _ => true) true Tryd.f10.params.toList args.toList ds p := hA0
  rw [Tryd.params10] at hA hval
  obtain ⟨rfl, rfl, rfl⟩ := trodAll_none_ hA
  have hf := tabAt hL
  
  clear hA0
  refine (benchKnown_any W hf).mono fun e W' ⟨he, hb⟩ => ?_
  subst he
  exact ⟨_, rfl, law_done laidOut rfl (fun t ht => by have := List.all_eq_true.1 benchKnown_params t ht; simpa using this) (by kernel_rfl) Tryd.underlying4 hW' (fun h => by subst h; rfl) (fun h => by subst h; rfl) (fun h => by subst h; rfl) hb⟩

theorem benchKnown_laid_met (os : Os) : laidMet Tryd.prog Rows.benchKnownRow.laid ((laidWorld os).forCall (fun _ _ => 0) ⟨#[], #[], []⟩).memory :=
  laidMet_of_run' 8 (by kernel_rfl) (by kernel_rfl)
theorem benchKnown_reads (os : Os) {H : Type} (enc : TypeId × Value → H) : ∃ places, DataW.whole enc Tryd.prog ((laidWorld os).forCall (fun _ _ => 0) ⟨#[], #[], []⟩).memory Tryd.f10.params.toList Rows.benchKnownSpec.vars false (#[] : Array Value).toList 8 = some ([], [], places) :=
  ⟨[], by kernel_rfl⟩

set_option maxRecDepth 100000 in
theorem benchKnown_lifted (os : Os) (started : os.Started) (H : Type) (enc : TypeId × Value → H) (F : Stop.Interp) :
    ReturnsInHanded {} Tryd.checked os 10 .any ((OpenSpec.ofChange Rows.benchKnownSpec).preRow enc Tryd.prog Tryd.f10 Rows.benchKnownRow.domain false Rows.benchKnownRow.laid) (((OpenSpec.ofChange Rows.benchKnownSpec).at F).post enc Tryd.prog Tryd.f10 false true false false) := by
  obtain ⟨places, hx⟩ := benchKnown_reads os enc
  refine returnsInHanded_of_row (C := Tryd.checked) (s := OpenSpec.ofChange Rows.benchKnownSpec) own started (by kernel_rfl) Tryd.func10
    (witness_row_at (enc := enc) (C := Tryd.checked) false (laidWorld os) #[] rfl (by kernel_rfl) (by kernel_rfl) (by kernel_rfl)
      (OpenSpec.preRow_of_cond 8 hx (by kernel_rfl) (fun k hk => by cases hk) (by kernel_rfl) (benchKnown_laid_met os))) ?_
  intro W base args ds gs before hval hW _ _ _ hL _ _
  exact benchKnown_contract H enc W base args ds gs before hval hW hL

theorem benchKnown_said : Rows.BenchKnownSaid :=
  OpenClaim.holds_of_cond 10 Tryd.f10 rfl rfl rfl rfl rfl rfl rfl ⟨rfl, rfl, rfl, rfl, rfl⟩ rfl rfl rfl rfl rfl (by kernel_rfl) Tryd.func10 (by kernel_rfl)
    (of_decide_eq_true (by kernel_rfl)) (by unfold Func.isWrapper; first | (rw [if_pos (by decide +kernel)]; kernel_rfl) | (rw [if_neg (by decide +kernel)]; exact ⟨rfl, rfl⟩))
    (fun os started H enc _ F => by rw [OpenClaim.pre_eq_preRow]; exact benchKnown_lifted os started H enc F)

theorem benchKnown_plain (f : FuncId) (fn : Func) (hf : Tryd.pinned.checked.prog.funcNamed Rows.benchKnownRow.func = some f) (hfn : Tryd.pinned.checked.prog.funcs[f]? = some fn) :
    false = Tryd.pinned.checked.prog.looks [] ∧ ∀ (j : Nat) t, fn.params[j]? = some t → Tryd.pinned.checked.prog.wantsStandIn t = false := by
  obtain rfl : f = 10 := Option.some.inj ((show Tryd.prog.funcNamed Rows.benchKnownRow.func = some 10 by kernel_rfl).symm.trans hf) |>.symm
  obtain rfl : fn = Tryd.f10 := (Option.some.inj (Tryd.func10.symm.trans hfn)).symm
  refine ⟨by kernel_rfl, fun j t ht => ?_⟩
  have hall : (Tryd.f10.params.toList.all fun u => !Tryd.prog.wantsStandIn u) = true := by kernel_rfl
  have hm : t ∈ Tryd.f10.params.toList := by simpa using Array.mem_of_getElem? ht
  exact (show Tryd.prog.wantsStandIn t = false by simpa using List.all_eq_true.1 hall t hm)

/-- BenchKnown, the card -/
theorem benchKnown_card : Rows.BenchKnownCardSaid :=
  Claim7.holds_tied_plain_at .later [] _ _ _ _ benchKnown_said (fun _ h => by cases h) (by kernel_rfl) (fun _ h => by cases h) benchKnown_row_tie rfl ⟨rfl, rfl⟩ (by kernel_rfl) rfl benchKnown_plain (by kernel_rfl)
#print axioms benchKnown_card
end Go.Proofs.YtmddpjlpbmfbgaaDoor
end
