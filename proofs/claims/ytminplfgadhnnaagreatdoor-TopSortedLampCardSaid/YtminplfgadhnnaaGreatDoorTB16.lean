/- BE1 BE2 -/
import Derived.Test.YtminplfgadhnnaaGreatDoorTB14
import Derived.Test.YtminplfgadhnnaaGreatDoorTB15
import Derived.Test.YtminplfgadhnnaaGreatDoorTB05
import Derived.Test.YtminplfgadhnnaaGreatDoorTB01
import Derived.Deep.RegionHeld3
/- Walks of the law package of layer 2: Pair, Three, Bar, whole. -/
section
namespace Go.Proofs.YtminplfgadhnnaaGreatDoor
open Go.RowKit Go.Shelf
set_option linter.unusedSimpArgs false
set_option linter.unusedVariables false
open Bm (Pr)

theorem pair_any (x y : Int) (w : World) : Calls Tryz.prog 73 #[.int .i64 x, .int .i64 y] w fun e w' => e = .returned (.agg #[.int .i64 x, .int .i64 y]) ∧ Below w.heap.size w w' := by
  go_enter Tryz.func73, Tryz.ntmps73
  go_wp2_with fail
  exact bodyPost_ret (v := .agg #[.int .i64 x, .int .i64 y]) (by simp [results, Tryz.results73, go_sem]) rfl ⟨rfl, blA⟩
theorem whole_any (x : Int) (w : World) : Calls Tryz.prog 81 #[.int .i64 x] w fun e w' => e = .returned (.agg #[.int .i64 x, .int .i64 1]) ∧ Below w.heap.size w w' := by
  go_enter Tryz.func81, Tryz.ntmps81
  go_wp2_with fail
  exact bodyPost_ret (v := .agg #[.int .i64 x, .int .i64 1]) (by simp [results, Tryz.results81, go_sem]) rfl ⟨rfl, blA⟩
theorem bar_any (x : Int) (w : World) : Calls Tryz.prog 76 #[.int .i64 x] w fun e w' => e = .returned (.agg #[.int .i64 300, .int .i64 50, .int .i64 100, .int .i64 100, .int .i64 100, .int .i64 150, .int .i64 0, .int .i64 x]) ∧ Below w.heap.size w w' := by
  go_enter Tryz.func76, Tryz.ntmps76
  go_wp2_with fail
  exact bodyPost_ret (v := .agg #[.int .i64 300, .int .i64 50, .int .i64 100, .int .i64 100, .int .i64 100, .int .i64 150, .int .i64 0, .int .i64 x]) (by simp [results, Tryz.results76, go_sem]) rfl ⟨rfl, blA⟩

theorem Prs.new3 (w : World) (H : Nat) (a b c d e f : Int) (t : TypeId) (hH : w.heap.size = H) : Prs (w.alloc (.cells #[.int .i64 a, .int .i64 b, .int .i64 c, .int .i64 d, .int .i64 e, .int .i64 f] t)) (some ⟨H, 0, none⟩) 3 [(a, b), (c, d), (e, f)] := by
  refine ⟨rfl, fun _ => ⟨H, 0, rfl, by simp; omega, fun i x y h => ?_⟩⟩
  have C := (Cs.new w H #[.int .i64 a, .int .i64 b, .int .i64 c, .int .i64 d, .int .i64 e, .int .i64 f] t hH).c
  match i, h with
  | 0, h => simp at h; obtain ⟨rfl, rfl⟩ := h; exact ⟨C 0, C 1⟩
  | 1, h => simp at h; obtain ⟨rfl, rfl⟩ := h; exact ⟨C 2, C 3⟩
  | 2, h => simp at h; obtain ⟨rfl, rfl⟩ := h; exact ⟨C 4, C 5⟩
  | i + 3, h => simp at h
theorem Prs.new2 (w : World) (H : Nat) (a b c d : Int) (t : TypeId) (hH : w.heap.size = H) : Prs (w.alloc (.cells #[.int .i64 a, .int .i64 b, .int .i64 c, .int .i64 d] t)) (some ⟨H, 0, none⟩) 2 [(a, b), (c, d)] := by
  refine ⟨rfl, fun _ => ⟨H, 0, rfl, by simp; omega, fun i x y h => ?_⟩⟩
  have C := (Cs.new w H #[.int .i64 a, .int .i64 b, .int .i64 c, .int .i64 d] t hH).c
  match i, h with
  | 0, h => simp at h; obtain ⟨rfl, rfl⟩ := h; exact ⟨C 0, C 1⟩
  | 1, h => simp at h; obtain ⟨rfl, rfl⟩ := h; exact ⟨C 2, C 3⟩
  | i + 2, h => simp at h

theorem three_any (w : World) : Calls Tryz.prog 69 #[] w fun e w' => ∃ g, e = .returned (.slice (some ⟨g, 0, none⟩) 3 3) ∧ Prs w' (some ⟨g, 0, none⟩) 3 [(0, 1), (1, 2), (0, 1)] ∧ Below w.heap.size w w' := by
  go_enter Tryz.func69, Tryz.ntmps69
  go_wp2_with fail
  refine (pair_any _ _ _).mono ?_
  rintro e w1 ⟨rfl, hb1⟩
  replace hbw : Below w.heap.size w w1 := blA
  clear hb1
  go_wp2_with fail
  refine (pair_any _ _ _).mono ?_
  rintro e w2 ⟨rfl, hb2⟩
  replace hbw : Below w.heap.size w w2 := blA
  clear hb2
  go_wp2_with fail
  refine (pair_any _ _ _).mono ?_
  rintro e w3 ⟨rfl, hb3⟩
  replace hbw : Below w.heap.size w w3 := blA
  clear hb3
  go_wp2_with fail
  go_ret
  exact ⟨_, rfl, Prs.new3 _ _ _ _ _ _ _ _ _ rfl, blA⟩

theorem span_eq (a b c d a' b' c' d' : Int) (w : World) : (Op.equalIn 10000 70 (.agg #[.int .i64 a, .int .i64 b, .int .i64 c, .int .i64 d]) (.agg #[.int .i64 a', .int .i64 b', .int .i64 c', .int .i64 d'])).run Tryz.prog w = .ok (a == a' && (b == b' && (c == c' && d == d'))) w := by
  simp [go_sem]
  by_cases h1 : a = a' <;> by_cases h2 : b = b' <;> by_cases h3 : c = c' <;> by_cases h4 : d = d' <;> simp [h1, h2, h3, h4]

end Go.Proofs.YtminplfgadhnnaaGreatDoor
end

/- The walk of the examples of the law package of layer 2: they hold. -/
section
namespace Go.Proofs.YtminplfgadhnnaaGreatDoor
open Go.RowKit Go.Shelf
set_option linter.unusedSimpArgs false
set_option linter.unusedVariables false
open Bm (Pr buildL)

def pT : List (Int × Int) := [(0, 1), (1, 2), (0, 1)]
theorem ex_run : runE pT [3, 9, 5] = ([9, 5, 3], 0) := by decide +kernel
theorem ex_dep : depE 3 pT = (3, 0) := by decide +kernel
theorem ex_test : testE 3 pT 3 = ([], 5) := by decide +kernel
theorem ex_test2 : testE 3 (pT.take 2) 3 = ([0, 0, 1], 0) := by decide +kernel
theorem ex_merge : mergeE 4 [(0, 2), (1, 3)] 2 = ([1, 0, 1, 0], 0) := by decide +kernel
theorem ex_use : useE 3 [(0, 1), (0, 1), (1, 2)] = ([1], 0) := by decide +kernel
theorem ex_plc : placesE [(10, 12), (11, 15), (20, 20)] = ([(1, 2), (1, 2), (0, 0)], 0) := by decide +kernel
theorem ex_spa : spaE 300 50 100 100 100 150 0 1000 = (((155, 2), (400, 1)), 0) := by decide +kernel
theorem ex_build : testE 4 (cst (buildL 4)) 4 = ([], 5) := by decide +kernel

theorem Ints.new4 (w : World) (H : Nat) (x y z u : Int) (t : TypeId) (hH : w.heap.size = H) : Ints (w.alloc (.cells #[.int .i64 x, .int .i64 y, .int .i64 z, .int .i64 u] t)) (some ⟨H, 0, none⟩) 4 [x, y, z, u] := Ints.new w H [x, y, z, u] t hH
theorem Ints.new3 (w : World) (H : Nat) (x y z : Int) (t : TypeId) (hH : w.heap.size = H) : Ints (w.alloc (.cells #[.int .i64 x, .int .i64 y, .int .i64 z] t)) (some ⟨H, 0, none⟩) 3 [x, y, z] := Ints.new w H [x, y, z] t hH

attribute [local go_sem high] span_eq

def SW (b : Nat) (w' : World) : Prop := w'.cell? ⟨b, 0, none⟩ = some (.int .i64 155) ∧ w'.cell? ⟨b, 1, none⟩ = some (.int .i64 2) ∧ w'.cell? ⟨b, 2, none⟩ = some (.int .i64 400) ∧ w'.cell? ⟨b, 3, none⟩ = some (.int .i64 1)
structure Kp (w : World) (b : Nat) (A2 A5 A8 A12 A13 : Option Addr) (W : World) : Prop where
  Bs : Cs W b #[.int .i64 155, .int .i64 2, .int .i64 400, .int .i64 1]
  h2 : Ints W A2 3 [9, 5, 3]
  h5 : Ints W A5 3 [0, 0, 1]
  h8 : Ints W A8 4 [1, 0, 1, 0]
  h12 : Ints W A12 1 [1]
  h13 : Prs W A13 3 [(1, 2), (1, 2), (0, 0)]
  hbw : Below w.heap.size w W
section
variable {w W V U : World} {b : Nat} {A2 A5 A8 A12 A13 : Option Addr}
theorem Kp.below (h : Kp w b A2 A5 A8 A12 A13 W) (hb : Below W.heap.size W V) : Kp w b A2 A5 A8 A12 A13 V :=
  ⟨h.Bs.keep hb, h.h2.below hb, h.h5.below hb, h.h8.below hb, h.h12.below hb, h.h13.below hb, bstep h.hbw hb⟩
theorem Kp.step (h : Kp w b A2 A5 A8 A12 A13 W) (h1 : Below W.heap.size W V) (h2 : Below V.heap.size V U) : Kp w b A2 A5 A8 A12 A13 U := (h.below h1).below h2
theorem Kp.alloc (h : Kp w b A2 A5 A8 A12 A13 W) (x : _) : Kp w b A2 A5 A8 A12 A13 (W.alloc x) := h.below (balloc (Below.refl _ _) _)
theorem SW.drew (h : SW b W) : SW b W.drew := h
theorem Kp.cells (h : Kp w b A2 A5 A8 A12 A13 W) : SW b W := ⟨h.Bs.c 0, h.Bs.c 1, h.Bs.c 2, h.Bs.c 3⟩
end

set_option maxRecDepth 100000 in
set_option maxHeartbeats 16000000 in
theorem works_any (w : World) (hT : TabW w) : Calls Tryz.prog 32 #[] w fun e w' => e = .returned (.bool true) ∧ Below w.heap.size w w' := by
  have kr := fun A B c C W hz hy => run_any A B 3 c 3 C pT [3, 9, 5] W hz (by omega) hy (by omega)
  rw [ex_run] at kr
  have kd := fun A C W hz => depth_any 3 A 3 C pT W hz (by omega)
  rw [ex_dep] at kd
  have kt := fun A C W hz hC hT => test_any 3 A 3 C pT 3 W hz (by omega) hC hT
  rw [ex_test] at kt
  have kt2 := fun A C W hz hC hT => test_any 3 A 2 C (pT.take 2) 3 W hz (by omega) hC hT
  rw [ex_test2] at kt2
  have km := fun A C W hz hC hT => merge_any 4 A 2 C [(0, 2), (1, 3)] 2 W hz (by omega) hC hT
  rw [ex_merge] at km
  have ku := fun A C W hz hC => useless_any 3 A 3 C [(0, 1), (0, 1), (1, 2)] W hz (by omega) hC
  rw [ex_use] at ku
  have kp := fun A C W hz => places_any A 3 C [(10, 12), (11, 15), (20, 20)] W hz (by omega)
  rw [ex_plc] at kp
  have ks := fun W => span_any 300 50 100 100 100 150 0 1000 W
  rw [ex_spa] at ks
  have kb := fun W => build_ok 4 W (by omega) (by omega)
  have kx := fun A n C W hz hn => rtest_any 4 A n C (cst (buildL 4)) 4 W hz hn
  rw [ex_build] at kx
  have kl := fun A B n c c' xs W hx hy hn => longs_any A B n n c c' xs xs W hx hy hn hn true (by simp)
  have ki := fun A B n c c' xs W hx hy hn => ints_any A B n n c c' xs xs W hx hy hn hn true (by simp)
  have kg := fun A B n c c' xs W hx hy hn => ranges_any A B n n c c' xs xs W hx hy hn hn true (by simp)
  unfold RetLE at kr kt kt2 km ku kx
  unfold RetPE at kp kb
  dsimp only at kr kd kt kt2 km ku kp ks kx
  have HT := Lib.hid hT
  clear hT
  generalize cst (buildL 4) = BL at *
  go_enter Tryz.func32, Tryz.ntmps32
  go_wp2_with fail
  refine (three_any _).mono ?_
  rintro _ w1 ⟨g, rfl, hP, hb1⟩
  replace hP : Prs w1 (some ⟨g, 0, none⟩) 3 pT := hP
  have hbw : Below w.heap.size w w1 := blA
  clear hb1
  go_wp2_with fail
  refine (kr _ _ _ _ _ (hP.alloc _) (Ints.new3 _ _ _ _ _ _ rfl)).mono ?_
  rintro _ w2 ⟨A2, n2, c2, rfl, h2, _, hb2⟩
  obtain rfl : n2 = 3 := h2.1.symm
  clear kr
  replace hP : Prs w2 (some ⟨g, 0, none⟩) 3 pT := Prs.below hP blA
  replace hbw : Below w.heap.size w w2 := blA
  clear hb2
  go_wp2_with fail
  refine (kd _ _ _ hP).mono ?_
  rintro _ w3 ⟨rfl, hb3⟩
  clear kd
  replace hP : Prs w3 (some ⟨g, 0, none⟩) 3 pT := Prs.below hP blA
  replace h2 : Ints w3 A2 3 [9, 5, 3] := Ints.below intsA hb3
  replace hbw : Below w.heap.size w w3 := blA
  clear hb3
  go_wp2_with fail
  refine (kt _ _ _ hP (by omega) (HT.out.below hbw HT.out.1)).mono ?_
  rintro _ w4 ⟨A4, n4, c4, rfl, h4, _, hb4⟩
  obtain rfl : n4 = 0 := h4.1.symm
  clear kt h4
  replace hP : Prs w4 (some ⟨g, 0, none⟩) 3 pT := Prs.below hP blA
  replace h2 : Ints w4 A2 3 [9, 5, 3] := Ints.below intsA hb4
  replace hbw : Below w.heap.size w w4 := blA
  clear hb4
  go_wp2_with fail
  refine (kt2 _ _ _ (hP.pre 2 (by omega)) (by omega) (HT.out.below hbw HT.out.1)).mono ?_
  rintro _ w5 ⟨A5, n5, c5, rfl, h5, _, hb5⟩
  obtain rfl : n5 = 3 := h5.1.symm
  clear kt2
  try clear hP
  replace h2 : Ints w5 A2 3 [9, 5, 3] := Ints.below intsA hb5
  replace hbw : Below w.heap.size w w5 := blA
  clear hb5
  go_wp2_with fail
  refine (pair_any _ _ _).mono ?_
  rintro e w6 ⟨rfl, hb6⟩
  try clear hP
  replace h2 : Ints w6 A2 3 [9, 5, 3] := Ints.below intsA hb6
  replace h5 : Ints w6 A5 3 [0, 0, 1] := Ints.below intsA hb6
  replace hbw : Below w.heap.size w w6 := blA
  clear hb6
  go_wp2_with fail
  refine (pair_any _ _ _).mono ?_
  rintro e w7 ⟨rfl, hb7⟩
  try clear hP
  replace h2 : Ints w7 A2 3 [9, 5, 3] := Ints.below intsA hb7
  replace h5 : Ints w7 A5 3 [0, 0, 1] := Ints.below intsA hb7
  replace hbw : Below w.heap.size w w7 := blA
  clear hb7
  go_wp2_with fail
  refine (km _ _ _ (Prs.new2 _ _ _ _ _ _ _ rfl) (by omega) (HT.out.below blA HT.out.1)).mono ?_
  rintro _ w8 ⟨A8, n8, c8, rfl, h8, _, hb8⟩
  obtain rfl : n8 = 4 := h8.1.symm
  clear km
  try clear hP
  replace h2 : Ints w8 A2 3 [9, 5, 3] := Ints.below intsA hb8
  replace h5 : Ints w8 A5 3 [0, 0, 1] := Ints.below intsA hb8
  replace hbw : Below w.heap.size w w8 := blA
  clear hb8
  go_wp2_with fail
  refine (pair_any _ _ _).mono ?_
  rintro e w9 ⟨rfl, hb9⟩
  try clear hP
  replace h2 : Ints w9 A2 3 [9, 5, 3] := Ints.below intsA hb9
  replace h5 : Ints w9 A5 3 [0, 0, 1] := Ints.below intsA hb9
  replace h8 : Ints w9 A8 4 [1, 0, 1, 0] := Ints.below intsA hb9
  replace hbw : Below w.heap.size w w9 := blA
  clear hb9
  go_wp2_with fail
  refine (pair_any _ _ _).mono ?_
  rintro e w10 ⟨rfl, hb10⟩
  try clear hP
  replace h2 : Ints w10 A2 3 [9, 5, 3] := Ints.below intsA hb10
  replace h5 : Ints w10 A5 3 [0, 0, 1] := Ints.below intsA hb10
  replace h8 : Ints w10 A8 4 [1, 0, 1, 0] := Ints.below intsA hb10
  replace hbw : Below w.heap.size w w10 := blA
  clear hb10
  go_wp2_with fail
  refine (pair_any _ _ _).mono ?_
  rintro e w11 ⟨rfl, hb11⟩
  try clear hP
  replace h2 : Ints w11 A2 3 [9, 5, 3] := Ints.below intsA hb11
  replace h5 : Ints w11 A5 3 [0, 0, 1] := Ints.below intsA hb11
  replace h8 : Ints w11 A8 4 [1, 0, 1, 0] := Ints.below intsA hb11
  replace hbw : Below w.heap.size w w11 := blA
  clear hb11
  go_wp2_with fail
  refine (ku _ _ _ (Prs.new3 _ _ _ _ _ _ _ _ _ rfl) (by omega)).mono ?_
  rintro _ w12 ⟨A12, n12, c12, rfl, h12, _, hb12⟩
  obtain rfl : n12 = 1 := h12.1.symm
  clear ku
  try clear hP
  replace h2 : Ints w12 A2 3 [9, 5, 3] := Ints.below intsA hb12
  replace h5 : Ints w12 A5 3 [0, 0, 1] := Ints.below intsA hb12
  replace h8 : Ints w12 A8 4 [1, 0, 1, 0] := Ints.below intsA hb12
  replace hbw : Below w.heap.size w w12 := blA
  clear hb12
  go_wp2_with fail
  refine (kp _ _ _ (Prs.new3 _ _ _ _ _ _ _ _ _ rfl)).mono ?_
  rintro _ w13 ⟨A13, n13, c13, rfl, h13, _, hb13⟩
  obtain rfl : n13 = 3 := h13.1.symm
  clear kp
  try clear hP
  replace h2 : Ints w13 A2 3 [9, 5, 3] := Ints.below intsA hb13
  replace h5 : Ints w13 A5 3 [0, 0, 1] := Ints.below intsA hb13
  replace h8 : Ints w13 A8 4 [1, 0, 1, 0] := Ints.below intsA hb13
  replace h12 : Ints w13 A12 1 [1] := Ints.below intsA hb13
  replace hbw : Below w.heap.size w w13 := blA
  clear hb13
  go_wp2_with fail
  refine (bar_any _ _).mono ?_
  rintro e w14 ⟨rfl, hb14⟩
  try clear hP
  replace h2 : Ints w14 A2 3 [9, 5, 3] := Ints.below intsA hb14
  replace h5 : Ints w14 A5 3 [0, 0, 1] := Ints.below intsA hb14
  replace h8 : Ints w14 A8 4 [1, 0, 1, 0] := Ints.below intsA hb14
  replace h12 : Ints w14 A12 1 [1] := Ints.below intsA hb14
  replace h13 : Prs w14 A13 3 [(1, 2), (1, 2), (0, 0)] := Prs.below h13 blA
  replace hbw : Below w.heap.size w w14 := blA
  clear hb14
  go_wp2_with fail
  refine (ks _).mono ?_
  rintro e w15 ⟨rfl, hb15⟩
  try clear hP
  replace h2 : Ints w15 A2 3 [9, 5, 3] := Ints.below intsA hb15
  replace h5 : Ints w15 A5 3 [0, 0, 1] := Ints.below intsA hb15
  replace h8 : Ints w15 A8 4 [1, 0, 1, 0] := Ints.below intsA hb15
  replace h12 : Ints w15 A12 1 [1] := Ints.below intsA hb15
  replace h13 : Prs w15 A13 3 [(1, 2), (1, 2), (0, 0)] := Prs.below h13 blA
  replace hbw : Below w.heap.size w w15 := blA
  clear hb15
  clear ks
  go_wp2_with fail
  refine (kb _).mono ?_
  rintro _ w16 ⟨A16, n16, c16, rfl, h16, h16b, hb16⟩
  clear kb
  try clear hP
  replace Bs : Cs w16 (w15.heap.size) #[.int .i64 155, .int .i64 2, .int .i64 400, .int .i64 1] := Cs.keep csA hb16
  replace h2 : Ints w16 A2 3 [9, 5, 3] := Ints.below intsA hb16
  replace h5 : Ints w16 A5 3 [0, 0, 1] := Ints.below intsA hb16
  replace h8 : Ints w16 A8 4 [1, 0, 1, 0] := Ints.below intsA hb16
  replace h12 : Ints w16 A12 1 [1] := Ints.below intsA hb16
  replace h13 : Prs w16 A13 3 [(1, 2), (1, 2), (0, 0)] := Prs.below h13 blA
  replace hbw : Below w.heap.size w w16 := blA
  replace cBs := Bs.c
  replace fBs := Bs.f
  replace lBs := Bs.lt
  clear hb16
  go_wp2_with fail
  refine (kx _ _ _ _ h16 (by omega)).mono ?_
  rintro _ w17 ⟨A17, n17, c17, rfl, h17, _, hb17⟩
  obtain rfl : n17 = 0 := h17.1.symm
  clear kx h17
  try clear hP
  replace Bs : Cs w17 (w15.heap.size) #[.int .i64 155, .int .i64 2, .int .i64 400, .int .i64 1] := Cs.keep csA hb17
  replace h2 : Ints w17 A2 3 [9, 5, 3] := Ints.below intsA hb17
  replace h5 : Ints w17 A5 3 [0, 0, 1] := Ints.below intsA hb17
  replace h8 : Ints w17 A8 4 [1, 0, 1, 0] := Ints.below intsA hb17
  replace h12 : Ints w17 A12 1 [1] := Ints.below intsA hb17
  replace h13 : Prs w17 A13 3 [(1, 2), (1, 2), (0, 0)] := Prs.below h13 blA
  replace hbw : Below w.heap.size w w17 := blA
  replace cBs := Bs.c
  replace fBs := Bs.f
  replace lBs := Bs.lt
  clear hb17
  go_wp2_with fail
  have hK : Kp w w15.heap.size A2 A5 A8 A12 A13 w17 := ⟨Bs, h2, h5, h8, h12, h13, hbw⟩
  clear Bs h2 h5 h8 h12 h13 hbw cBs fBs lBs
  -- BEGIN
  refine wp_region_seq (S := SW w15.heap.size) [.t 0 1, .t 1 3, .t 2 7, .t 3 15, .o 4 31, .o 5 63, .t 6 127, .t 7 255, .t 8 511, .t 9 1023, .t 10 2047, .t 11 4095, .t 12 8191, .o 13 16383, .o 14 32767, .t 15 65535, .t 16 131071, .t 17 262143, .o 18 524287, .o 19 1048575, .t 20 2097151, .t 21 4194303, .t 22 8388607, .o 23 16777215, .o 24 33554431, .t 25 67108863, .t 26 134217727, .t 27 268435455, .t 28 536870911, .t 29 1073741823, .t 30 2147483647, .o 31 4294967295, .o 32 8589934591, .t 33 17179869183, .t 34 34359738367, .t 35 68719476735, .t 36 137438953471, .o 37 274877906943, .t 38 549755813887, .t 39 1099511627775, .t 40 2199023255551, .t 41 4398046511103] (by kernel_rfl) (by kernel_rfl) (by as_aux_lemma => kernel_rfl) (by kernel_rfl) (fun c a d v w h => by cases d <;> exact h) (SW.drew hK.cells) (fun hHeld => ?_)
  clear hHeld
  refine seq_take (v := ?_) rfl (by rfl) ?_ ?_
  rotate_left
  · intro w9 hSw; (unfold SW at hSw); (go_simp <;> with_reducible rfl)
  try simp only [Act.put, List.setIfInBounds_toArray, List.set_cons_zero, List.set_cons_succ]
  refine seq_take (v := ?_) rfl (by rfl) ?_ ?_
  rotate_left
  · intro w9 hSw; (unfold SW at hSw); (go_simp <;> with_reducible rfl)
  try simp only [Act.put, List.setIfInBounds_toArray, List.set_cons_zero, List.set_cons_succ]
  refine seq_take (v := ?_) rfl (by rfl) ?_ ?_
  rotate_left
  · intro w9 hSw; (unfold SW at hSw); (go_simp <;> with_reducible rfl)
  try simp only [Act.put, List.setIfInBounds_toArray, List.set_cons_zero, List.set_cons_succ]
  refine seq_take (v := ?_) rfl (by rfl) ?_ ?_
  rotate_left
  · intro w9 hSw; (unfold SW at hSw); (go_simp <;> with_reducible rfl)
  try simp only [Act.put, List.setIfInBounds_toArray, List.set_cons_zero, List.set_cons_succ]
  refine seq_one rfl (fun K9 hS9 => ?_)
  go_simp
  refine hS9.out _ _ (by first | with_reducible exact (Kp.alloc hK _).cells | with_reducible exact SW.drew (Kp.alloc hK _).cells | exact (Kp.below hK (by as_aux_lemma => exact blA)).cells) (fun hHeld => ?_)
  clear hS9 K9 hHeld
  try simp only [Act.put, List.setIfInBounds_toArray, List.set_cons_zero, List.set_cons_succ]
  refine seq_one rfl (fun K9 hS9 => ?_)
  go_simp
  refine (kl _ _ _ _ _ _ _ (Ints.below hK.h2 blA) (by first | exact Ints.new3 _ _ _ _ _ _ (by simp) | exact Ints.drew (Ints.new3 _ _ _ _ _ _ (by simp))) (by omega)).mono ?_
  rintro e w30 ⟨rfl, hb30⟩
  replace hK := Kp.step hK (by as_aux_lemma => exact blA) hb30
  clear hb30
  refine hS9.out _ _ hK.cells (fun hHeld => ?_)
  clear hS9 K9 hHeld
  try simp only [Act.put, List.setIfInBounds_toArray, List.set_cons_zero, List.set_cons_succ]
  refine seq_take (v := ?_) rfl (by rfl) ?_ ?_
  rotate_left
  · intro w9 hSw; (unfold SW at hSw); (go_simp <;> with_reducible rfl)
  try simp only [Act.put, List.setIfInBounds_toArray, List.set_cons_zero, List.set_cons_succ]
  refine seq_take (v := ?_) rfl (by rfl) ?_ ?_
  rotate_left
  · intro w9 hSw; (unfold SW at hSw); (go_simp <;> with_reducible rfl)
  try simp only [Act.put, List.setIfInBounds_toArray, List.set_cons_zero, List.set_cons_succ]
  refine seq_take (v := ?_) rfl (by rfl) ?_ ?_
  rotate_left
  · intro w9 hSw; (unfold SW at hSw); (go_simp <;> with_reducible rfl)
  try simp only [Act.put, List.setIfInBounds_toArray, List.set_cons_zero, List.set_cons_succ]
  refine seq_take (v := ?_) rfl (by rfl) ?_ ?_
  rotate_left
  · intro w9 hSw; (unfold SW at hSw); (go_simp <;> with_reducible rfl)
  try simp only [Act.put, List.setIfInBounds_toArray, List.set_cons_zero, List.set_cons_succ]
  refine seq_take (v := ?_) rfl (by rfl) ?_ ?_
  rotate_left
  · intro w9 hSw; (unfold SW at hSw); (go_simp <;> with_reducible rfl)
  try simp only [Act.put, List.setIfInBounds_toArray, List.set_cons_zero, List.set_cons_succ]
  refine seq_take (v := ?_) rfl (by rfl) ?_ ?_
  rotate_left
  · intro w9 hSw; (unfold SW at hSw); (go_simp <;> with_reducible rfl)
  try simp only [Act.put, List.setIfInBounds_toArray, List.set_cons_zero, List.set_cons_succ]
  refine seq_take (v := ?_) rfl (by rfl) ?_ ?_
  rotate_left
  · intro w9 hSw; (unfold SW at hSw); (go_simp <;> with_reducible rfl)
  try simp only [Act.put, List.setIfInBounds_toArray, List.set_cons_zero, List.set_cons_succ]
  refine seq_one rfl (fun K9 hS9 => ?_)
  go_simp
  refine hS9.out _ _ (by first | with_reducible exact (Kp.alloc hK _).cells | with_reducible exact SW.drew (Kp.alloc hK _).cells | exact (Kp.below hK (by as_aux_lemma => exact blA)).cells) (fun hHeld => ?_)
  clear hS9 K9 hHeld
  try simp only [Act.put, List.setIfInBounds_toArray, List.set_cons_zero, List.set_cons_succ]
  refine seq_one rfl (fun K9 hS9 => ?_)
  go_simp
  refine (kl _ _ _ _ _ _ _ (Ints.below hK.h5 blA) (by first | exact Ints.new3 _ _ _ _ _ _ (by simp) | exact Ints.drew (Ints.new3 _ _ _ _ _ _ (by simp))) (by omega)).mono ?_
  rintro e w31 ⟨rfl, hb31⟩
  replace hK := Kp.step hK (by as_aux_lemma => exact blA) hb31
  clear hb31
  refine hS9.out _ _ hK.cells (fun hHeld => ?_)
  clear hS9 K9 hHeld
  try simp only [Act.put, List.setIfInBounds_toArray, List.set_cons_zero, List.set_cons_succ]
  refine seq_take (v := ?_) rfl (by rfl) ?_ ?_
  rotate_left
  · intro w9 hSw; (unfold SW at hSw); (go_simp <;> with_reducible rfl)
  try simp only [Act.put, List.setIfInBounds_toArray, List.set_cons_zero, List.set_cons_succ]
  refine seq_take (v := ?_) rfl (by rfl) ?_ ?_
  rotate_left
  · intro w9 hSw; (unfold SW at hSw); (go_simp <;> with_reducible rfl)
  try simp only [Act.put, List.setIfInBounds_toArray, List.set_cons_zero, List.set_cons_succ]
  refine seq_take (v := ?_) rfl (by rfl) ?_ ?_
  rotate_left
  · intro w9 hSw; (unfold SW at hSw); (go_simp <;> with_reducible rfl)
  try simp only [Act.put, List.setIfInBounds_toArray, List.set_cons_zero, List.set_cons_succ]
  refine seq_one rfl (fun K9 hS9 => ?_)
  go_simp
  refine hS9.out _ _ (by first | with_reducible exact (Kp.alloc hK _).cells | with_reducible exact SW.drew (Kp.alloc hK _).cells | exact (Kp.below hK (by as_aux_lemma => exact blA)).cells) (fun hHeld => ?_)
  clear hS9 K9 hHeld
  try simp only [Act.put, List.setIfInBounds_toArray, List.set_cons_zero, List.set_cons_succ]
  refine seq_one rfl (fun K9 hS9 => ?_)
  go_simp
  refine (kl _ _ _ _ _ _ _ (Ints.below hK.h8 blA) (by first | exact Ints.new4 _ _ _ _ _ _ _ (by simp) | exact Ints.drew (Ints.new4 _ _ _ _ _ _ _ (by simp))) (by omega)).mono ?_
  rintro e w32 ⟨rfl, hb32⟩
  replace hK := Kp.step hK (by as_aux_lemma => exact blA) hb32
  clear hb32
  refine hS9.out _ _ hK.cells (fun hHeld => ?_)
  clear hS9 K9 hHeld
  try simp only [Act.put, List.setIfInBounds_toArray, List.set_cons_zero, List.set_cons_succ]
  refine seq_take (v := ?_) rfl (by rfl) ?_ ?_
  rotate_left
  · intro w9 hSw; (unfold SW at hSw); (go_simp <;> with_reducible rfl)
  try simp only [Act.put, List.setIfInBounds_toArray, List.set_cons_zero, List.set_cons_succ]
  refine seq_take (v := ?_) rfl (by rfl) ?_ ?_
  rotate_left
  · intro w9 hSw; (unfold SW at hSw); (go_simp <;> with_reducible rfl)
  try simp only [Act.put, List.setIfInBounds_toArray, List.set_cons_zero, List.set_cons_succ]
  refine seq_take (v := ?_) rfl (by rfl) ?_ ?_
  rotate_left
  · intro w9 hSw; (unfold SW at hSw); (go_simp <;> with_reducible rfl)
  try simp only [Act.put, List.setIfInBounds_toArray, List.set_cons_zero, List.set_cons_succ]
  refine seq_one rfl (fun K9 hS9 => ?_)
  go_simp
  refine hS9.out _ _ (by first | with_reducible exact (Kp.alloc hK _).cells | with_reducible exact SW.drew (Kp.alloc hK _).cells | exact (Kp.below hK (by as_aux_lemma => exact blA)).cells) (fun hHeld => ?_)
  clear hS9 K9 hHeld
  try simp only [Act.put, List.setIfInBounds_toArray, List.set_cons_zero, List.set_cons_succ]
  refine seq_one rfl (fun K9 hS9 => ?_)
  go_simp
  refine (ki _ _ _ _ _ _ _ (Ints.below hK.h12 blA) (by first | exact Ints.new1 _ _ _ _ (by simp) | exact Ints.drew (Ints.new1 _ _ _ _ (by simp))) (by omega)).mono ?_
  rintro e w33 ⟨rfl, hb33⟩
  replace hK := Kp.step hK (by as_aux_lemma => exact blA) hb33
  clear hb33
  refine hS9.out _ _ hK.cells (fun hHeld => ?_)
  clear hS9 K9 hHeld
  try simp only [Act.put, List.setIfInBounds_toArray, List.set_cons_zero, List.set_cons_succ]
  refine seq_take (v := ?_) rfl (by rfl) ?_ ?_
  rotate_left
  · intro w9 hSw; (unfold SW at hSw); (go_simp <;> with_reducible rfl)
  try simp only [Act.put, List.setIfInBounds_toArray, List.set_cons_zero, List.set_cons_succ]
  refine seq_take (v := ?_) rfl (by rfl) ?_ ?_
  rotate_left
  · intro w9 hSw; (unfold SW at hSw); (go_simp <;> with_reducible rfl)
  try simp only [Act.put, List.setIfInBounds_toArray, List.set_cons_zero, List.set_cons_succ]
  refine seq_take (v := ?_) rfl (by rfl) ?_ ?_
  rotate_left
  · intro w9 hSw; (unfold SW at hSw); (go_simp <;> with_reducible rfl)
  try simp only [Act.put, List.setIfInBounds_toArray, List.set_cons_zero, List.set_cons_succ]
  refine seq_take (v := ?_) rfl (by rfl) ?_ ?_
  rotate_left
  · intro w9 hSw; (unfold SW at hSw); (go_simp <;> with_reducible rfl)
  try simp only [Act.put, List.setIfInBounds_toArray, List.set_cons_zero, List.set_cons_succ]
  refine seq_take (v := ?_) rfl (by rfl) ?_ ?_
  rotate_left
  · intro w9 hSw; (unfold SW at hSw); (go_simp <;> with_reducible rfl)
  try simp only [Act.put, List.setIfInBounds_toArray, List.set_cons_zero, List.set_cons_succ]
  refine seq_take (v := ?_) rfl (by rfl) ?_ ?_
  rotate_left
  · intro w9 hSw; (unfold SW at hSw); (go_simp <;> with_reducible rfl)
  try simp only [Act.put, List.setIfInBounds_toArray, List.set_cons_zero, List.set_cons_succ]
  refine seq_one rfl (fun K9 hS9 => ?_)
  go_simp
  refine hS9.out _ _ (by first | with_reducible exact (Kp.alloc hK _).cells | with_reducible exact SW.drew (Kp.alloc hK _).cells | exact (Kp.below hK (by as_aux_lemma => exact blA)).cells) (fun hHeld => ?_)
  clear hS9 K9 hHeld
  try simp only [Act.put, List.setIfInBounds_toArray, List.set_cons_zero, List.set_cons_succ]
  refine seq_one rfl (fun K9 hS9 => ?_)
  go_simp
  refine (kg _ _ _ _ _ _ _ (Prs.below hK.h13 blA) (by first | exact Prs.new3 _ _ _ _ _ _ _ _ _ (by simp) | exact Prs.drew (Prs.new3 _ _ _ _ _ _ _ _ _ (by simp))) (by omega)).mono ?_
  rintro e w34 ⟨rfl, hb34⟩
  replace hK := Kp.step hK (by as_aux_lemma => exact blA) hb34
  clear hb34
  refine hS9.out _ _ hK.cells (fun hHeld => ?_)
  clear hS9 K9 hHeld
  try simp only [Act.put, List.setIfInBounds_toArray, List.set_cons_zero, List.set_cons_succ]
  refine seq_take (v := ?_) rfl (by rfl) ?_ ?_
  rotate_left
  · intro w9 hSw; (unfold SW at hSw); (go_simp <;> with_reducible rfl)
  try simp only [Act.put, List.setIfInBounds_toArray, List.set_cons_zero, List.set_cons_succ]
  refine seq_take (v := ?_) rfl (by rfl) ?_ ?_
  rotate_left
  · intro w9 hSw; (unfold SW at hSw); (go_simp <;> with_reducible rfl)
  try simp only [Act.put, List.setIfInBounds_toArray, List.set_cons_zero, List.set_cons_succ]
  refine seq_take (v := .agg #[.int .i64 155, .int .i64 2, .int .i64 400, .int .i64 1]) rfl (by rfl) ?_ ?_
  · intro w9 hSw; (unfold SW at hSw); go_simp
  try simp only [Act.put, List.setIfInBounds_toArray, List.set_cons_zero, List.set_cons_succ]
  refine seq_take (v := .agg #[.int .i64 155, .int .i64 2]) rfl (by rfl) ?_ ?_
  · intro w9 hSw; (unfold SW at hSw); go_simp
  try simp only [Act.put, List.setIfInBounds_toArray, List.set_cons_zero, List.set_cons_succ]
  refine seq_one rfl (fun K9 hS9 => ?_)
  go_simp
  refine (whole_any _ _).mono ?_
  rintro e w35 ⟨rfl, hb35⟩
  replace hK := Kp.step hK (by as_aux_lemma => exact blA) hb35
  clear hb35
  refine hS9.out _ _ hK.cells (fun hHeld => ?_)
  clear hS9 K9 hHeld
  try simp only [Act.put, List.setIfInBounds_toArray, List.set_cons_zero, List.set_cons_succ]
  refine seq_take (v := .agg #[.int .i64 155, .int .i64 2, .int .i64 400, .int .i64 1]) rfl (by rfl) ?_ ?_
  · intro w9 hSw; (unfold SW at hSw); go_simp
  try simp only [Act.put, List.setIfInBounds_toArray, List.set_cons_zero, List.set_cons_succ]
  refine seq_take (v := .bool true) rfl (by rfl) ?_ ?_
  · intro w9 hSw; (unfold SW at hSw); go_simp
  try simp only [Act.put, List.setIfInBounds_toArray, List.set_cons_zero, List.set_cons_succ]
  refine seq_take (v := ?_) rfl (by rfl) ?_ ?_
  rotate_left
  · intro w9 hSw; (unfold SW at hSw); (go_simp <;> with_reducible rfl)
  try simp only [Act.put, List.setIfInBounds_toArray, List.set_cons_zero, List.set_cons_succ]
  refine seq_take (v := ?_) rfl (by rfl) ?_ ?_
  rotate_left
  · intro w9 hSw; (unfold SW at hSw); (go_simp <;> with_reducible rfl)
  try simp only [Act.put, List.setIfInBounds_toArray, List.set_cons_zero, List.set_cons_succ]
  refine seq_done ?_
  go_wp2_with fail
  go_ret
  exact ⟨rfl, hK.hbw⟩
  -- END

end Go.Proofs.YtminplfgadhnnaaGreatDoor
end
