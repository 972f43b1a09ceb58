/- BK04 BT04 -/
import Derived.Test.YtmddpjlpbmfbgaaDoorBZ16
import Derived.Test.YtmddpjlpbmfbgaaDoorBZ21
import Derived.Test.YtmddpjlpbmfbgaaDoorBZ17
/- The walk of BenchBars: it answers true. -/
section
namespace Go.Proofs.YtmddpjlpbmfbgaaDoor
open Go.RowKit Go.Shelf
set_option linter.unusedSimpArgs false
set_option linter.unusedVariables false
attribute [local go_sem high] span_eq

def SK04 (b b7 b9 b11 b13 : Nat) (l n p1 p2 s1 s2 t1 t2 v1 v2 u1 u2 u3 u4 : Int) (w' : World) : Prop :=
  (w'.cell? ⟨b, 0, none⟩ = some (.int .i64 l) ∧ w'.cell? ⟨b, 1, none⟩ = some (.int .i64 n) ∧ w'.cell? ⟨b, 2, none⟩ = some (.int .i64 p1) ∧ w'.cell? ⟨b, 3, none⟩ = some (.int .i64 p2) ∧ w'.cell? ⟨b, 4, none⟩ = some (.int .i64 s1) ∧ w'.cell? ⟨b, 5, none⟩ = some (.int .i64 s2) ∧ w'.cell? ⟨b, 6, none⟩ = some (.int .i64 t1) ∧ w'.cell? ⟨b, 7, none⟩ = some (.int .i64 t2)) ∧
  (w'.cell? ⟨b7, 0, none⟩ = some (.int .i64 v1) ∧ w'.cell? ⟨b7, 1, none⟩ = some (.int .i64 v2)) ∧ (w'.cell? ⟨b9, 0, none⟩ = some (.int .i64 v1) ∧ w'.cell? ⟨b9, 1, none⟩ = some (.int .i64 v2)) ∧
  (w'.cell? ⟨b11, 0, none⟩ = some (.int .i64 u1) ∧ w'.cell? ⟨b11, 1, none⟩ = some (.int .i64 u2) ∧ w'.cell? ⟨b11, 2, none⟩ = some (.int .i64 u3) ∧ w'.cell? ⟨b11, 3, none⟩ = some (.int .i64 u4)) ∧
  (w'.cell? ⟨b13, 0, none⟩ = some (.int .i64 u1) ∧ w'.cell? ⟨b13, 1, none⟩ = some (.int .i64 u2) ∧ w'.cell? ⟨b13, 2, none⟩ = some (.int .i64 u3) ∧ w'.cell? ⟨b13, 3, none⟩ = some (.int .i64 u4))
structure K04 (w : World) (b7 b9 b11 b13 : Nat) (l n p1 p2 s1 s2 t1 t2 v1 v2 u1 u2 u3 u4 : Int) (A5 A6 : Option Addr) (n5 n6 : Nat) (R : List (Int × Int)) (W : World) : Prop where
  B3 : Cs W w.heap.size #[.int .i64 l, .int .i64 n, .int .i64 p1, .int .i64 p2, .int .i64 s1, .int .i64 s2, .int .i64 t1, .int .i64 t2]
  B7 : Cs W b7 #[.int .i64 v1, .int .i64 v2]
  B9 : Cs W b9 #[.int .i64 v1, .int .i64 v2]
  B11 : Cs W b11 #[.int .i64 u1, .int .i64 u2, .int .i64 u3, .int .i64 u4]
  B13 : Cs W b13 #[.int .i64 u1, .int .i64 u2, .int .i64 u3, .int .i64 u4]
  h5 : Prs W A5 n5 R
  h6 : Prs W A6 n6 R
  hbw : Below w.heap.size w W
section
variable {w W V U : World} {b b7 b9 b11 b13 : Nat} {l n p1 p2 s1 s2 t1 t2 v1 v2 u1 u2 u3 u4 : Int} {A5 A6 : Option Addr} {n5 n6 : Nat} {R : List (Int × Int)}
theorem K04.below (h : K04 w b7 b9 b11 b13 l n p1 p2 s1 s2 t1 t2 v1 v2 u1 u2 u3 u4 A5 A6 n5 n6 R W) (hb : Below W.heap.size W V) : K04 w b7 b9 b11 b13 l n p1 p2 s1 s2 t1 t2 v1 v2 u1 u2 u3 u4 A5 A6 n5 n6 R V :=
  ⟨h.B3.keep hb, h.B7.keep hb, h.B9.keep hb, h.B11.keep hb, h.B13.keep hb, h.h5.below hb, h.h6.below hb, bstep h.hbw hb⟩
theorem K04.alloc (h : K04 w b7 b9 b11 b13 l n p1 p2 s1 s2 t1 t2 v1 v2 u1 u2 u3 u4 A5 A6 n5 n6 R W) (x : _) : K04 w b7 b9 b11 b13 l n p1 p2 s1 s2 t1 t2 v1 v2 u1 u2 u3 u4 A5 A6 n5 n6 R (W.alloc x) := h.below (balloc (Below.refl _ _) _)
theorem SK04.drew (h : SK04 b b7 b9 b11 b13 l n p1 p2 s1 s2 t1 t2 v1 v2 u1 u2 u3 u4 W) : SK04 b b7 b9 b11 b13 l n p1 p2 s1 s2 t1 t2 v1 v2 u1 u2 u3 u4 W.drew := h
theorem K04.cells (h : K04 w b7 b9 b11 b13 l n p1 p2 s1 s2 t1 t2 v1 v2 u1 u2 u3 u4 A5 A6 n5 n6 R W) : SK04 w.heap.size b7 b9 b11 b13 l n p1 p2 s1 s2 t1 t2 v1 v2 u1 u2 u3 u4 W :=
  ⟨⟨h.B3.c 0, h.B3.c 1, h.B3.c 2, h.B3.c 3, h.B3.c 4, h.B3.c 5, h.B3.c 6, h.B3.c 7⟩, ⟨h.B7.c 0, h.B7.c 1⟩, ⟨h.B9.c 0, h.B9.c 1⟩, ⟨h.B11.c 0, h.B11.c 1, h.B11.c 2, h.B11.c 3⟩, ⟨h.B13.c 0, h.B13.c 1, h.B13.c 2, h.B13.c 3⟩⟩
end

set_option maxRecDepth 100000 in
set_option maxHeartbeats 16000000 in
theorem benchBars_any (l n p1 p2 s1 s2 t1 t2 p s t : Int) (A : Option Addr) (m C : Nat) (zs : List (Int × Int)) (w : World) (hz : Prs w A m zs) (hm : m ≤ 9223372036854775807) (hT : TabW w) :
    Calls Tryd.prog 11 #[.agg #[.int .i64 l, .int .i64 n, .int .i64 p1, .int .i64 p2, .int .i64 s1, .int .i64 s2, .int .i64 t1, .int .i64 t2], .agg #[.int .i64 p, .int .i64 s, .int .i64 t], .slice A m C] w fun e w' => e = .returned (.bool true) ∧ Below w.heap.size w w' := by
  have kw := fun W hT => works_any W hT
  have HT := Lib.hid hT
  by_cases h20 : 20 < m
  · have h1 : (20 : Int) < (m : Int) := by omega
    clear hz hT h20
    go_enter Tryd.func11, Tryd.ntmps11
    go_wp2_with fail
    refine (kw _ (HT.out.below blA HT.out.1)).mono ?_
    rintro e w1 ⟨rfl, hb1⟩
    replace hbw : Below w.heap.size w w1 := blA
    clear hb1
    go_wp2_with fail
    go_ret
    exact ⟨rfl, blA⟩
  · have h1 : ¬ (20 : Int) < (m : Int) := by omega
    have k1 := fun (W : World) => value_any l n p1 p2 s1 s2 t1 t2 p s t W
    have k2 := fun (W : World) => rvalue_any l n p1 p2 s1 s2 t1 t2 p s t W
    have k3 := fun (W : World) => span_any l n p1 p2 s1 s2 t1 t2 W
    have k4 := fun (W : World) => rspan_any l n p1 p2 s1 s2 t1 t2 W
    have k5 := fun (W : World) (hb : Below w.heap.size w W) => places_any A m C zs W (hz.below hb) hm
    have k6 := fun (W : World) (hb : Below w.heap.size w W) => rplaces_any A m C zs W (hz.below hb) hm
    have k7 := fun (W : World) => checkBar_any l n p1 p2 s1 s2 t1 t2 W
    have k8 := fun (W : World) => rcheckBar_any l n p1 p2 s1 s2 t1 t2 W
    have kg := fun A B n m c c' xs W hx hy hn hm => ranges_any A B n m c c' xs xs W hx hy hn hm true (by simp)
    clear hz hT h20
    unfold RetPE at k5 k6
    generalize valE l n p1 p2 s1 s2 t1 t2 p s t = v at *
    generalize v.1.1 = v1 at *
    generalize v.1.2 = v2 at *
    generalize v.2 = e1 at *
    generalize spaE l n p1 p2 s1 s2 t1 t2 = u at *
    generalize u.1.1.1 = u1 at *
    generalize u.1.1.2 = u2 at *
    generalize u.1.2.1 = u3 at *
    generalize u.1.2.2 = u4 at *
    generalize u.2 = e2 at *
    generalize placesE zs = r at *
    generalize r.1 = R at *
    generalize r.2 = e3 at *
    generalize barE l n p1 p2 s1 s2 t1 t2 = q at *
    go_enter Tryd.func11, Tryd.ntmps11
    go_wp2_with fail
    refine (k1 _).mono ?_
    rintro e w1 ⟨rfl, hb1⟩
    replace B3 : Cs w1 (w.heap.size) #[.int .i64 l, .int .i64 n, .int .i64 p1, .int .i64 p2, .int .i64 s1, .int .i64 s2, .int .i64 t1, .int .i64 t2] := Cs.keep csA hb1
    replace B4 : Cs w1 (w.heap.size + 1) #[.int .i64 p, .int .i64 s, .int .i64 t] := Cs.keep csA hb1
    replace hbw : Below w.heap.size w w1 := blA
    replace cB3 := B3.c
    replace fB3 := B3.f
    replace lB3 := B3.lt
    replace cB4 := B4.c
    replace fB4 := B4.f
    replace lB4 := B4.lt
    clear hb1
    go_wp2_with fail
    refine (k2 _).mono ?_
    rintro e w2 ⟨rfl, hb2⟩
    replace B3 : Cs w2 (w.heap.size) #[.int .i64 l, .int .i64 n, .int .i64 p1, .int .i64 p2, .int .i64 s1, .int .i64 s2, .int .i64 t1, .int .i64 t2] := Cs.keep csA hb2
    replace B4 : Cs w2 (w.heap.size + 1) #[.int .i64 p, .int .i64 s, .int .i64 t] := Cs.keep csA hb2
    replace B7 : Cs w2 (w1.heap.size) #[.int .i64 v1, .int .i64 v2] := Cs.keep csA hb2
    replace hbw : Below w.heap.size w w2 := blA
    replace cB3 := B3.c
    replace fB3 := B3.f
    replace lB3 := B3.lt
    replace cB4 := B4.c
    replace fB4 := B4.f
    replace lB4 := B4.lt
    replace cB7 := B7.c
    replace fB7 := B7.f
    replace lB7 := B7.lt
    clear hb2
    go_wp2_with fail
    refine (k3 _).mono ?_
    rintro e w3 ⟨rfl, hb3⟩
    try clear cB4 fB4 lB4
    try clear B4
    replace B3 : Cs w3 (w.heap.size) #[.int .i64 l, .int .i64 n, .int .i64 p1, .int .i64 p2, .int .i64 s1, .int .i64 s2, .int .i64 t1, .int .i64 t2] := Cs.keep csA hb3
    replace B7 : Cs w3 (w1.heap.size) #[.int .i64 v1, .int .i64 v2] := Cs.keep csA hb3
    replace B9 : Cs w3 (w2.heap.size) #[.int .i64 v1, .int .i64 v2] := Cs.keep csA hb3
    replace hbw : Below w.heap.size w w3 := blA
    replace cB3 := B3.c
    replace fB3 := B3.f
    replace lB3 := B3.lt
    replace cB7 := B7.c
    replace fB7 := B7.f
    replace lB7 := B7.lt
    replace cB9 := B9.c
    replace fB9 := B9.f
    replace lB9 := B9.lt
    clear hb3
    go_wp2_with fail
    refine (k4 _).mono ?_
    rintro e w4 ⟨rfl, hb4⟩
    try clear cB4 fB4 lB4
    try clear B4
    replace B3 : Cs w4 (w.heap.size) #[.int .i64 l, .int .i64 n, .int .i64 p1, .int .i64 p2, .int .i64 s1, .int .i64 s2, .int .i64 t1, .int .i64 t2] := Cs.keep csA hb4
    replace B7 : Cs w4 (w1.heap.size) #[.int .i64 v1, .int .i64 v2] := Cs.keep csA hb4
    replace B9 : Cs w4 (w2.heap.size) #[.int .i64 v1, .int .i64 v2] := Cs.keep csA hb4
    replace B11 : Cs w4 (w3.heap.size) #[.int .i64 u1, .int .i64 u2, .int .i64 u3, .int .i64 u4] := Cs.keep csA hb4
    replace hbw : Below w.heap.size w w4 := blA
    replace cB3 := B3.c
    replace fB3 := B3.f
    replace lB3 := B3.lt
    replace cB7 := B7.c
    replace fB7 := B7.f
    replace lB7 := B7.lt
    replace cB9 := B9.c
    replace fB9 := B9.f
    replace lB9 := B9.lt
    replace cB11 := B11.c
    replace fB11 := B11.f
    replace lB11 := B11.lt
    clear hb4
    clear k1 k2 k3 k4
    go_wp2_with fail
    refine (k5 _ blA).mono ?_
    rintro _ w5 ⟨A5, n5, c5, rfl, h5, ⟨l5, _⟩, hb5⟩
    try clear cB4 fB4 lB4
    try clear B4
    replace B3 : Cs w5 (w.heap.size) #[.int .i64 l, .int .i64 n, .int .i64 p1, .int .i64 p2, .int .i64 s1, .int .i64 s2, .int .i64 t1, .int .i64 t2] := Cs.keep csA hb5
    replace B7 : Cs w5 (w1.heap.size) #[.int .i64 v1, .int .i64 v2] := Cs.keep csA hb5
    replace B9 : Cs w5 (w2.heap.size) #[.int .i64 v1, .int .i64 v2] := Cs.keep csA hb5
    replace B11 : Cs w5 (w3.heap.size) #[.int .i64 u1, .int .i64 u2, .int .i64 u3, .int .i64 u4] := Cs.keep csA hb5
    replace B13 : Cs w5 (w4.heap.size) #[.int .i64 u1, .int .i64 u2, .int .i64 u3, .int .i64 u4] := Cs.keep csA hb5
    replace hbw : Below w.heap.size w w5 := blA
    replace cB3 := B3.c
    replace fB3 := B3.f
    replace lB3 := B3.lt
    replace cB7 := B7.c
    replace fB7 := B7.f
    replace lB7 := B7.lt
    replace cB9 := B9.c
    replace fB9 := B9.f
    replace lB9 := B9.lt
    replace cB11 := B11.c
    replace fB11 := B11.f
    replace lB11 := B11.lt
    replace cB13 := B13.c
    replace fB13 := B13.f
    replace lB13 := B13.lt
    clear hb5
    go_wp2_with fail
    refine (k6 _ blA).mono ?_
    rintro _ w6 ⟨A6, n6, c6, rfl, h6, ⟨l6, _⟩, hb6⟩
    try clear cB4 fB4 lB4
    try clear B4
    replace B3 : Cs w6 (w.heap.size) #[.int .i64 l, .int .i64 n, .int .i64 p1, .int .i64 p2, .int .i64 s1, .int .i64 s2, .int .i64 t1, .int .i64 t2] := Cs.keep csA hb6
    replace B7 : Cs w6 (w1.heap.size) #[.int .i64 v1, .int .i64 v2] := Cs.keep csA hb6
    replace B9 : Cs w6 (w2.heap.size) #[.int .i64 v1, .int .i64 v2] := Cs.keep csA hb6
    replace B11 : Cs w6 (w3.heap.size) #[.int .i64 u1, .int .i64 u2, .int .i64 u3, .int .i64 u4] := Cs.keep csA hb6
    replace B13 : Cs w6 (w4.heap.size) #[.int .i64 u1, .int .i64 u2, .int .i64 u3, .int .i64 u4] := Cs.keep csA hb6
    replace h5 : Prs w6 A5 n5 R := Prs.below h5 blA
    replace hbw : Below w.heap.size w w6 := blA
    replace cB3 := B3.c
    replace fB3 := B3.f
    replace lB3 := B3.lt
    replace cB7 := B7.c
    replace fB7 := B7.f
    replace lB7 := B7.lt
    replace cB9 := B9.c
    replace fB9 := B9.f
    replace lB9 := B9.lt
    replace cB11 := B11.c
    replace fB11 := B11.f
    replace lB11 := B11.lt
    replace cB13 := B13.c
    replace fB13 := B13.f
    replace lB13 := B13.lt
    clear hb6
    clear k5 k6
    go_wp2_with fail
    have hK : K04 w w1.heap.size w2.heap.size w3.heap.size w4.heap.size l n p1 p2 s1 s2 t1 t2 v1 v2 u1 u2 u3 u4 A5 A6 n5 n6 R w6 := ⟨B3, B7, B9, B11, B13, h5, h6, hbw⟩
    clear B3 B7 B9 B11 B13 h5 h6 hbw cB3 fB3 lB3 cB7 fB7 lB7 cB9 fB9 lB9 cB11 fB11 lB11 cB13 fB13 lB13
    -- BEGIN
    refine wp_region_seq (S := SK04 w.heap.size w1.heap.size w2.heap.size w3.heap.size w4.heap.size l n p1 p2 s1 s2 t1 t2 v1 v2 u1 u2 u3 u4) [.t 0 1, .t 2 5, .o 1 7, .o 3 15, .t 4 31, .t 5 63, .t 6 127, .t 7 255, .t 8 511, .t 9 1023, .t 10 2047, .t 11 4095, .t 12 8191, .t 13 16383, .t 14 32767, .t 15 65535, .t 16 131071, .t 17 262143, .t 18 524287, .t 19 1048575, .t 20 2097151, .t 21 4194303, .t 22 8388607, .t 23 16777215, .t 24 33554431, .t 25 67108863, .t 26 134217727, .t 27 268435455, .o 28 536870911, .t 29 1073741823, .t 30 2147483647, .t 31 4294967295, .t 32 8589934591, .t 33 17179869183, .t 34 34359738367, .t 35 68719476735, .o 36 137438953471, .t 37 274877906943, .t 38 549755813887] (by kernel_rfl) (by kernel_rfl) (by as_aux_lemma => kernel_rfl) (by kernel_rfl) (fun c a d v w h => by cases d <;> exact h) (SK04.drew hK.cells) (fun hHeld => ?_)
    clear hHeld
    refine seq_take (v := .agg #[.int .i64 l, .int .i64 n, .int .i64 p1, .int .i64 p2, .int .i64 s1, .int .i64 s2, .int .i64 t1, .int .i64 t2]) rfl (by rfl) ?_ ?_
    · intro w9 hSw; (unfold SK04 at hSw); go_simp
    try simp only [Act.put, List.setIfInBounds_toArray, List.set_cons_zero, List.set_cons_succ]
    refine seq_take (v := .agg #[.int .i64 l, .int .i64 n, .int .i64 p1, .int .i64 p2, .int .i64 s1, .int .i64 s2, .int .i64 t1, .int .i64 t2]) rfl (by rfl) ?_ ?_
    · intro w9 hSw; (unfold SK04 at hSw); go_simp
    try simp only [Act.put, List.setIfInBounds_toArray, List.set_cons_zero, List.set_cons_succ]
    refine seq_one rfl (fun K9 hS9 => ?_)
    go_simp
    refine (k7 _).mono ?_
    rintro e w40 ⟨rfl, hb40⟩
    replace hK := (hK.below (by as_aux_lemma => exact blA)).below hb40
    clear hb40
    refine hS9.out _ _ hK.cells (fun hHeld => ?_)
    clear hS9 K9 hHeld
    try simp only [Act.put, List.setIfInBounds_toArray, List.set_cons_zero, List.set_cons_succ]
    refine seq_one rfl (fun K9 hS9 => ?_)
    go_simp
    refine (k8 _).mono ?_
    rintro e w41 ⟨rfl, hb41⟩
    replace hK := (hK.below (by as_aux_lemma => exact blA)).below hb41
    clear hb41
    refine hS9.out _ _ hK.cells (fun hHeld => ?_)
    clear hS9 K9 hHeld
    try simp only [Act.put, List.setIfInBounds_toArray, List.set_cons_zero, List.set_cons_succ]
    refine seq_take (v := ?_) rfl (by rfl) ?_ ?_
    rotate_left
    · intro w9 hSw; (unfold SK04 at hSw); (go_simp <;> with_reducible rfl)
    try simp only [Act.put, List.setIfInBounds_toArray, List.set_cons_zero, List.set_cons_succ]
    refine seq_take (v := ?_) rfl (by rfl) ?_ ?_
    rotate_left
    · intro w9 hSw; (unfold SK04 at hSw); (go_simp <;> with_reducible rfl)
    try simp only [Act.put, List.setIfInBounds_toArray, List.set_cons_zero, List.set_cons_succ]
    refine seq_take (v := .agg #[.int .i64 v1, .int .i64 v2]) rfl (by rfl) ?_ ?_
    · intro w9 hSw; (unfold SK04 at hSw); go_simp
    try simp only [Act.put, List.setIfInBounds_toArray, List.set_cons_zero, List.set_cons_succ]
    refine seq_take (v := .agg #[.int .i64 v1, .int .i64 v2]) rfl (by rfl) ?_ ?_
    · intro w9 hSw; (unfold SK04 at hSw); go_simp
    try simp only [Act.put, List.setIfInBounds_toArray, List.set_cons_zero, List.set_cons_succ]
    refine seq_take (v := .bool true) rfl (by rfl) ?_ ?_
    · intro w9 hSw; (unfold SK04 at hSw); go_simp
    try simp only [Act.put, List.setIfInBounds_toArray, List.set_cons_zero, List.set_cons_succ]
    refine seq_take (v := ?_) rfl (by rfl) ?_ ?_
    rotate_left
    · intro w9 hSw; (unfold SK04 at hSw); (go_simp <;> with_reducible rfl)
    try simp only [Act.put, List.setIfInBounds_toArray, List.set_cons_zero, List.set_cons_succ]
    refine seq_take (v := ?_) rfl (by rfl) ?_ ?_
    rotate_left
    · intro w9 hSw; (unfold SK04 at hSw); (go_simp <;> with_reducible rfl)
    try simp only [Act.put, List.setIfInBounds_toArray, List.set_cons_zero, List.set_cons_succ]
    refine seq_take (v := ?_) rfl (by rfl) ?_ ?_
    rotate_left
    · intro w9 hSw; (unfold SK04 at hSw); (go_simp <;> with_reducible rfl)
    try simp only [Act.put, List.setIfInBounds_toArray, List.set_cons_zero, List.set_cons_succ]
    refine seq_take (v := ?_) rfl (by rfl) ?_ ?_
    rotate_left
    · intro w9 hSw; (unfold SK04 at hSw); (go_simp <;> with_reducible rfl)
    try simp only [Act.put, List.setIfInBounds_toArray, List.set_cons_zero, List.set_cons_succ]
    refine seq_take (v := ?_) rfl (by rfl) ?_ ?_
    rotate_left
    · intro w9 hSw; (unfold SK04 at hSw); (go_simp <;> with_reducible rfl)
    try simp only [Act.put, List.setIfInBounds_toArray, List.set_cons_zero, List.set_cons_succ]
    refine seq_take (v := ?_) rfl (by rfl) ?_ ?_
    rotate_left
    · intro w9 hSw; (unfold SK04 at hSw); (go_simp <;> with_reducible rfl)
    try simp only [Act.put, List.setIfInBounds_toArray, List.set_cons_zero, List.set_cons_succ]
    refine seq_take (v := ?_) rfl (by rfl) ?_ ?_
    rotate_left
    · intro w9 hSw; (unfold SK04 at hSw); (go_simp <;> with_reducible rfl)
    try simp only [Act.put, List.setIfInBounds_toArray, List.set_cons_zero, List.set_cons_succ]
    refine seq_take (v := .agg #[.int .i64 u1, .int .i64 u2, .int .i64 u3, .int .i64 u4]) rfl (by rfl) ?_ ?_
    · intro w9 hSw; (unfold SK04 at hSw); go_simp
    try simp only [Act.put, List.setIfInBounds_toArray, List.set_cons_zero, List.set_cons_succ]
    refine seq_take (v := .agg #[.int .i64 u1, .int .i64 u2, .int .i64 u3, .int .i64 u4]) rfl (by rfl) ?_ ?_
    · intro w9 hSw; (unfold SK04 at hSw); go_simp
    try simp only [Act.put, List.setIfInBounds_toArray, List.set_cons_zero, List.set_cons_succ]
    refine seq_take (v := .bool true) rfl (by rfl) ?_ ?_
    · intro w9 hSw; (unfold SK04 at hSw); go_simp
    try simp only [Act.put, List.setIfInBounds_toArray, List.set_cons_zero, List.set_cons_succ]
    refine seq_take (v := ?_) rfl (by rfl) ?_ ?_
    rotate_left
    · intro w9 hSw; (unfold SK04 at hSw); (go_simp <;> with_reducible rfl)
    try simp only [Act.put, List.setIfInBounds_toArray, List.set_cons_zero, List.set_cons_succ]
    refine seq_take (v := ?_) rfl (by rfl) ?_ ?_
    rotate_left
    · intro w9 hSw; (unfold SK04 at hSw); (go_simp <;> with_reducible rfl)
    try simp only [Act.put, List.setIfInBounds_toArray, List.set_cons_zero, List.set_cons_succ]
    refine seq_take (v := ?_) rfl (by rfl) ?_ ?_
    rotate_left
    · intro w9 hSw; (unfold SK04 at hSw); (go_simp <;> with_reducible rfl)
    try simp only [Act.put, List.setIfInBounds_toArray, List.set_cons_zero, List.set_cons_succ]
    refine seq_take (v := ?_) rfl (by rfl) ?_ ?_
    rotate_left
    · intro w9 hSw; (unfold SK04 at hSw); (go_simp <;> with_reducible rfl)
    try simp only [Act.put, List.setIfInBounds_toArray, List.set_cons_zero, List.set_cons_succ]
    refine seq_take (v := ?_) rfl (by rfl) ?_ ?_
    rotate_left
    · intro w9 hSw; (unfold SK04 at hSw); (go_simp <;> with_reducible rfl)
    try simp only [Act.put, List.setIfInBounds_toArray, List.set_cons_zero, List.set_cons_succ]
    refine seq_take (v := ?_) rfl (by rfl) ?_ ?_
    rotate_left
    · intro w9 hSw; (unfold SK04 at hSw); (go_simp <;> with_reducible rfl)
    try simp only [Act.put, List.setIfInBounds_toArray, List.set_cons_zero, List.set_cons_succ]
    refine seq_take (v := ?_) rfl (by rfl) ?_ ?_
    rotate_left
    · intro w9 hSw; (unfold SK04 at hSw); (go_simp <;> with_reducible rfl)
    try simp only [Act.put, List.setIfInBounds_toArray, List.set_cons_zero, List.set_cons_succ]
    refine seq_take (v := ?_) rfl (by rfl) ?_ ?_
    rotate_left
    · intro w9 hSw; (unfold SK04 at hSw); (go_simp <;> with_reducible rfl)
    try simp only [Act.put, List.setIfInBounds_toArray, List.set_cons_zero, List.set_cons_succ]
    refine seq_take (v := ?_) rfl (by rfl) ?_ ?_
    rotate_left
    · intro w9 hSw; (unfold SK04 at hSw); (go_simp <;> with_reducible rfl)
    try simp only [Act.put, List.setIfInBounds_toArray, List.set_cons_zero, List.set_cons_succ]
    refine seq_one rfl (fun K9 hS9 => ?_)
    go_simp
    refine (kg _ _ _ _ _ _ _ _ (Prs.below hK.h5 blA) (Prs.below hK.h6 blA) (by omega) (by omega)).mono ?_
    rintro e w42 ⟨rfl, hb42⟩
    replace hK := (hK.below (by as_aux_lemma => exact blA)).below hb42
    clear hb42
    refine hS9.out _ _ hK.cells (fun hHeld => ?_)
    clear hS9 K9 hHeld
    try simp only [Act.put, List.setIfInBounds_toArray, List.set_cons_zero, List.set_cons_succ]
    refine seq_take (v := ?_) rfl (by rfl) ?_ ?_
    rotate_left
    · intro w9 hSw; (unfold SK04 at hSw); (go_simp <;> with_reducible rfl)
    try simp only [Act.put, List.setIfInBounds_toArray, List.set_cons_zero, List.set_cons_succ]
    refine seq_take (v := ?_) rfl (by rfl) ?_ ?_
    rotate_left
    · intro w9 hSw; (unfold SK04 at hSw); (go_simp <;> with_reducible rfl)
    try simp only [Act.put, List.setIfInBounds_toArray, List.set_cons_zero, List.set_cons_succ]
    refine seq_take (v := ?_) rfl (by rfl) ?_ ?_
    rotate_left
    · intro w9 hSw; (unfold SK04 at hSw); (go_simp <;> with_reducible rfl)
    try simp only [Act.put, List.setIfInBounds_toArray, List.set_cons_zero, List.set_cons_succ]
    refine seq_take (v := ?_) rfl (by rfl) ?_ ?_
    rotate_left
    · intro w9 hSw; (unfold SK04 at hSw); (go_simp <;> with_reducible rfl)
    try simp only [Act.put, List.setIfInBounds_toArray, List.set_cons_zero, List.set_cons_succ]
    refine seq_take (v := ?_) rfl (by rfl) ?_ ?_
    rotate_left
    · intro w9 hSw; (unfold SK04 at hSw); (go_simp <;> with_reducible rfl)
    try simp only [Act.put, List.setIfInBounds_toArray, List.set_cons_zero, List.set_cons_succ]
    refine seq_take (v := ?_) rfl (by rfl) ?_ ?_
    rotate_left
    · intro w9 hSw; (unfold SK04 at hSw); (go_simp <;> with_reducible rfl)
    try simp only [Act.put, List.setIfInBounds_toArray, List.set_cons_zero, List.set_cons_succ]
    refine seq_take (v := ?_) rfl (by rfl) ?_ ?_
    rotate_left
    · intro w9 hSw; (unfold SK04 at hSw); (go_simp <;> with_reducible rfl)
    try simp only [Act.put, List.setIfInBounds_toArray, List.set_cons_zero, List.set_cons_succ]
    refine seq_one rfl (fun K9 hS9 => ?_)
    go_simp
    refine (kw _ (HT.out.below hK.hbw HT.out.1)).mono ?_
    rintro e w43 ⟨rfl, hb43⟩
    replace hK := (hK.below (by as_aux_lemma => exact blA)).below hb43
    clear hb43
    refine hS9.out _ _ hK.cells (fun hHeld => ?_)
    clear hS9 K9 hHeld
    try simp only [Act.put, List.setIfInBounds_toArray, List.set_cons_zero, List.set_cons_succ]
    refine seq_take (v := ?_) rfl (by rfl) ?_ ?_
    rotate_left
    · intro w9 hSw; (unfold SK04 at hSw); (go_simp <;> with_reducible rfl)
    try simp only [Act.put, List.setIfInBounds_toArray, List.set_cons_zero, List.set_cons_succ]
    refine seq_take (v := ?_) rfl (by rfl) ?_ ?_
    rotate_left
    · intro w9 hSw; (unfold SK04 at hSw); (go_simp <;> with_reducible rfl)
    try simp only [Act.put, List.setIfInBounds_toArray, List.set_cons_zero, List.set_cons_succ]
    refine seq_done ?_
    go_wp2_with fail
    go_ret
    exact ⟨rfl, hK.hbw⟩
    -- END

end Go.Proofs.YtmddpjlpbmfbgaaDoor
end

/- BenchBars: the call answers true, whatever the input, and every argument reads as it did. Conditions: none of its own; the listed variable is tied to the program's text by the given tie. -/
section
namespace Go.Proofs.YtmddpjlpbmfbgaaDoor
open Go.ChangeShapes Go.WideShapes Go.ChangeAt Go.RowKit
set_option linter.unusedVariables false

theorem benchBars_params : (Tryd.f11.params.toList.all fun t => Tryd.prog.readableRec t && decide (t < Tryd.prog.types.size)) = true := by kernel_rfl

set_option maxRecDepth 100000 in
/-- the walk, for each argument that there is and each world that holds the listed variable -/
theorem benchBars_contract (H : Type) (enc : TypeId × Value → H) (W : World) (base : Nat) (args : Array Value) (ds gs : List (DataW H)) (before : List MemPlace)
    (hval : ∀ (j : Nat) t v, Tryd.f11.params[j]? = some t → args[j]? = some v → Value.okWide Tryd.prog W .any base t v)
    (hW : DataW.Whole enc Tryd.prog Tryd.f11.params.toList Rows.benchBarsSpec.vars false W args.toList ds gs before) (hL : laidMetH Tryd.prog Rows.benchBarsRow.laid W) :
    Calls Tryd.prog 11 args W fun e W' => ∃ v, e = .returned v ∧ Rows.benchBarsSpec.post enc Tryd.prog Tryd.f11 false true false false W args v W' := by
  have hW' := hW
  obtain ⟨p, q, hA0, hV, hps, hfz, hnd⟩ := hW
  have hA : DataW.TrodAll enc Tryd.prog W 0 (fun _ => true) true Tryd.f11.params.toList args.toList ds p := hA0
  rw [Tryd.params11] at hA hval
  obtain ⟨v0, v1, v2, d0, d1, d2, p0, p1, p2, rfl, rfl, rfl, h0, h1, h2⟩ := trodAll_three hA
  have hf := tabAt hL
  obtain ⟨l0, k0, p0a, p0b, s0a, s0b, t0a, t0b, rfl⟩ := arg_bar (hval 0 75 v0 rfl rfl) h0
  obtain ⟨a1, b1, c1, rfl⟩ := arg_truth (hval 1 79 v1 rfl rfl) h1
  obtain ⟨A2, n2, cap2, zs2, rfl, hz2, hn2, hc2⟩ := arg_rgs (hval 2 58 v2 rfl rfl) h2
  clear hA0
  refine (benchBars_any l0 k0 p0a p0b s0a s0b t0a t0b a1 b1 c1 A2 n2 cap2 zs2 W hz2 hn2 hf).mono fun e W' ⟨he, hb⟩ => ?_
  subst he
  exact ⟨_, rfl, law_done laidOut rfl (fun t ht => by have := List.all_eq_true.1 benchBars_params t ht; simpa using this) (by kernel_rfl) Tryd.underlying4 hW' (fun h => by subst h; rfl) (fun h => by subst h; rfl) (fun h => by subst h; rfl) hb⟩

theorem benchBars_laid_met (os : Os) : laidMet Tryd.prog Rows.benchBarsRow.laid ((laidWorld os).forCall (fun _ _ => 0) ⟨#[], #[.agg #[.int .i64 0, .int .i64 0, .int .i64 0, .int .i64 0, .int .i64 0, .int .i64 0, .int .i64 0, .int .i64 0], .agg #[.int .i64 0, .int .i64 0, .int .i64 0], .slice none 0 0], []⟩).memory :=
  laidMet_of_run' 8 (by kernel_rfl) (by kernel_rfl)
theorem benchBars_reads (os : Os) {H : Type} (enc : TypeId × Value → H) : ∃ places, DataW.whole enc Tryd.prog ((laidWorld os).forCall (fun _ _ => 0) ⟨#[], #[.agg #[.int .i64 0, .int .i64 0, .int .i64 0, .int .i64 0, .int .i64 0, .int .i64 0, .int .i64 0, .int .i64 0], .agg #[.int .i64 0, .int .i64 0, .int .i64 0], .slice none 0 0], []⟩).memory Tryd.f11.params.toList Rows.benchBarsSpec.vars false (#[.agg #[.int .i64 0, .int .i64 0, .int .i64 0, .int .i64 0, .int .i64 0, .int .i64 0, .int .i64 0, .int .i64 0], .agg #[.int .i64 0, .int .i64 0, .int .i64 0], .slice none 0 0] : Array Value).toList 8 = some ([.agg [.lit (.int .i64 0), .lit (.int .i64 0), .agg [.lit (.int .i64 0), .lit (.int .i64 0)], .agg [.lit (.int .i64 0), .lit (.int .i64 0)], .agg [.lit (.int .i64 0), .lit (.int .i64 0)]], .agg [.lit (.int .i64 0), .lit (.int .i64 0), .lit (.int .i64 0)], .nil], [], places) :=
  ⟨[], by kernel_rfl⟩

set_option maxRecDepth 100000 in
theorem benchBars_lifted (os : Os) (started : os.Started) (H : Type) (enc : TypeId × Value → H) (F : Stop.Interp) :
    ReturnsInHanded {} Tryd.checked os 11 .any ((OpenSpec.ofChange Rows.benchBarsSpec).preRow enc Tryd.prog Tryd.f11 Rows.benchBarsRow.domain false Rows.benchBarsRow.laid) (((OpenSpec.ofChange Rows.benchBarsSpec).at F).post enc Tryd.prog Tryd.f11 false true false false) := by
  obtain ⟨places, hx⟩ := benchBars_reads os enc
  refine returnsInHanded_of_row (C := Tryd.checked) (s := OpenSpec.ofChange Rows.benchBarsSpec) own started (by kernel_rfl) Tryd.func11
    (witness_row_at (enc := enc) (C := Tryd.checked) false (laidWorld os) #[.agg #[.int .i64 0, .int .i64 0, .int .i64 0, .int .i64 0, .int .i64 0, .int .i64 0, .int .i64 0, .int .i64 0], .agg #[.int .i64 0, .int .i64 0, .int .i64 0], .slice none 0 0] rfl (by kernel_rfl) (by kernel_rfl) (by kernel_rfl)
      (OpenSpec.preRow_of_cond 8 hx (by kernel_rfl) (fun k hk => by cases hk) (by kernel_rfl) (benchBars_laid_met os))) ?_
  intro W base args ds gs before hval hW _ _ _ hL _ _
  exact benchBars_contract H enc W base args ds gs before hval hW hL

theorem benchBars_said : Rows.BenchBarsSaid :=
  OpenClaim.holds_of_cond 11 Tryd.f11 rfl rfl rfl rfl rfl rfl rfl ⟨rfl, rfl, rfl, rfl, rfl⟩ rfl rfl rfl rfl rfl (by kernel_rfl) Tryd.func11 (by kernel_rfl)
    (of_decide_eq_true (by kernel_rfl)) (by unfold Func.isWrapper; first | (rw [if_pos (by decide +kernel)]; kernel_rfl) | (rw [if_neg (by decide +kernel)]; exact ⟨rfl, rfl⟩))
    (fun os started H enc _ F => by rw [OpenClaim.pre_eq_preRow]; exact benchBars_lifted os started H enc F)

theorem benchBars_plain (f : FuncId) (fn : Func) (hf : Tryd.pinned.checked.prog.funcNamed Rows.benchBarsRow.func = some f) (hfn : Tryd.pinned.checked.prog.funcs[f]? = some fn) :
    false = Tryd.pinned.checked.prog.looks [] ∧ ∀ (j : Nat) t, fn.params[j]? = some t → Tryd.pinned.checked.prog.wantsStandIn t = false := by
  obtain rfl : f = 11 := Option.some.inj ((show Tryd.prog.funcNamed Rows.benchBarsRow.func = some 11 by kernel_rfl).symm.trans hf) |>.symm
  obtain rfl : fn = Tryd.f11 := (Option.some.inj (Tryd.func11.symm.trans hfn)).symm
  refine ⟨by kernel_rfl, fun j t ht => ?_⟩
  have hall : (Tryd.f11.params.toList.all fun u => !Tryd.prog.wantsStandIn u) = true := by kernel_rfl
  have hm : t ∈ Tryd.f11.params.toList := by simpa using Array.mem_of_getElem? ht
  exact (show Tryd.prog.wantsStandIn t = false by simpa using List.all_eq_true.1 hall t hm)

/-- BenchBars, the card -/
theorem benchBars_card : Rows.BenchBarsCardSaid :=
  Claim7.holds_tied_plain_at .later [] _ _ _ _ benchBars_said (fun _ h => by cases h) (by kernel_rfl) (fun _ h => by cases h) benchBars_row_tie rfl ⟨rfl, rfl⟩ (by kernel_rfl) rfl benchBars_plain (by kernel_rfl)
#print axioms benchBars_card
end Go.Proofs.YtmddpjlpbmfbgaaDoor
end
