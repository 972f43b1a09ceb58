/- Walks of the reference of layer 10: Keeps, Plan. -/
import Derived.Test.YtcmllkjgggcghaaEA7
namespace Go.Proofs.Ytcmllkjgggcghaa
open Go.RowKit Go.Shelf
set_option linter.unusedSimpArgs false
set_option linter.unusedVariables false
open Em (isCh red cnt ch)

/-- chances and printed odds that a plan can be asked for -/
structure Asked (gN gD sN sD oN oD iN iD : Int) : Prop where
  g1 : 1 ≤ gD
  g2 : gD ≤ 10
  g3 : 0 ≤ gN
  g4 : gN ≤ gD
  s1 : 1 ≤ sD
  s2 : sD ≤ 10
  s3 : 0 ≤ sN
  s4 : sN ≤ sD
  o1 : 1 ≤ oD
  o2 : oD ≤ 1000000
  o3 : 0 ≤ oN
  o4 : oN ≤ oD
  i1 : 1 ≤ iD
  i2 : iD ≤ 1000000
  i3 : 0 ≤ iN
  i4 : iN ≤ iD

set_option maxRecDepth 10000 in
set_option maxHeartbeats 2000000 in
theorem keeps_any (n r : Nat) (gN gD sN sD oN oD iN iD : Int) (w : World) (hn : n ≤ 12) (hr : r ≤ n) (h : Asked gN gD sN sD oN oD iN iD) (b : Bool) (hb : b = planQ gN gD sN sD oN oD iN iD n r) :
    Calls Try.prog 32 #[.agg #[.int .i64 n, .int .i64 r], .agg #[.int .i64 gN, .int .i64 gD], .agg #[.int .i64 sN, .int .i64 sD], .agg #[.int .i64 oN, .int .i64 oD], .agg #[.int .i64 iN, .int .i64 iD]] w fun e w' => e = .returned (.bool b) ∧ Below w.heap.size w w' := by
  obtain ⟨g1, g2, g3, g4, s1, s2, s3, s4, o1, o2, o3, o4, i1, i2, i3, i4⟩ := h
  have k1 := fun W => parts_any n r gN gD W hn hr g3 g4 g2
  have k2 := fun W => parts_any n r sN sD W hn hr s3 s4 s2
  have t0 := Em.tail_nonneg g3 (show 0 ≤ gD - gN by omega) n r
  have t1 := Em.tail_bound g3 (show 0 ≤ gD - gN by omega) n r
  rw [show gN + (gD - gN) = gD by omega] at t1
  have u0 := Em.tail_nonneg s3 (show 0 ≤ sD - sN by omega) n r
  have u1 := Em.tail_bound s3 (show 0 ≤ sD - sN by omega) n r
  rw [show sN + (sD - sN) = sD by omega] at u1
  have p1 := pow_pos g1 n
  have p2 := pow_le (show 0 ≤ gD by omega) g2 n hn
  have q1 := pow_pos s1 n
  have q2 := pow_le (show 0 ≤ sD by omega) s2 n hn
  have hB : b = (decide (Em.tail gN (gD - gN) n r * oD ≤ oN * gD ^ n) && decide ((sD ^ n - Em.tail sN (sD - sN) n r) * iD ≤ iN * sD ^ n)) := by
    rw [hb]
    unfold planQ Em.keeps
    rw [show gN + (gD - gN) = gD by omega, show sN + (sD - sN) = sD by omega]
    have e : sD ^ n - Em.tail sN (sD - sN) n r = Em.head sN (sD - sN) n r := by unfold Em.tail; rw [show sN + (sD - sN) = sD by omega]; omega
    rw [e]
  have HB := Lib.hid hB
  clear hb hB
  generalize Em.tail gN (gD - gN) n r = T at *
  generalize Em.tail sN (sD - sN) n r = U at *
  generalize gD ^ n = P at *
  generalize sD ^ n = Q at *
  have m0 : 0 ≤ T * oD := Int.mul_nonneg t0 (by omega)
  have m1 : T * oD ≤ 1000000000000 * 1000000 := Int.mul_le_mul (by omega) o2 (by omega) (by omega)
  have m2 : 0 ≤ oN * P := Int.mul_nonneg o3 (by omega)
  have m3 : oN * P ≤ 1000000 * 1000000000000 := Int.mul_le_mul (by omega) p2 (by omega) (by omega)
  have m4 : 0 ≤ (Q - U) * iD := Int.mul_nonneg (by omega) (by omega)
  have m5 : (Q - U) * iD ≤ 1000000000000 * 1000000 := Int.mul_le_mul (by omega) i2 (by omega) (by omega)
  have m6 : 0 ≤ iN * Q := Int.mul_nonneg i3 (by omega)
  have m7 : iN * Q ≤ 1000000 * 1000000000000 := Int.mul_le_mul (by omega) q2 (by omega) (by omega)
  have f1 : IntKind.i64.wrap (T * oD) = T * oD := IntWalk.i64_in _ (by omega)
  have f2 : IntKind.i64.wrap (oN * P) = oN * P := IntWalk.i64_in _ (by omega)
  have f3 : IntKind.i64.wrap (Q - U) = Q - U := IntWalk.i64_in _ (by omega)
  have f4 : IntKind.i64.wrap ((Q - U) * iD) = (Q - U) * iD := IntWalk.i64_in _ (by omega)
  have f5 : IntKind.i64.wrap (iN * Q) = iN * Q := IntWalk.i64_in _ (by omega)
  clear m0 m1 m2 m3 m4 m5 m6 m7 t0 t1 u0 u1 p1 p2 q1 q2 g1 g2 g3 g4 s1 s2 s3 s4 o1 o2 o3 o4 i1 i2 i3 i4
  by_cases hc : T * oD ≤ oN * P
  · have HB2 : Hid (decide ((Q - U) * iD ≤ iN * Q) = b) := Lib.hid (by rw [HB.out, decide_eq_true hc]; rfl)
    clear HB
    go_enter Try.func32, Try.ntmps32
    go_wp2_with fail
    refine (k1 _).mono ?_
    rintro e w1 ⟨rfl, hb1⟩
    replace B0 : Cs w1 (w.heap.size) #[.int .i64 n, .int .i64 r] := Cs.keep (by repeat (first | with_reducible assumption | (with_reducible refine Cs.new _ _ _ _ ?_; first | rfl | (simp; done)) | with_reducible refine Cs.alloc ?_ _ | with_reducible refine Cs.drewN ?_ _ | with_reducible refine Cs.drew ?_ | with_reducible refine Cs.set4 ?_ _ _ _ _ | (with_reducible refine Cs.other4 ?_ ?_ _ _ _ _; rotate_left; focus (first | assumption | omega | (simp; done) | (simp; omega))) | with_reducible refine Cs.set2 ?_ _ _ | (with_reducible refine Cs.other2 ?_ ?_ _ _; rotate_left; focus (first | assumption | omega | (simp; done) | (simp; omega))) | (with_reducible refine Cs.other ?_ ?_ _; rotate_left; focus (first | assumption | omega | (simp; done) | (simp; omega))) | with_reducible refine Cs.keep ?_ (by assumption) | assumption)) hb1
    replace B2 : Cs w1 (w.heap.size + 1 + 1) #[.int .i64 sN, .int .i64 sD] := Cs.keep (by repeat (first | with_reducible assumption | (with_reducible refine Cs.new _ _ _ _ ?_; first | rfl | (simp; done)) | with_reducible refine Cs.alloc ?_ _ | with_reducible refine Cs.drewN ?_ _ | with_reducible refine Cs.drew ?_ | with_reducible refine Cs.set4 ?_ _ _ _ _ | (with_reducible refine Cs.other4 ?_ ?_ _ _ _ _; rotate_left; focus (first | assumption | omega | (simp; done) | (simp; omega))) | with_reducible refine Cs.set2 ?_ _ _ | (with_reducible refine Cs.other2 ?_ ?_ _ _; rotate_left; focus (first | assumption | omega | (simp; done) | (simp; omega))) | (with_reducible refine Cs.other ?_ ?_ _; rotate_left; focus (first | assumption | omega | (simp; done) | (simp; omega))) | with_reducible refine Cs.keep ?_ (by assumption) | assumption)) hb1
    replace B3 : Cs w1 (w.heap.size + 1 + 1 + 1) #[.int .i64 oN, .int .i64 oD] := Cs.keep (by repeat (first | with_reducible assumption | (with_reducible refine Cs.new _ _ _ _ ?_; first | rfl | (simp; done)) | with_reducible refine Cs.alloc ?_ _ | with_reducible refine Cs.drewN ?_ _ | with_reducible refine Cs.drew ?_ | with_reducible refine Cs.set4 ?_ _ _ _ _ | (with_reducible refine Cs.other4 ?_ ?_ _ _ _ _; rotate_left; focus (first | assumption | omega | (simp; done) | (simp; omega))) | with_reducible refine Cs.set2 ?_ _ _ | (with_reducible refine Cs.other2 ?_ ?_ _ _; rotate_left; focus (first | assumption | omega | (simp; done) | (simp; omega))) | (with_reducible refine Cs.other ?_ ?_ _; rotate_left; focus (first | assumption | omega | (simp; done) | (simp; omega))) | with_reducible refine Cs.keep ?_ (by assumption) | assumption)) hb1
    replace B4 : Cs w1 (w.heap.size + 1 + 1 + 1 + 1) #[.int .i64 iN, .int .i64 iD] := Cs.keep (by repeat (first | with_reducible assumption | (with_reducible refine Cs.new _ _ _ _ ?_; first | rfl | (simp; done)) | with_reducible refine Cs.alloc ?_ _ | with_reducible refine Cs.drewN ?_ _ | with_reducible refine Cs.drew ?_ | with_reducible refine Cs.set4 ?_ _ _ _ _ | (with_reducible refine Cs.other4 ?_ ?_ _ _ _ _; rotate_left; focus (first | assumption | omega | (simp; done) | (simp; omega))) | with_reducible refine Cs.set2 ?_ _ _ | (with_reducible refine Cs.other2 ?_ ?_ _ _; rotate_left; focus (first | assumption | omega | (simp; done) | (simp; omega))) | (with_reducible refine Cs.other ?_ ?_ _; rotate_left; focus (first | assumption | omega | (simp; done) | (simp; omega))) | with_reducible refine Cs.keep ?_ (by assumption) | assumption)) hb1
    replace hbw : Below w.heap.size w w1 := (by repeat (first | with_reducible exact Below.refl _ _ | with_reducible assumption | with_reducible refine balloc ?_ _ | with_reducible refine bdrewN ?_ _ | with_reducible refine Below.drew ?_ | (with_reducible refine bset ?_ ?_ _; rotate_left; focus (first | assumption | omega | (simp; done) | (simp; omega))) | with_reducible refine bstep ?_ (by assumption) | assumption))
    replace cB0 := B0.c
    replace fB0 := B0.f
    replace lB0 := B0.lt
    replace cB2 := B2.c
    replace fB2 := B2.f
    replace lB2 := B2.lt
    replace cB3 := B3.c
    replace fB3 := B3.f
    replace lB3 := B3.lt
    replace cB4 := B4.c
    replace fB4 := B4.f
    replace lB4 := B4.lt
    clear hb1
    go_wp2_with fail
    refine (k2 _).mono ?_
    rintro e w2 ⟨rfl, hb2⟩
    try clear cB0 fB0 lB0
    try clear B0
    try clear cB2 fB2 lB2
    try clear B2
    replace B3 : Cs w2 (w.heap.size + 1 + 1 + 1) #[.int .i64 oN, .int .i64 oD] := Cs.keep (by repeat (first | with_reducible assumption | (with_reducible refine Cs.new _ _ _ _ ?_; first | rfl | (simp; done)) | with_reducible refine Cs.alloc ?_ _ | with_reducible refine Cs.drewN ?_ _ | with_reducible refine Cs.drew ?_ | with_reducible refine Cs.set4 ?_ _ _ _ _ | (with_reducible refine Cs.other4 ?_ ?_ _ _ _ _; rotate_left; focus (first | assumption | omega | (simp; done) | (simp; omega))) | with_reducible refine Cs.set2 ?_ _ _ | (with_reducible refine Cs.other2 ?_ ?_ _ _; rotate_left; focus (first | assumption | omega | (simp; done) | (simp; omega))) | (with_reducible refine Cs.other ?_ ?_ _; rotate_left; focus (first | assumption | omega | (simp; done) | (simp; omega))) | with_reducible refine Cs.keep ?_ (by assumption) | assumption)) hb2
    replace B4 : Cs w2 (w.heap.size + 1 + 1 + 1 + 1) #[.int .i64 iN, .int .i64 iD] := Cs.keep (by repeat (first | with_reducible assumption | (with_reducible refine Cs.new _ _ _ _ ?_; first | rfl | (simp; done)) | with_reducible refine Cs.alloc ?_ _ | with_reducible refine Cs.drewN ?_ _ | with_reducible refine Cs.drew ?_ | with_reducible refine Cs.set4 ?_ _ _ _ _ | (with_reducible refine Cs.other4 ?_ ?_ _ _ _ _; rotate_left; focus (first | assumption | omega | (simp; done) | (simp; omega))) | with_reducible refine Cs.set2 ?_ _ _ | (with_reducible refine Cs.other2 ?_ ?_ _ _; rotate_left; focus (first | assumption | omega | (simp; done) | (simp; omega))) | (with_reducible refine Cs.other ?_ ?_ _; rotate_left; focus (first | assumption | omega | (simp; done) | (simp; omega))) | with_reducible refine Cs.keep ?_ (by assumption) | assumption)) hb2
    replace hbw : Below w.heap.size w w2 := (by repeat (first | with_reducible exact Below.refl _ _ | with_reducible assumption | with_reducible refine balloc ?_ _ | with_reducible refine bdrewN ?_ _ | with_reducible refine Below.drew ?_ | (with_reducible refine bset ?_ ?_ _; rotate_left; focus (first | assumption | omega | (simp; done) | (simp; omega))) | with_reducible refine bstep ?_ (by assumption) | assumption))
    replace cB3 := B3.c
    replace fB3 := B3.f
    replace lB3 := B3.lt
    replace cB4 := B4.c
    replace fB4 := B4.f
    replace lB4 := B4.lt
    clear hb2
    go_wp2_with fail
    go_ret
    exact ⟨ret_bool HB2.out, (by repeat (first | with_reducible exact Below.refl _ _ | with_reducible assumption | with_reducible refine balloc ?_ _ | with_reducible refine bdrewN ?_ _ | with_reducible refine Below.drew ?_ | (with_reducible refine bset ?_ ?_ _; rotate_left; focus (first | assumption | omega | (simp; done) | (simp; omega))) | with_reducible refine bstep ?_ (by assumption) | assumption))⟩
  · have HB2 : Hid (false = b) := Lib.hid (by rw [HB.out, decide_eq_false hc]; rfl)
    clear HB
    go_enter Try.func32, Try.ntmps32
    go_wp2_with fail
    refine (k1 _).mono ?_
    rintro e w1 ⟨rfl, hb1⟩
    replace B0 : Cs w1 (w.heap.size) #[.int .i64 n, .int .i64 r] := Cs.keep (by repeat (first | with_reducible assumption | (with_reducible refine Cs.new _ _ _ _ ?_; first | rfl | (simp; done)) | with_reducible refine Cs.alloc ?_ _ | with_reducible refine Cs.drewN ?_ _ | with_reducible refine Cs.drew ?_ | with_reducible refine Cs.set4 ?_ _ _ _ _ | (with_reducible refine Cs.other4 ?_ ?_ _ _ _ _; rotate_left; focus (first | assumption | omega | (simp; done) | (simp; omega))) | with_reducible refine Cs.set2 ?_ _ _ | (with_reducible refine Cs.other2 ?_ ?_ _ _; rotate_left; focus (first | assumption | omega | (simp; done) | (simp; omega))) | (with_reducible refine Cs.other ?_ ?_ _; rotate_left; focus (first | assumption | omega | (simp; done) | (simp; omega))) | with_reducible refine Cs.keep ?_ (by assumption) | assumption)) hb1
    replace B2 : Cs w1 (w.heap.size + 1 + 1) #[.int .i64 sN, .int .i64 sD] := Cs.keep (by repeat (first | with_reducible assumption | (with_reducible refine Cs.new _ _ _ _ ?_; first | rfl | (simp; done)) | with_reducible refine Cs.alloc ?_ _ | with_reducible refine Cs.drewN ?_ _ | with_reducible refine Cs.drew ?_ | with_reducible refine Cs.set4 ?_ _ _ _ _ | (with_reducible refine Cs.other4 ?_ ?_ _ _ _ _; rotate_left; focus (first | assumption | omega | (simp; done) | (simp; omega))) | with_reducible refine Cs.set2 ?_ _ _ | (with_reducible refine Cs.other2 ?_ ?_ _ _; rotate_left; focus (first | assumption | omega | (simp; done) | (simp; omega))) | (with_reducible refine Cs.other ?_ ?_ _; rotate_left; focus (first | assumption | omega | (simp; done) | (simp; omega))) | with_reducible refine Cs.keep ?_ (by assumption) | assumption)) hb1
    replace B3 : Cs w1 (w.heap.size + 1 + 1 + 1) #[.int .i64 oN, .int .i64 oD] := Cs.keep (by repeat (first | with_reducible assumption | (with_reducible refine Cs.new _ _ _ _ ?_; first | rfl | (simp; done)) | with_reducible refine Cs.alloc ?_ _ | with_reducible refine Cs.drewN ?_ _ | with_reducible refine Cs.drew ?_ | with_reducible refine Cs.set4 ?_ _ _ _ _ | (with_reducible refine Cs.other4 ?_ ?_ _ _ _ _; rotate_left; focus (first | assumption | omega | (simp; done) | (simp; omega))) | with_reducible refine Cs.set2 ?_ _ _ | (with_reducible refine Cs.other2 ?_ ?_ _ _; rotate_left; focus (first | assumption | omega | (simp; done) | (simp; omega))) | (with_reducible refine Cs.other ?_ ?_ _; rotate_left; focus (first | assumption | omega | (simp; done) | (simp; omega))) | with_reducible refine Cs.keep ?_ (by assumption) | assumption)) hb1
    replace B4 : Cs w1 (w.heap.size + 1 + 1 + 1 + 1) #[.int .i64 iN, .int .i64 iD] := Cs.keep (by repeat (first | with_reducible assumption | (with_reducible refine Cs.new _ _ _ _ ?_; first | rfl | (simp; done)) | with_reducible refine Cs.alloc ?_ _ | with_reducible refine Cs.drewN ?_ _ | with_reducible refine Cs.drew ?_ | with_reducible refine Cs.set4 ?_ _ _ _ _ | (with_reducible refine Cs.other4 ?_ ?_ _ _ _ _; rotate_left; focus (first | assumption | omega | (simp; done) | (simp; omega))) | with_reducible refine Cs.set2 ?_ _ _ | (with_reducible refine Cs.other2 ?_ ?_ _ _; rotate_left; focus (first | assumption | omega | (simp; done) | (simp; omega))) | (with_reducible refine Cs.other ?_ ?_ _; rotate_left; focus (first | assumption | omega | (simp; done) | (simp; omega))) | with_reducible refine Cs.keep ?_ (by assumption) | assumption)) hb1
    replace hbw : Below w.heap.size w w1 := (by repeat (first | with_reducible exact Below.refl _ _ | with_reducible assumption | with_reducible refine balloc ?_ _ | with_reducible refine bdrewN ?_ _ | with_reducible refine Below.drew ?_ | (with_reducible refine bset ?_ ?_ _; rotate_left; focus (first | assumption | omega | (simp; done) | (simp; omega))) | with_reducible refine bstep ?_ (by assumption) | assumption))
    replace cB0 := B0.c
    replace fB0 := B0.f
    replace lB0 := B0.lt
    replace cB2 := B2.c
    replace fB2 := B2.f
    replace lB2 := B2.lt
    replace cB3 := B3.c
    replace fB3 := B3.f
    replace lB3 := B3.lt
    replace cB4 := B4.c
    replace fB4 := B4.f
    replace lB4 := B4.lt
    clear hb1
    go_wp2_with fail
    refine (k2 _).mono ?_
    rintro e w2 ⟨rfl, hb2⟩
    try clear cB0 fB0 lB0
    try clear B0
    try clear cB2 fB2 lB2
    try clear B2
    replace B3 : Cs w2 (w.heap.size + 1 + 1 + 1) #[.int .i64 oN, .int .i64 oD] := Cs.keep (by repeat (first | with_reducible assumption | (with_reducible refine Cs.new _ _ _ _ ?_; first | rfl | (simp; done)) | with_reducible refine Cs.alloc ?_ _ | with_reducible refine Cs.drewN ?_ _ | with_reducible refine Cs.drew ?_ | with_reducible refine Cs.set4 ?_ _ _ _ _ | (with_reducible refine Cs.other4 ?_ ?_ _ _ _ _; rotate_left; focus (first | assumption | omega | (simp; done) | (simp; omega))) | with_reducible refine Cs.set2 ?_ _ _ | (with_reducible refine Cs.other2 ?_ ?_ _ _; rotate_left; focus (first | assumption | omega | (simp; done) | (simp; omega))) | (with_reducible refine Cs.other ?_ ?_ _; rotate_left; focus (first | assumption | omega | (simp; done) | (simp; omega))) | with_reducible refine Cs.keep ?_ (by assumption) | assumption)) hb2
    replace B4 : Cs w2 (w.heap.size + 1 + 1 + 1 + 1) #[.int .i64 iN, .int .i64 iD] := Cs.keep (by repeat (first | with_reducible assumption | (with_reducible refine Cs.new _ _ _ _ ?_; first | rfl | (simp; done)) | with_reducible refine Cs.alloc ?_ _ | with_reducible refine Cs.drewN ?_ _ | with_reducible refine Cs.drew ?_ | with_reducible refine Cs.set4 ?_ _ _ _ _ | (with_reducible refine Cs.other4 ?_ ?_ _ _ _ _; rotate_left; focus (first | assumption | omega | (simp; done) | (simp; omega))) | with_reducible refine Cs.set2 ?_ _ _ | (with_reducible refine Cs.other2 ?_ ?_ _ _; rotate_left; focus (first | assumption | omega | (simp; done) | (simp; omega))) | (with_reducible refine Cs.other ?_ ?_ _; rotate_left; focus (first | assumption | omega | (simp; done) | (simp; omega))) | with_reducible refine Cs.keep ?_ (by assumption) | assumption)) hb2
    replace hbw : Below w.heap.size w w2 := (by repeat (first | with_reducible exact Below.refl _ _ | with_reducible assumption | with_reducible refine balloc ?_ _ | with_reducible refine bdrewN ?_ _ | with_reducible refine Below.drew ?_ | (with_reducible refine bset ?_ ?_ _; rotate_left; focus (first | assumption | omega | (simp; done) | (simp; omega))) | with_reducible refine bstep ?_ (by assumption) | assumption))
    replace cB3 := B3.c
    replace fB3 := B3.f
    replace lB3 := B3.lt
    replace cB4 := B4.c
    replace fB4 := B4.f
    replace lB4 := B4.lt
    clear hb2
    go_wp2_with fail
    go_ret
    exact ⟨ret_bool HB2.out, (by repeat (first | with_reducible exact Below.refl _ _ | with_reducible assumption | with_reducible refine balloc ?_ _ | with_reducible refine bdrewN ?_ _ | with_reducible refine Below.drew ?_ | (with_reducible refine bset ?_ ?_ _; rotate_left; focus (first | assumption | omega | (simp; done) | (simp; omega))) | with_reducible refine bstep ?_ (by assumption) | assumption))⟩

end Go.Proofs.Ytcmllkjgggcghaa
