/- SP1 BTie BTie2 BTie3 TA1 TT1 -/
import Derived.Test.YtminplfgadhnnaaGreatDoorSS05
import Derived.Test.YtminplfgadhnnaaGreatDoorSS04
import Derived.Test.YtminplfgadhnnaaGreatDoorSS06
import Derived.Test.YtminplfgadhnnaaGreatDoorCards
import Derived.Test.YtminplfgadhnnaaGreatDoorTie
import Derived.ProofKit
import Derived.OpenShut
import Derived.Deep.DeepHandedRow
import Derived.Deep.Slices
import Derived.Lib.LaidTab
import Derived.Test.YtminplfgadhnnaaGreatDoorTV05
import Derived.LaidSub
/- The walk of TopSimplestPower: it answers true. -/
section
namespace Go.Proofs.YtminplfgadhnnaaGreatDoor
open Go.RowKit Go.Shelf
set_option linter.unusedSimpArgs false
set_option linter.unusedVariables false
open Um (frac S4 spanB spanE)
open Bm (pwr leR)

set_option maxRecDepth 100000 in
set_option maxHeartbeats 8000000 in
theorem simplestPower_any (l n p1 p2 s1 s2 t1 t2 a1 b1 c1 : Int) (w : World) (ha1 : 0 ≤ a1 ∧ a1 ≤ 4294967295) (hb1 : 0 ≤ b1 ∧ b1 ≤ 4294967295) (hc1 : 0 ≤ c1 ∧ c1 ≤ 4294967295) (hfa : FirstAt w) (hW : GlobW w) :
    Calls Tryz.prog 5 #[.agg #[.int .i64 l, .int .i64 n, .int .i64 p1, .int .i64 p2, .int .i64 s1, .int .i64 s2, .int .i64 t1, .int .i64 t2], .agg #[.int .u32 a1, .int .u32 b1, .int .u32 c1]] w fun e w' => e = .returned (.bool true) ∧ Below w.heap.size w w' := by
  have kw := fun W h => top_works03_any W h
  have HW := Lib.hid hW
  have Hfa := Lib.hid hfa
  clear hfa hW
  have kc := fun (W : World) => rcheckBar_any l n p1 p2 s1 s2 t1 t2 W
  by_cases hbar : barE l n p1 p2 s1 s2 t1 t2 = 0
  case neg =>
    have g0 : (barE l n p1 p2 s1 s2 t1 t2 != 0) = true := by simpa using hbar
    have g1 : (barE l n p1 p2 s1 s2 t1 t2 == 0) = false := by simpa using hbar
    generalize barE l n p1 p2 s1 s2 t1 t2 = er at *
    clear hbar ha1 hb1 hc1
    go_enter Tryz.func5, Tryz.ntmps5
    go_wp2_with fail
    refine (kc _).mono ?_
    rintro e w1 ⟨rfl, hb1⟩
    replace hbw : Below w.heap.size w w1 := blA
    clear hb1
    go_wp2_with fail
    refine (kw _ (HW.out.below blA)).mono ?_
    rintro e w2 ⟨rfl, hb2⟩
    replace hbw : Below w.heap.size w w2 := blA
    clear hb2
    go_wp2_with fail
    go_ret
    exact ⟨rfl, blA⟩
  rw [hbar] at kc
  obtain ⟨i1, i2, i3, i4, i5, i6, i7, i8, i9, i10, i11, i12, i13, i14⟩ := bar_ok hbar
  have kx := fun (W : World) => true_any l n p1 p2 s1 s2 t1 t2 a1 b1 c1 W (by omega) (by omega) (by omega) ha1 hb1 hc1
  have e1 := pickE_in (by_ := a1) i6
  have e2 := pickE_in (by_ := b1) i9
  have e3 := pickE_in (by_ := c1) i13
  generalize pickE p1 p2 a1 = x1 at *
  generalize pickE s1 s2 b1 = x2 at *
  generalize pickE t1 t2 c1 = x3 at *
  obtain ⟨v, hv⟩ : ∃ v, pwr l x1 x2 x3 = v := ⟨_, rfl⟩
  obtain ⟨lo, hlo⟩ : ∃ v, pwr l p1 s2 t2 = v := ⟨_, rfl⟩
  obtain ⟨hi, hhi⟩ : ∃ v, pwr l p2 s1 t1 = v := ⟨_, rfl⟩
  have kv1 := fun (W : World) => value_in (n := n) hbar e1 e2 e3 hv W
  have ks1 := fun (W : World) => span_in (n := n) hbar hlo hhi W
  have q1 : leR lo v := by rw [← hlo, ← hv]; exact Bm.pwr_mono e1.1 (by omega) e2.2 (by omega) (by omega) e3.2 (by omega)
  have q2 : leR v hi := by rw [← hhi, ← hv]; exact Bm.pwr_mono e1.2 (by omega) e2.1 (by omega) (by omega) e3.1 (by omega)
  obtain ⟨v1, v2⟩ := v
  obtain ⟨lo1, lo2⟩ := lo
  obtain ⟨hi1, hi2⟩ := hi
  unfold leR at q1 q2
  dsimp only at *
  clear hbar ha1 hb1 hc1 i1 i2 i3 i4 i5 i6 i7 i8 i9 i10 i11 i12 i13 i14 e1 e2 e3 hv hlo hhi
  have k5 := fun (W : World) => rcheckSpan_any lo1 lo2 hi1 hi2 W
  have k6 := fun (W : World) => risFraction_any v1 v2 W
  cases hs : spanB (lo1, lo2, hi1, hi2) with
  | false =>
    have h5 : spanE (lo1, lo2, hi1, hi2) = 2 := by unfold spanE; rw [hs]; rfl
    rw [h5] at k5
    clear h5 hs k6 q1 q2
    go_enter Tryz.func5, Tryz.ntmps5
    go_wp2_with fail
    refine (kc _).mono ?_
    rintro e w1 ⟨rfl, hb1⟩
    replace B2 : Cs w1 (w.heap.size) #[.int .i64 l, .int .i64 n, .int .i64 p1, .int .i64 p2, .int .i64 s1, .int .i64 s2, .int .i64 t1, .int .i64 t2] := Cs.keep csA hb1
    replace B3 : Cs w1 (w.heap.size + 1) #[.int .u32 a1, .int .u32 b1, .int .u32 c1] := Cs.keep csA hb1
    replace hbw : Below w.heap.size w w1 := blA
    replace cB2 := B2.c
    replace fB2 := B2.f
    replace lB2 := B2.lt
    replace cB3 := B3.c
    replace fB3 := B3.f
    replace lB3 := B3.lt
    clear hb1
    go_wp2_with fail
    refine (kx _).mono ?_
    rintro e w2 ⟨rfl, hb2⟩
    replace B2 : Cs w2 (w.heap.size) #[.int .i64 l, .int .i64 n, .int .i64 p1, .int .i64 p2, .int .i64 s1, .int .i64 s2, .int .i64 t1, .int .i64 t2] := Cs.keep csA hb2
    replace B3 : Cs w2 (w.heap.size + 1) #[.int .u32 a1, .int .u32 b1, .int .u32 c1] := Cs.keep csA hb2
    replace hbw : Below w.heap.size w w2 := blA
    replace cB2 := B2.c
    replace fB2 := B2.f
    replace lB2 := B2.lt
    replace cB3 := B3.c
    replace fB3 := B3.f
    replace lB3 := B3.lt
    clear hb2
    go_wp2_with fail
    refine (kv1 _).mono ?_
    rintro e w3 ⟨rfl, hb3⟩
    try clear cB3 fB3 lB3
    try clear B3
    replace B2 : Cs w3 (w.heap.size) #[.int .i64 l, .int .i64 n, .int .i64 p1, .int .i64 p2, .int .i64 s1, .int .i64 s2, .int .i64 t1, .int .i64 t2] := Cs.keep csA hb3
    replace B5 : Cs w3 (w2.heap.size) #[.int .i64 x1, .int .i64 x2, .int .i64 x3] := Cs.keep csA hb3
    replace hbw : Below w.heap.size w w3 := blA
    replace cB2 := B2.c
    replace fB2 := B2.f
    replace lB2 := B2.lt
    replace cB5 := B5.c
    replace fB5 := B5.f
    replace lB5 := B5.lt
    clear hb3
    go_wp2_with fail
    refine (ks1 _).mono ?_
    rintro e w4 ⟨rfl, hb4⟩
    try clear cB3 fB3 lB3
    try clear B3
    try clear cB5 fB5 lB5
    try clear B5
    replace B2 : Cs w4 (w.heap.size) #[.int .i64 l, .int .i64 n, .int .i64 p1, .int .i64 p2, .int .i64 s1, .int .i64 s2, .int .i64 t1, .int .i64 t2] := Cs.keep csA hb4
    replace B6 : Cs w4 (w3.heap.size) #[.int .i64 v1, .int .i64 v2] := Cs.keep csA hb4
    replace hbw : Below w.heap.size w w4 := blA
    replace cB2 := B2.c
    replace fB2 := B2.f
    replace lB2 := B2.lt
    replace cB6 := B6.c
    replace fB6 := B6.f
    replace lB6 := B6.lt
    clear hb4
    clear kc kx kv1 ks1
    go_wp2_with fail
    refine (k5 _).mono ?_
    rintro e w5 ⟨rfl, hb5⟩
    try clear cB2 fB2 lB2
    try clear B2
    try clear cB3 fB3 lB3
    try clear B3
    try clear cB5 fB5 lB5
    try clear B5
    try clear cB8 fB8 lB8
    try clear B8
    replace B6 : Cs w5 (w3.heap.size) #[.int .i64 v1, .int .i64 v2] := Cs.keep csA hb5
    replace B10 : Cs w5 (w4.heap.size + 1) #[.int .i64 lo1, .int .i64 lo2, .int .i64 hi1, .int .i64 hi2] := Cs.keep csA hb5
    replace hbw : Below w.heap.size w w5 := blA
    replace cB6 := B6.c
    replace fB6 := B6.f
    replace lB6 := B6.lt
    replace cB10 := B10.c
    replace fB10 := B10.f
    replace lB10 := B10.lt
    clear hb5
    go_wp2_with fail
    refine (kw _ (HW.out.below blA)).mono ?_
    rintro e w6 ⟨rfl, hb6⟩
    try clear cB2 fB2 lB2
    try clear B2
    try clear cB3 fB3 lB3
    try clear B3
    try clear cB5 fB5 lB5
    try clear B5
    try clear cB6 fB6 lB6
    try clear B6
    try clear cB8 fB8 lB8
    try clear B8
    try clear cB10 fB10 lB10
    try clear B10
    replace hbw : Below w.heap.size w w6 := blA
    clear hb6
    go_wp2_with fail
    go_ret
    exact ⟨rfl, blA⟩
  | true =>
    have h5 : spanE (lo1, lo2, hi1, hi2) = 0 := by unfold spanE; rw [hs]; rfl
    rw [h5] at k5
    clear h5
    cases hf : frac v1 v2 with
    | false =>
      rw [hf] at k6
      clear hf hs q1 q2
      go_enter Tryz.func5, Tryz.ntmps5
      go_wp2_with fail
      refine (kc _).mono ?_
      rintro e w1 ⟨rfl, hb1⟩
      try clear cB5 fB5 lB5
      try clear B5
      try clear cB6 fB6 lB6
      try clear B6
      try clear cB8 fB8 lB8
      try clear B8
      try clear cB10 fB10 lB10
      try clear B10
      replace B2 : Cs w1 (w.heap.size) #[.int .i64 l, .int .i64 n, .int .i64 p1, .int .i64 p2, .int .i64 s1, .int .i64 s2, .int .i64 t1, .int .i64 t2] := Cs.keep csA hb1
      replace B3 : Cs w1 (w.heap.size + 1) #[.int .u32 a1, .int .u32 b1, .int .u32 c1] := Cs.keep csA hb1
      replace hbw : Below w.heap.size w w1 := blA
      replace cB2 := B2.c
      replace fB2 := B2.f
      replace lB2 := B2.lt
      replace cB3 := B3.c
      replace fB3 := B3.f
      replace lB3 := B3.lt
      clear hb1
      go_wp2_with fail
      refine (kx _).mono ?_
      rintro e w2 ⟨rfl, hb2⟩
      try clear cB5 fB5 lB5
      try clear B5
      try clear cB6 fB6 lB6
      try clear B6
      try clear cB8 fB8 lB8
      try clear B8
      try clear cB10 fB10 lB10
      try clear B10
      replace B2 : Cs w2 (w.heap.size) #[.int .i64 l, .int .i64 n, .int .i64 p1, .int .i64 p2, .int .i64 s1, .int .i64 s2, .int .i64 t1, .int .i64 t2] := Cs.keep csA hb2
      replace B3 : Cs w2 (w.heap.size + 1) #[.int .u32 a1, .int .u32 b1, .int .u32 c1] := Cs.keep csA hb2
      replace hbw : Below w.heap.size w w2 := blA
      replace cB2 := B2.c
      replace fB2 := B2.f
      replace lB2 := B2.lt
      replace cB3 := B3.c
      replace fB3 := B3.f
      replace lB3 := B3.lt
      clear hb2
      go_wp2_with fail
      refine (kv1 _).mono ?_
      rintro e w3 ⟨rfl, hb3⟩
      try clear cB3 fB3 lB3
      try clear B3
      try clear cB6 fB6 lB6
      try clear B6
      try clear cB8 fB8 lB8
      try clear B8
      try clear cB10 fB10 lB10
      try clear B10
      replace B2 : Cs w3 (w.heap.size) #[.int .i64 l, .int .i64 n, .int .i64 p1, .int .i64 p2, .int .i64 s1, .int .i64 s2, .int .i64 t1, .int .i64 t2] := Cs.keep csA hb3
      replace B5 : Cs w3 (w2.heap.size) #[.int .i64 x1, .int .i64 x2, .int .i64 x3] := Cs.keep csA hb3
      replace hbw : Below w.heap.size w w3 := blA
      replace cB2 := B2.c
      replace fB2 := B2.f
      replace lB2 := B2.lt
      replace cB5 := B5.c
      replace fB5 := B5.f
      replace lB5 := B5.lt
      clear hb3
      go_wp2_with fail
      refine (ks1 _).mono ?_
      rintro e w4 ⟨rfl, hb4⟩
      try clear cB3 fB3 lB3
      try clear B3
      try clear cB5 fB5 lB5
      try clear B5
      try clear cB8 fB8 lB8
      try clear B8
      try clear cB10 fB10 lB10
      try clear B10
      replace B2 : Cs w4 (w.heap.size) #[.int .i64 l, .int .i64 n, .int .i64 p1, .int .i64 p2, .int .i64 s1, .int .i64 s2, .int .i64 t1, .int .i64 t2] := Cs.keep csA hb4
      replace B6 : Cs w4 (w3.heap.size) #[.int .i64 v1, .int .i64 v2] := Cs.keep csA hb4
      replace hbw : Below w.heap.size w w4 := blA
      replace cB2 := B2.c
      replace fB2 := B2.f
      replace lB2 := B2.lt
      replace cB6 := B6.c
      replace fB6 := B6.f
      replace lB6 := B6.lt
      clear hb4
      clear kc kx kv1 ks1
      go_wp2_with fail
      refine (k5 _).mono ?_
      rintro e w5 ⟨rfl, hb5⟩
      try clear cB2 fB2 lB2
      try clear B2
      try clear cB3 fB3 lB3
      try clear B3
      try clear cB5 fB5 lB5
      try clear B5
      try clear cB8 fB8 lB8
      try clear B8
      replace B6 : Cs w5 (w3.heap.size) #[.int .i64 v1, .int .i64 v2] := Cs.keep csA hb5
      replace B10 : Cs w5 (w4.heap.size + 1) #[.int .i64 lo1, .int .i64 lo2, .int .i64 hi1, .int .i64 hi2] := Cs.keep csA hb5
      replace hbw : Below w.heap.size w w5 := blA
      replace cB6 := B6.c
      replace fB6 := B6.f
      replace lB6 := B6.lt
      replace cB10 := B10.c
      replace fB10 := B10.f
      replace lB10 := B10.lt
      clear hb5
      go_wp2_with fail
      refine (k6 _).mono ?_
      rintro e w6 ⟨rfl, hb6⟩
      try clear cB2 fB2 lB2
      try clear B2
      try clear cB3 fB3 lB3
      try clear B3
      try clear cB5 fB5 lB5
      try clear B5
      try clear cB8 fB8 lB8
      try clear B8
      replace B6 : Cs w6 (w3.heap.size) #[.int .i64 v1, .int .i64 v2] := Cs.keep csA hb6
      replace B10 : Cs w6 (w4.heap.size + 1) #[.int .i64 lo1, .int .i64 lo2, .int .i64 hi1, .int .i64 hi2] := Cs.keep csA hb6
      replace hbw : Below w.heap.size w w6 := blA
      replace cB6 := B6.c
      replace fB6 := B6.f
      replace lB6 := B6.lt
      replace cB10 := B10.c
      replace fB10 := B10.f
      replace lB10 := B10.lt
      clear hb6
      go_wp2_with fail
      refine (kw _ (HW.out.below blA)).mono ?_
      rintro e w7 ⟨rfl, hb7⟩
      try clear cB2 fB2 lB2
      try clear B2
      try clear cB3 fB3 lB3
      try clear B3
      try clear cB5 fB5 lB5
      try clear B5
      try clear cB6 fB6 lB6
      try clear B6
      try clear cB8 fB8 lB8
      try clear B8
      try clear cB10 fB10 lB10
      try clear B10
      replace hbw : Below w.heap.size w w7 := blA
      clear hb7
      go_wp2_with fail
      go_ret
      exact ⟨rfl, blA⟩
    | true =>
      rw [hf] at k6
      obtain ⟨r1, r2, u1, u2, u3, u4, hB, hcp, k7, k8⟩ := proof_let lo1 lo2 hi1 hi2 hs
      obtain ⟨h1, h2, h3⟩ := (Um.spanB_iff _).1 hs
      obtain ⟨f1, f2, f3, f4⟩ := Um.frac_bd (n := lo1) (d := lo2) h1
      obtain ⟨f5, f6, f7, f8⟩ := Um.frac_bd (n := hi1) (d := hi2) h2
      obtain ⟨f9, f10, f11, f12⟩ := Um.frac_bd hf
      have k9 := fun W => rcheckProof_any lo1 lo2 hi1 hi2 u1 u2 u3 u4 W
      unfold RetIE at k9
      rw [hcp] at k9
      have k10 := fun W => rIn_any v1 v2 lo1 lo2 hi1 hi2 W (by omega) (by omega) (by omega) (by omega) (by omega) (by omega) (by omega) (by omega) (by omega) (by omega) (by omega) (by omega)
      have hin : inB v1 v2 (lo1, lo2, hi1, hi2) = true := (inB_iff v1 v2 _).2 ⟨q1, q2⟩
      rw [hin] at k10
      have k11 := fun W => risFraction_any r1 r2 W
      rw [hB.fr] at k11
      obtain ⟨n1, n2, m1, m2⟩ : 1 ≤ r1 ∧ r1 ≤ 1000000000 ∧ 1 ≤ r2 ∧ r2 ≤ 1000000000 := ⟨hB.n1, hB.n2, hB.m1, hB.m2⟩
      have k12 := fun W => rIn_any r1 r2 lo1 lo2 hi1 hi2 W (by omega) (by omega) (by omega) (by omega) (by omega) (by omega) (by omega) (by omega) (by omega) (by omega) (by omega) (by omega)
      rw [(inB_iff r1 r2 (lo1, lo2, hi1, hi2)).2 ⟨hB.lo, hB.hi⟩] at k12
      obtain ⟨y1, y2⟩ := hB.simp.min v1 v2 (by omega) (by omega) q1 q2
      clear hs hf hB hcp h1 h2 h3 f1 f2 f3 f4 f5 f6 f7 f8 f9 f10 f11 f12 hin n1 n2 m1 m2 q1 q2
      go_enter Tryz.func5, Tryz.ntmps5
      go_wp2_with fail
      refine (kc _).mono ?_
      rintro e w1 ⟨rfl, hb1⟩
      replace B2 : Cs w1 (w.heap.size) #[.int .i64 l, .int .i64 n, .int .i64 p1, .int .i64 p2, .int .i64 s1, .int .i64 s2, .int .i64 t1, .int .i64 t2] := Cs.keep csA hb1
      replace B3 : Cs w1 (w.heap.size + 1) #[.int .u32 a1, .int .u32 b1, .int .u32 c1] := Cs.keep csA hb1
      replace hbw : Below w.heap.size w w1 := blA
      replace cB2 := B2.c
      replace fB2 := B2.f
      replace lB2 := B2.lt
      replace cB3 := B3.c
      replace fB3 := B3.f
      replace lB3 := B3.lt
      clear hb1
      go_wp2_with fail
      refine (kx _).mono ?_
      rintro e w2 ⟨rfl, hb2⟩
      replace B2 : Cs w2 (w.heap.size) #[.int .i64 l, .int .i64 n, .int .i64 p1, .int .i64 p2, .int .i64 s1, .int .i64 s2, .int .i64 t1, .int .i64 t2] := Cs.keep csA hb2
      replace B3 : Cs w2 (w.heap.size + 1) #[.int .u32 a1, .int .u32 b1, .int .u32 c1] := Cs.keep csA hb2
      replace hbw : Below w.heap.size w w2 := blA
      replace cB2 := B2.c
      replace fB2 := B2.f
      replace lB2 := B2.lt
      replace cB3 := B3.c
      replace fB3 := B3.f
      replace lB3 := B3.lt
      clear hb2
      go_wp2_with fail
      refine (kv1 _).mono ?_
      rintro e w3 ⟨rfl, hb3⟩
      try clear cB3 fB3 lB3
      try clear B3
      replace B2 : Cs w3 (w.heap.size) #[.int .i64 l, .int .i64 n, .int .i64 p1, .int .i64 p2, .int .i64 s1, .int .i64 s2, .int .i64 t1, .int .i64 t2] := Cs.keep csA hb3
      replace B5 : Cs w3 (w2.heap.size) #[.int .i64 x1, .int .i64 x2, .int .i64 x3] := Cs.keep csA hb3
      replace hbw : Below w.heap.size w w3 := blA
      replace cB2 := B2.c
      replace fB2 := B2.f
      replace lB2 := B2.lt
      replace cB5 := B5.c
      replace fB5 := B5.f
      replace lB5 := B5.lt
      clear hb3
      go_wp2_with fail
      refine (ks1 _).mono ?_
      rintro e w4 ⟨rfl, hb4⟩
      try clear cB3 fB3 lB3
      try clear B3
      try clear cB5 fB5 lB5
      try clear B5
      replace B2 : Cs w4 (w.heap.size) #[.int .i64 l, .int .i64 n, .int .i64 p1, .int .i64 p2, .int .i64 s1, .int .i64 s2, .int .i64 t1, .int .i64 t2] := Cs.keep csA hb4
      replace B6 : Cs w4 (w3.heap.size) #[.int .i64 v1, .int .i64 v2] := Cs.keep csA hb4
      replace hbw : Below w.heap.size w w4 := blA
      replace cB2 := B2.c
      replace fB2 := B2.f
      replace lB2 := B2.lt
      replace cB6 := B6.c
      replace fB6 := B6.f
      replace lB6 := B6.lt
      clear hb4
      clear kc kx kv1 ks1
      go_wp2_with fail
      refine (k5 _).mono ?_
      rintro e w5 ⟨rfl, hb5⟩
      try clear cB2 fB2 lB2
      try clear B2
      try clear cB3 fB3 lB3
      try clear B3
      try clear cB5 fB5 lB5
      try clear B5
      try clear cB8 fB8 lB8
      try clear B8
      replace B6 : Cs w5 (w3.heap.size) #[.int .i64 v1, .int .i64 v2] := Cs.keep csA hb5
      replace B10 : Cs w5 (w4.heap.size + 1) #[.int .i64 lo1, .int .i64 lo2, .int .i64 hi1, .int .i64 hi2] := Cs.keep csA hb5
      replace hbw : Below w.heap.size w w5 := blA
      replace cB6 := B6.c
      replace fB6 := B6.f
      replace lB6 := B6.lt
      replace cB10 := B10.c
      replace fB10 := B10.f
      replace lB10 := B10.lt
      clear hb5
      go_wp2_with fail
      refine (k6 _).mono ?_
      rintro e w6 ⟨rfl, hb6⟩
      try clear cB2 fB2 lB2
      try clear B2
      try clear cB3 fB3 lB3
      try clear B3
      try clear cB5 fB5 lB5
      try clear B5
      try clear cB8 fB8 lB8
      try clear B8
      replace B6 : Cs w6 (w3.heap.size) #[.int .i64 v1, .int .i64 v2] := Cs.keep csA hb6
      replace B10 : Cs w6 (w4.heap.size + 1) #[.int .i64 lo1, .int .i64 lo2, .int .i64 hi1, .int .i64 hi2] := Cs.keep csA hb6
      replace hbw : Below w.heap.size w w6 := blA
      replace cB6 := B6.c
      replace fB6 := B6.f
      replace lB6 := B6.lt
      replace cB10 := B10.c
      replace fB10 := B10.f
      replace lB10 := B10.lt
      clear hb6
      go_wp2_with fail
      refine (k7 _ (Hfa.out.below blA)).mono ?_
      rintro e w7 ⟨rfl, hb7⟩
      try clear cB2 fB2 lB2
      try clear B2
      try clear cB3 fB3 lB3
      try clear B3
      try clear cB5 fB5 lB5
      try clear B5
      try clear cB8 fB8 lB8
      try clear B8
      replace B6 : Cs w7 (w3.heap.size) #[.int .i64 v1, .int .i64 v2] := Cs.keep csA hb7
      replace B10 : Cs w7 (w4.heap.size + 1) #[.int .i64 lo1, .int .i64 lo2, .int .i64 hi1, .int .i64 hi2] := Cs.keep csA hb7
      replace hbw : Below w.heap.size w w7 := blA
      replace cB6 := B6.c
      replace fB6 := B6.f
      replace lB6 := B6.lt
      replace cB10 := B10.c
      replace fB10 := B10.f
      replace lB10 := B10.lt
      clear hb7
      go_wp2_with fail
      refine (k8 _ (Hfa.out.below blA)).mono ?_
      rintro e w8 ⟨rfl, hb8⟩
      try clear cB2 fB2 lB2
      try clear B2
      try clear cB3 fB3 lB3
      try clear B3
      try clear cB5 fB5 lB5
      try clear B5
      try clear cB8 fB8 lB8
      try clear B8
      replace B6 : Cs w8 (w3.heap.size) #[.int .i64 v1, .int .i64 v2] := Cs.keep csA hb8
      replace B10 : Cs w8 (w4.heap.size + 1) #[.int .i64 lo1, .int .i64 lo2, .int .i64 hi1, .int .i64 hi2] := Cs.keep csA hb8
      replace B11 : Cs w8 (w7.heap.size) #[.int .i64 r1, .int .i64 r2] := Cs.keep csA hb8
      replace hbw : Below w.heap.size w w8 := blA
      replace cB6 := B6.c
      replace fB6 := B6.f
      replace lB6 := B6.lt
      replace cB10 := B10.c
      replace fB10 := B10.f
      replace lB10 := B10.lt
      replace cB11 := B11.c
      replace fB11 := B11.f
      replace lB11 := B11.lt
      clear hb8
      go_wp2_with fail
      refine (k9 _).mono ?_
      rintro e w9 ⟨rfl, hb9⟩
      try clear cB2 fB2 lB2
      try clear B2
      try clear cB3 fB3 lB3
      try clear B3
      try clear cB5 fB5 lB5
      try clear B5
      try clear cB8 fB8 lB8
      try clear B8
      replace B6 : Cs w9 (w3.heap.size) #[.int .i64 v1, .int .i64 v2] := Cs.keep csA hb9
      replace B10 : Cs w9 (w4.heap.size + 1) #[.int .i64 lo1, .int .i64 lo2, .int .i64 hi1, .int .i64 hi2] := Cs.keep csA hb9
      replace B11 : Cs w9 (w7.heap.size) #[.int .i64 r1, .int .i64 r2] := Cs.keep csA hb9
      replace B12 : Cs w9 (w8.heap.size) #[.int .i64 u1, .int .i64 u2, .int .i64 u3, .int .i64 u4] := Cs.keep csA hb9
      replace hbw : Below w.heap.size w w9 := blA
      replace cB6 := B6.c
      replace fB6 := B6.f
      replace lB6 := B6.lt
      replace cB10 := B10.c
      replace fB10 := B10.f
      replace lB10 := B10.lt
      replace cB11 := B11.c
      replace fB11 := B11.f
      replace lB11 := B11.lt
      replace cB12 := B12.c
      replace fB12 := B12.f
      replace lB12 := B12.lt
      clear hb9
      go_wp2_with fail
      refine (k10 _).mono ?_
      rintro e w10 ⟨rfl, hb10⟩
      try clear cB2 fB2 lB2
      try clear B2
      try clear cB3 fB3 lB3
      try clear B3
      try clear cB5 fB5 lB5
      try clear B5
      try clear cB8 fB8 lB8
      try clear B8
      try clear cB12 fB12 lB12
      try clear B12
      replace B6 : Cs w10 (w3.heap.size) #[.int .i64 v1, .int .i64 v2] := Cs.keep csA hb10
      replace B10 : Cs w10 (w4.heap.size + 1) #[.int .i64 lo1, .int .i64 lo2, .int .i64 hi1, .int .i64 hi2] := Cs.keep csA hb10
      replace B11 : Cs w10 (w7.heap.size) #[.int .i64 r1, .int .i64 r2] := Cs.keep csA hb10
      replace hbw : Below w.heap.size w w10 := blA
      replace cB6 := B6.c
      replace fB6 := B6.f
      replace lB6 := B6.lt
      replace cB10 := B10.c
      replace fB10 := B10.f
      replace lB10 := B10.lt
      replace cB11 := B11.c
      replace fB11 := B11.f
      replace lB11 := B11.lt
      clear hb10
      go_wp2_with fail
      refine (k11 _).mono ?_
      rintro e w11 ⟨rfl, hb11⟩
      try clear cB2 fB2 lB2
      try clear B2
      try clear cB3 fB3 lB3
      try clear B3
      try clear cB5 fB5 lB5
      try clear B5
      try clear cB8 fB8 lB8
      try clear B8
      try clear cB12 fB12 lB12
      try clear B12
      replace B6 : Cs w11 (w3.heap.size) #[.int .i64 v1, .int .i64 v2] := Cs.keep csA hb11
      replace B10 : Cs w11 (w4.heap.size + 1) #[.int .i64 lo1, .int .i64 lo2, .int .i64 hi1, .int .i64 hi2] := Cs.keep csA hb11
      replace B11 : Cs w11 (w7.heap.size) #[.int .i64 r1, .int .i64 r2] := Cs.keep csA hb11
      replace hbw : Below w.heap.size w w11 := blA
      replace cB6 := B6.c
      replace fB6 := B6.f
      replace lB6 := B6.lt
      replace cB10 := B10.c
      replace fB10 := B10.f
      replace lB10 := B10.lt
      replace cB11 := B11.c
      replace fB11 := B11.f
      replace lB11 := B11.lt
      clear hb11
      go_wp2_with fail
      refine (k12 _).mono ?_
      rintro e w12 ⟨rfl, hb12⟩
      try clear cB2 fB2 lB2
      try clear B2
      try clear cB3 fB3 lB3
      try clear B3
      try clear cB5 fB5 lB5
      try clear B5
      try clear cB8 fB8 lB8
      try clear B8
      try clear cB12 fB12 lB12
      try clear B12
      replace B6 : Cs w12 (w3.heap.size) #[.int .i64 v1, .int .i64 v2] := Cs.keep csA hb12
      replace B10 : Cs w12 (w4.heap.size + 1) #[.int .i64 lo1, .int .i64 lo2, .int .i64 hi1, .int .i64 hi2] := Cs.keep csA hb12
      replace B11 : Cs w12 (w7.heap.size) #[.int .i64 r1, .int .i64 r2] := Cs.keep csA hb12
      replace hbw : Below w.heap.size w w12 := blA
      replace cB6 := B6.c
      replace fB6 := B6.f
      replace lB6 := B6.lt
      replace cB10 := B10.c
      replace fB10 := B10.f
      replace lB10 := B10.lt
      replace cB11 := B11.c
      replace fB11 := B11.f
      replace lB11 := B11.lt
      clear hb12
      go_wp2_with fail
      refine (kw _ (HW.out.below blA)).mono ?_
      rintro e w13 ⟨rfl, hb13⟩
      try clear cB2 fB2 lB2
      try clear B2
      try clear cB3 fB3 lB3
      try clear B3
      try clear cB5 fB5 lB5
      try clear B5
      try clear cB6 fB6 lB6
      try clear B6
      try clear cB8 fB8 lB8
      try clear B8
      try clear cB10 fB10 lB10
      try clear B10
      try clear cB11 fB11 lB11
      try clear B11
      try clear cB12 fB12 lB12
      try clear B12
      replace hbw : Below w.heap.size w w13 := blA
      clear hb13
      go_wp2_with fail
      go_ret
      exact ⟨rfl, blA⟩

end Go.Proofs.YtminplfgadhnnaaGreatDoor
end

/- What every statement of layer 2 leans on: how arguments read, how they read again behind a call, what the listed variable holds. -/
section
namespace Go.Proofs.YtminplfgadhnnaaGreatDoor
open Go.ChangeShapes Go.WideShapes Go.ChangeAt Go.RowKit
set_option linter.unusedSimpArgs false
set_option linter.unusedVariables false

theorem own : ownKnob Tryz.prog.godebug = none := by kernel_rfl
theorem laidOut : laidOutB Tryz.prog = true := by kernel_rfl
theorem cellsI64 : Tryz.prog.cellsOf 2 = 1 := by kernel_rfl
section
variable {H : Type} {enc : TypeId × Value → H} {P : Program}

theorem trodAll_stays (hl : laidOutB P = true) {W W' : World} {sp : Nat → Bool} : ∀ {ts : List TypeId} {vs : List Value} {ds : List (DataW H)} {ps : List MemPlace}, (∀ t ∈ ts, P.readableRec t = true ∧ t < P.types.size) →
    DataW.TrodAll enc P W 0 (fun _ => true) true ts vs ds ps → (∀ p ∈ ps, W.sameAt W' p) → (∀ p ∈ ps, sp p.block = true) → DataW.TrodAll enc P W' 0 sp true ts vs ds ps
  | [], [], [], ps, _, h, _, _ => h
  | t :: ts, v :: vs, d :: ds, ps, hr, h, hs, hp => by
    obtain ⟨p, q, h1, h2, rfl⟩ := h
    exact ⟨p, q, WideElems.Trod_stays hl (hr t (by simp)).1 (hr t (by simp)).2 h1 (fun x hx => hs x (by simp [hx])) (fun x hx => hp x (by simp [hx])),
      trodAll_stays hl (fun u hu => hr u (by simp [hu])) h2 (fun x hx => hs x (by simp [hx])) (fun x hx => hp x (by simp [hx])), rfl⟩
  | [], _ :: _, _, _, _, h, _, _ => by simp [DataW.TrodAll] at h
  | [], [], _ :: _, _, _, h, _, _ => by simp [DataW.TrodAll] at h
  | _ :: _, [], _, _, _, h, _, _ => by simp [DataW.TrodAll] at h
  | _ :: _, _ :: _, [], _, _, h, _, _ => by simp [DataW.TrodAll] at h

/-- the call answers true, and has touched nothing that was there -/
theorem law_done (hl : laidOutB P = true) {f : Func} {s : ChangeSpec} {apart fresh handsOn again : Bool} {W W' : World} {args : Array Value} {ds gs : List (DataW H)} {before : List MemPlace} {tb : TypeId} (hv : s.vars = [])
    (hts : ∀ t ∈ f.params.toList, P.readableRec t = true ∧ t < P.types.size) (hres : f.resultTypes = #[tb]) (hub : P.underlying tb = some .bool)
    (hW : DataW.Whole enc P f.params.toList s.vars apart W args.toList ds gs before)
    (h1 : gs = [] → (s.fn H (ds ++ gs)).results = [.lit (.bool true)]) (h2 : gs = [] → (s.fn H (ds ++ gs)).args = ds) (h3 : gs = [] → (s.fn H (ds ++ gs)).vars = []) (hb : Below W.heap.size W W') :
    s.post enc P f apart fresh handsOn again W args (.bool true) W' := by
  have hlt : ∀ p ∈ before, p.block < W.heap.size := fun p hp => hW.lt p hp
  have hold : ∀ p ∈ before, (fun b => decide (b < W.heap.size)) p.block = true := fun p hp => by simpa using hlt p hp
  have hW0 := hW
  obtain ⟨pa, pv, hA, hV, hps, hz, hn⟩ := hW
  rw [hv] at hV
  obtain ⟨rfl, rfl⟩ := trodVars_none hV
  simp only [List.append_nil] at hps
  subst hps
  have e1 := h1 rfl
  have e2 := h2 rfl
  have e3 := h3 rfl
  have hres2 : ∀ (b : Nat) (sp : Nat → Bool) (hd : Bool), DataW.TrodAll enc P W' b sp hd f.resultTypes.toList ((Value.bool true).resultList f.resultTypes.size) (s.fn H (ds ++ [])).results [] := by
    intro b sp hd
    rw [e1, hres]
    exact trodAll_cons_mk (shut_bool hub _) trodAll_mk0
  have hargs : ∀ sp : Nat → Bool, (∀ p ∈ before, sp p.block = true) → DataW.TrodAll enc P W' 0 sp true f.params.toList args.toList (s.fn H (ds ++ [])).args before := by
    intro sp hsp
    rw [e2]
    exact trodAll_stays hl hts hA (fun x hx => hb.same (hlt x hx)) hsp
  have hvars : ∀ sp : Nat → Bool, DataW.TrodVars enc P W' sp s.vars (s.fn H (ds ++ [])).vars [] := by
    intro sp
    rw [e3, hv]; rfl
  refine ⟨ds, [], before, [], before, [], hW0, hres2 _ _ _, hargs _ hold, hvars _, World.keptBut_mono (fun p hp => ⟨hp, by simp [show p ∈ before from hp]⟩) (hb.frame (· ∈ before)), fun _ => ?_⟩
  refine ⟨?_, _, _, ([] ++ before) ++ [], ⟨[] ++ before, [], trodAll_append (hargs _ (fun _ _ => rfl)) (hres2 _ _ _), hvars _, rfl, ?_, ?_⟩, ?_⟩
  · exact ok_one hres rfl (okWide_bool_mk hub _)
  · intro b off hp
    have hin : MemPlace.cell b off ∈ before := by simpa using hp
    rw [hb.frozen (hlt _ hin)]
    exact hz b off hin
  · intro ha
    have := hn ha
    simpa using this
  · intro p hp _
    simpa using hp

variable {W : World} {r : Reach} {b0 base : Nat} {sp : Nat → Bool} {held : Bool} {fuel : Nat} {v : Value} {d : DataW H} {p : List MemPlace} {cs : List Value} {x : DataW H × List MemPlace}

theorem len_two' {α : Type} {l : List α} (h : l.length = 2) : ∃ a b, l = [a, b] := by
  match l, h with
  | [a, b], _ => exact ⟨a, b, rfl⟩
theorem trod_pair {T E : TypeId} {f0 f1 : Field} {k : IntKind} (hu : Tryz.prog.underlying T = some (.struct #[f0, f1])) (hc : Tryz.prog.cellsOf T = 2) (hE : Tryz.prog.underlying E = some (.int k)) (hcE : Tryz.prog.cellsOf E = 1) (e0 : f0.type = E) (e1 : f1.type = E) (o0 : f0.offset = 0) (o1 : f1.offset = 1)
    (h : DataW.trod enc Tryz.prog W base sp held fuel T cs = some x) : ∃ a b : Int, cs = [.int k a, .int k b] ∧ (Lit.int k a).wf = true ∧ (Lit.int k b).wf = true := by
  obtain ⟨y0, y1, n, _, hl, h0, h1⟩ := trod_struct2 hu h
  rw [hc] at hl
  rw [e0, o0, hcE] at h0
  rw [e1, o1, hcE] at h1
  obtain ⟨c0, c1, rfl⟩ := len_two' hl
  simp only [List.drop_zero, List.drop_succ_cons, List.take_succ_cons, List.take_zero] at h0 h1
  obtain ⟨a, q0, _, w0⟩ := DataW.trod_int hE h0
  obtain ⟨b, q1, _, w1⟩ := DataW.trod_int hE h1
  simp only [List.cons.injEq, and_true] at q0 q1
  exact ⟨a, b, by rw [q0, q1], w0, w1⟩

end
end Go.Proofs.YtminplfgadhnnaaGreatDoor
end

/- How arguments of layer 2 read: bars and truths; lists of small numbers, of pairs of them. -/
section
namespace Go.Proofs.YtminplfgadhnnaaGreatDoor
open Go.ChangeShapes Go.WideShapes Go.ChangeAt Go.RowKit
set_option linter.unusedSimpArgs false
set_option linter.unusedVariables false

section
variable {H : Type} {enc : TypeId × Value → H}
variable {W : World} {r : Reach} {b0 base : Nat} {sp : Nat → Bool} {held : Bool} {fuel : Nat} {v : Value} {d : DataW H} {p : List MemPlace} {cs : List Value} {x : DataW H × List MemPlace}

theorem len8 {α : Type} {l : List α} (h : l.length = 8) : ∃ a b c d e f g i, l = [a, b, c, d, e, f, g, i] := by
  match l, h with
  | [a, b, c, d, e, f, g, i], _ => exact ⟨a, b, c, d, e, f, g, i, rfl⟩
theorem len3 {α : Type} {l : List α} (h : l.length = 3) : ∃ a b c, l = [a, b, c] := by
  match l, h with
  | [a, b, c], _ => exact ⟨a, b, c, rfl⟩
theorem cellsRg : Tryz.prog.cellsOf 32 = 2 := by kernel_rfl
set_option maxRecDepth 100000 in
theorem trod_rg (h : DataW.trod enc Tryz.prog W base sp held fuel 32 cs = some x) : ∃ a b : Int, cs = [.int .i64 a, .int .i64 b] := by
  obtain ⟨a, b, e, _, _⟩ := trod_pair (E := 2) Tryz.underlying32 cellsRg Tryz.underlying2 cellsI64 rfl rfl rfl rfl h
  exact ⟨a, b, e⟩
theorem trod5 {P : Program} {t : TypeId} {f0 f1 f2 f3 f4 : Field} (ht : P.underlying t = some (.struct #[f0, f1, f2, f3, f4])) (h : DataW.trod enc P W base sp held fuel t cs = some x) :
    ∃ y0 y1 y2 y3 y4 n, cs.length = P.cellsOf t ∧ DataW.trod enc P W base sp held n f0.type ((cs.drop f0.offset).take (P.cellsOf f0.type)) = some y0 ∧ DataW.trod enc P W base sp held n f1.type ((cs.drop f1.offset).take (P.cellsOf f1.type)) = some y1 ∧
      DataW.trod enc P W base sp held n f2.type ((cs.drop f2.offset).take (P.cellsOf f2.type)) = some y2 ∧ DataW.trod enc P W base sp held n f3.type ((cs.drop f3.offset).take (P.cellsOf f3.type)) = some y3 ∧ DataW.trod enc P W base sp held n f4.type ((cs.drop f4.offset).take (P.cellsOf f4.type)) = some y4 := by
  obtain ⟨xs, n, _, _, hl, hlen, hf⟩ := DataW.trod_struct ht h
  match xs, hlen with
  | [y0, y1, y2, y3, y4], _ => exact ⟨y0, y1, y2, y3, y4, n, hl, by simpa using hf 0 f0 rfl, by simpa using hf 1 f1 rfl, by simpa using hf 2 f2 rfl, by simpa using hf 3 f3 rfl, by simpa using hf 4 f4 rfl⟩
set_option maxRecDepth 100000 in
theorem arg_bar (hv : Value.okWide Tryz.prog W r b0 62 v) (h : DataW.Trod enc Tryz.prog W base sp held 62 v d p) : ∃ l n p1 p2 s1 s2 t1 t2 : Int, v = .agg #[.int .i64 l, .int .i64 n, .int .i64 p1, .int .i64 p2, .int .i64 s1, .int .i64 s2, .int .i64 t1, .int .i64 t2] := by
  obtain ⟨cs, rfl, _⟩ := okWide_struct Tryz.underlying62 hv
  obtain ⟨fuel, hf⟩ := h
  obtain ⟨y0, y1, y2, y3, y4, n, hl, g0, g1, g2, g3, g4⟩ := trod5 Tryz.underlying62 hf
  rw [show Tryz.prog.cellsOf 62 = 8 by kernel_rfl] at hl
  obtain ⟨c0, c1, c2, c3, c4, c5, c6, c7, hcs⟩ := len8 hl
  rw [hcs] at g0 g1 g2 g3 g4
  simp only [cellsI64, cellsRg, List.drop_zero, List.drop_succ_cons, List.take_succ_cons, List.take_zero] at g0 g1 g2 g3 g4
  obtain ⟨a, e0, _, _⟩ := DataW.trod_int Tryz.underlying2 g0
  obtain ⟨b, e1, _, _⟩ := DataW.trod_int Tryz.underlying2 g1
  obtain ⟨p1, p2, e2⟩ := trod_rg g2
  obtain ⟨s1, s2, e3⟩ := trod_rg g3
  obtain ⟨t1, t2, e4⟩ := trod_rg g4
  simp only [List.cons.injEq, and_true] at e0 e1 e2 e3 e4
  refine ⟨a, b, p1, p2, s1, s2, t1, t2, ?_⟩
  congr 1
  refine Array.ext' ?_
  have : cs.toList = [c0, c1, c2, c3, c4, c5, c6, c7] := by simpa [Value.cells] using hcs
  rw [this, e0, e1, e2.1, e2.2, e3.1, e3.2, e4.1, e4.2]
theorem cellsU32 : Tryz.prog.cellsOf 63 = 1 := by kernel_rfl
end
end Go.Proofs.YtminplfgadhnnaaGreatDoor
end

/- How arguments of layer 2 read: lists of pairs of small numbers; arrays of three numbers. -/
section
namespace Go.Proofs.YtminplfgadhnnaaGreatDoor
open Go.ChangeShapes Go.WideShapes Go.ChangeAt Go.RowKit
set_option linter.unusedSimpArgs false
set_option linter.unusedVariables false

section
variable {H : Type} {enc : TypeId × Value → H} {P : Program}
variable {W : World} {r : Reach} {b0 base : Nat} {sp : Nat → Bool} {held : Bool} {fuel : Nat} {v : Value} {d : DataW H} {p : List MemPlace} {cs : List Value} {x : DataW H × List MemPlace}

theorem okWide_array {t e : TypeId} {n : Nat} (ht : P.underlying t = some (.array n e)) (h : Value.okWide P W r b0 t v) : ∃ cs, v = .agg cs ∧ cs.size = P.cellsOf t := by
  simp only [Value.okWide, ht] at h
  obtain ⟨cs, h1, h2, _⟩ := h
  exact ⟨cs, h1, h2⟩
set_option maxRecDepth 100000 in
theorem arg_u32x3 (hv : Value.okWide Tryz.prog W r b0 64 v) (h : DataW.Trod enc Tryz.prog W base sp held 64 v d p) : ∃ a b c : Int, v = .agg #[.int .u32 a, .int .u32 b, .int .u32 c] ∧ (0 ≤ a ∧ a ≤ 4294967295) ∧ (0 ≤ b ∧ b ≤ 4294967295) ∧ (0 ≤ c ∧ c ≤ 4294967295) := by
  obtain ⟨cs, rfl, _⟩ := okWide_array Tryz.underlying64 hv
  obtain ⟨fuel, hf⟩ := h
  obtain ⟨xs, m, -, -, hl, hx, hg⟩ := DataW.trod_array Tryz.underlying64 hf
  rw [show Tryz.prog.cellsOf 64 = 3 by kernel_rfl] at hl
  rw [cellsU32] at hg
  obtain ⟨c0, c1, c2, hcs⟩ := len3 hl
  match xs, hx with
  | [y0, y1, y2], _ =>
    have h0 := hg 0 (by omega)
    have h1 := hg 1 (by omega)
    have h2 := hg 2 (by omega)
    rw [hcs] at h0 h1 h2
    simp at h0 h1 h2
    obtain ⟨a, q0, _, w0⟩ := DataW.trod_int Tryz.underlying63 h0
    obtain ⟨b, q1, _, w1⟩ := DataW.trod_int Tryz.underlying63 h1
    obtain ⟨c, q2, _, w2⟩ := DataW.trod_int Tryz.underlying63 h2
    simp only [List.cons.injEq, and_true] at q0 q1 q2
    subst q0 q1 q2
    refine ⟨a, b, c, ?_, bounds_u32 w0, bounds_u32 w1, bounds_u32 w2⟩
    congr 1
    exact Array.ext' (by simpa [Value.cells] using hcs)

end
end Go.Proofs.YtminplfgadhnnaaGreatDoor
end

/- What every statement of the top of three stages leans on: what the two listed variables hold. -/
section
namespace Go.Proofs.YtminplfgadhnnaaGreatDoor
open Go.ChangeShapes Go.WideShapes Go.ChangeAt Go.RowKit
set_option linter.unusedSimpArgs false
set_option linter.unusedVariables false

def topZ : List Int := [0, 1, 56, 2, 57, 49, 28, 3, 61, 58, 42, 50, 38, 29, 17, 4, 62, 47, 59, 36, 45, 43, 51, 22, 53, 39, 33, 30, 24, 18, 12, 5, 63, 55, 48, 27, 60, 41, 37, 16, 46, 35, 44, 21, 52, 32, 23, 11, 54, 26, 40, 15, 34, 20, 31, 10, 25, 14, 19, 9, 13, 8, 7, 6]
def topTab : String := "math/bits.deBruijn64tab"
def topFst : String := "lampblack/unit.first"
theorem gTopTab : Tryz.prog.globalNamed topTab = some 1 := by kernel_rfl
theorem gTopTabType : (Tryz.prog.globals[1]?).map (·.type) = some 225 := by kernel_rfl
theorem gTopFst : Tryz.prog.globalNamed topFst = some 0 := by kernel_rfl
theorem gTopFstType : (Tryz.prog.globals[0]?).map (·.type) = some 95 := by kernel_rfl
theorem cellsTopTab : Tryz.prog.cellsOf 225 = 64 := by kernel_rfl
theorem cellsTopFst : Tryz.prog.cellsOf 95 = 4 := by kernel_rfl
theorem cellsTopU8 : Tryz.prog.cellsOf 5 = 1 := by kernel_rfl
theorem cellsTopI64 : Tryz.prog.cellsOf 2 = 1 := by kernel_rfl

def topLaid : List (String × DataW Unit) := [(topTab, Lib.tabData .u8 topZ), (topFst, Lib.tabData .i64 [1, 0, 0, 1])]
theorem topLaid_keep : (topLaid.filter fun x => x.1 == topFst) = [(topFst, Lib.tabData .i64 [1, 0, 0, 1])] := by kernel_rfl
theorem topTabIs {W : World} (h : laidMet Tryz.prog topLaid W) : Lib.TabIs Tryz.prog W topTab .u8 topZ :=
  Lib.tabIs_of_head (rest := [(topFst, Lib.tabData .i64 [1, 0, 0, 1])]) gTopTab gTopTabType Tryz.underlying225 Tryz.underlying5 cellsTopU8 cellsTopTab h
theorem topFstIs {W : World} (h : laidMet Tryz.prog topLaid W) : Lib.TabIs Tryz.prog W topFst .i64 [1, 0, 0, 1] := by
  have h2 := h.filter fun x => x.1 == topFst
  rw [topLaid_keep] at h2
  exact Lib.tabIs_of_head (rest := []) gTopFst gTopFstType Tryz.underlying95 Tryz.underlying2 cellsTopI64 cellsTopFst h2
/-- the list gives what the world must hold -/
theorem topGlob {W : World} (h : laidMet Tryz.prog topLaid W) : GlobW W := by
  have h1 := topTabIs h
  have h2 := topFstIs h
  intro k g p hg hp j hj
  match k with
  | 0 =>
    injection hg with hg; injection hp with hp
    subst hg hp
    have := World.var?_cell gTopFst h2 j
    rw [this, List.getElem?_toArray]
  | 1 =>
    injection hg with hg; injection hp with hp
    subst hg hp
    have := World.var?_cell gTopTab h1 j
    rw [this, List.getElem?_toArray]
    rfl
  | k + 2 => cases hg
theorem topFirst {W : World} (h : laidMet Tryz.prog topLaid W) : 0 < W.heap.size ∧ ∀ i, W.cell? ⟨0, i, none⟩ = (#[.int .i64 1, .int .i64 0, .int .i64 0, .int .i64 1] : Array Value)[i]? := by
  have hc : ∀ i, W.cell? ⟨0, i, none⟩ = (#[.int .i64 1, .int .i64 0, .int .i64 0, .int .i64 1] : Array Value)[i]? := fun i => by
    have := World.var?_cell gTopFst (topFstIs h) i
    rw [this]
    rfl
  refine ⟨?_, hc⟩
  rcases Nat.lt_or_ge 0 W.heap.size with h1 | h1
  · exact h1
  · exfalso
    have := hc 0
    simp [World.cell?, Array.getElem?_eq_none h1] at this

/-- a world for the witness: the variables hold what their initialisers lay -/
noncomputable def topWorld0 (os : Os) : World :=
  { World.holding Tryz.prog os ⟨#[], #[], []⟩ with heap := (World.holding Tryz.prog os ⟨#[], #[], []⟩).heap.modify 0 fun
      | .cells _ t frozen => .cells #[.int .i64 1, .int .i64 0, .int .i64 0, .int .i64 1] t frozen
      | o => o }
noncomputable def topWorld (os : Os) : World :=
  { topWorld0 os with heap := (topWorld0 os).heap.modify 1 fun
      | .cells _ t frozen => .cells (topZ.map fun z => Value.int .u8 z).toArray t frozen
      | o => o }
end Go.Proofs.YtminplfgadhnnaaGreatDoor
end

/- TopSimplestPower: the call answers true, whatever the input, and every argument reads as it did. Conditions: none of its own; the listed variables are tied to the program's text by the given tie. -/
section
namespace Go.Proofs.YtminplfgadhnnaaGreatDoor
open Go.ChangeShapes Go.WideShapes Go.ChangeAt Go.RowKit
set_option linter.unusedVariables false

theorem topSimplestPower_laid : Rows.topSimplestPowerRow.laid = topLaid := by kernel_rfl
theorem topSimplestPower_params : (Tryz.f5.params.toList.all fun t => Tryz.prog.readableRec t && decide (t < Tryz.prog.types.size)) = true := by kernel_rfl

set_option maxRecDepth 100000 in
/-- the walk, for each argument that there is and each world that holds the listed variables -/
theorem topSimplestPower_contract (H : Type) (enc : TypeId × Value → H) (W : World) (base : Nat) (args : Array Value) (ds gs : List (DataW H)) (before : List MemPlace)
    (hval : ∀ (j : Nat) t v, Tryz.f5.params[j]? = some t → args[j]? = some v → Value.okWide Tryz.prog W .any base t v)
    (hW : DataW.Whole enc Tryz.prog Tryz.f5.params.toList Rows.topSimplestPowerSpec.vars false W args.toList ds gs before) (hL : laidMetH Tryz.prog Rows.topSimplestPowerRow.laid W) :
    Calls Tryz.prog 5 args W fun e W' => ∃ v, e = .returned v ∧ Rows.topSimplestPowerSpec.post enc Tryz.prog Tryz.f5 false true false false W args v W' := by
  have hW' := hW
  obtain ⟨p, q, hA0, hV, hps, hfz, hnd⟩ := hW
  have hA : DataW.TrodAll enc Tryz.prog W 0 (fun _ => true) true Tryz.f5.params.toList args.toList ds p := hA0
  rw [Tryz.params5] at hA hval
  obtain ⟨v0, v1, d0, d1, p0, p1, rfl, rfl, rfl, h0, h1⟩ := trodAll_two hA
  have hLL : laidMet Tryz.prog topLaid W := by rw [← topSimplestPower_laid]; exact hL
  have hG := topGlob hLL
  have hf := topFirst hLL
  obtain ⟨l0, k0, p0a, p0b, s0a, s0b, t0a, t0b, rfl⟩ := arg_bar (hval 0 62 v0 rfl rfl) h0
  obtain ⟨a1, b1, c1, rfl, ba1, bb1, bc1⟩ := arg_u32x3 (hval 1 64 v1 rfl rfl) h1
  clear hA0
  refine (simplestPower_any l0 k0 p0a p0b s0a s0b t0a t0b a1 b1 c1 W ba1 bb1 bc1 hf hG).mono fun e W' ⟨he, hb⟩ => ?_
  subst he
  exact ⟨_, rfl, law_done laidOut rfl (fun t ht => by have := List.all_eq_true.1 topSimplestPower_params t ht; simpa using this) (by kernel_rfl) Tryz.underlying4 hW' (fun h => by subst h; rfl) (fun h => by subst h; rfl) (fun h => by subst h; rfl) hb⟩

theorem topSimplestPower_laid_met (os : Os) : laidMet Tryz.prog Rows.topSimplestPowerRow.laid ((topWorld os).forCall (fun _ _ => 0) ⟨#[], #[.agg #[.int .i64 0, .int .i64 0, .int .i64 0, .int .i64 0, .int .i64 0, .int .i64 0, .int .i64 0, .int .i64 0], .agg #[.int .u32 0, .int .u32 0, .int .u32 0]], []⟩).memory :=
  laidMet_of_run' 8 (by kernel_rfl) (by kernel_rfl)
theorem topSimplestPower_reads (os : Os) {H : Type} (enc : TypeId × Value → H) : ∃ places, DataW.whole enc Tryz.prog ((topWorld os).forCall (fun _ _ => 0) ⟨#[], #[.agg #[.int .i64 0, .int .i64 0, .int .i64 0, .int .i64 0, .int .i64 0, .int .i64 0, .int .i64 0, .int .i64 0], .agg #[.int .u32 0, .int .u32 0, .int .u32 0]], []⟩).memory Tryz.f5.params.toList Rows.topSimplestPowerSpec.vars false (#[.agg #[.int .i64 0, .int .i64 0, .int .i64 0, .int .i64 0, .int .i64 0, .int .i64 0, .int .i64 0, .int .i64 0], .agg #[.int .u32 0, .int .u32 0, .int .u32 0]] : Array Value).toList 8 = some ([.agg [.lit (.int .i64 0), .lit (.int .i64 0), .agg [.lit (.int .i64 0), .lit (.int .i64 0)], .agg [.lit (.int .i64 0), .lit (.int .i64 0)], .agg [.lit (.int .i64 0), .lit (.int .i64 0)]], .agg [.lit (.int .u32 0), .lit (.int .u32 0), .lit (.int .u32 0)]], [], places) :=
  ⟨[], by kernel_rfl⟩

set_option maxRecDepth 100000 in
theorem topSimplestPower_lifted (os : Os) (started : os.Started) (H : Type) (enc : TypeId × Value → H) (F : Stop.Interp) :
    ReturnsInHanded {} Tryz.checked os 5 .any ((OpenSpec.ofChange Rows.topSimplestPowerSpec).preRow enc Tryz.prog Tryz.f5 Rows.topSimplestPowerRow.domain false Rows.topSimplestPowerRow.laid) (((OpenSpec.ofChange Rows.topSimplestPowerSpec).at F).post enc Tryz.prog Tryz.f5 false true false false) := by
  obtain ⟨places, hx⟩ := topSimplestPower_reads os enc
  refine returnsInHanded_of_row (C := Tryz.checked) (s := OpenSpec.ofChange Rows.topSimplestPowerSpec) own started (by kernel_rfl) Tryz.func5
    (witness_row_at (enc := enc) (C := Tryz.checked) false (topWorld os) #[.agg #[.int .i64 0, .int .i64 0, .int .i64 0, .int .i64 0, .int .i64 0, .int .i64 0, .int .i64 0, .int .i64 0], .agg #[.int .u32 0, .int .u32 0, .int .u32 0]] rfl (by kernel_rfl) (by kernel_rfl) (by kernel_rfl)
      (OpenSpec.preRow_of_cond 8 hx (by kernel_rfl) (fun k hk => by cases hk) (by kernel_rfl) (topSimplestPower_laid_met os))) ?_
  intro W base args ds gs before hval hW _ _ _ hL _ _
  exact topSimplestPower_contract H enc W base args ds gs before hval hW hL

theorem topSimplestPower_said : Rows.TopSimplestPowerSaid :=
  OpenClaim.holds_of_cond 5 Tryz.f5 rfl rfl rfl rfl rfl rfl rfl ⟨rfl, rfl, rfl, rfl, rfl⟩ rfl rfl rfl rfl rfl (by kernel_rfl) Tryz.func5 (by kernel_rfl)
    (of_decide_eq_true (by kernel_rfl)) (by unfold Func.isWrapper; first | (rw [if_pos (by decide +kernel)]; kernel_rfl) | (rw [if_neg (by decide +kernel)]; exact ⟨rfl, rfl⟩))
    (fun os started H enc _ F => by rw [OpenClaim.pre_eq_preRow]; exact topSimplestPower_lifted os started H enc F)

theorem topSimplestPower_plain (f : FuncId) (fn : Func) (hf : Tryz.pinned.checked.prog.funcNamed Rows.topSimplestPowerRow.func = some f) (hfn : Tryz.pinned.checked.prog.funcs[f]? = some fn) :
    false = Tryz.pinned.checked.prog.looks [] ∧ ∀ (j : Nat) t, fn.params[j]? = some t → Tryz.pinned.checked.prog.wantsStandIn t = false := by
  obtain rfl : f = 5 := Option.some.inj ((show Tryz.prog.funcNamed Rows.topSimplestPowerRow.func = some 5 by kernel_rfl).symm.trans hf) |>.symm
  obtain rfl : fn = Tryz.f5 := (Option.some.inj (Tryz.func5.symm.trans hfn)).symm
  refine ⟨by kernel_rfl, fun j t ht => ?_⟩
  have hall : (Tryz.f5.params.toList.all fun u => !Tryz.prog.wantsStandIn u) = true := by kernel_rfl
  have hm : t ∈ Tryz.f5.params.toList := by simpa using Array.mem_of_getElem? ht
  exact (show Tryz.prog.wantsStandIn t = false by simpa using List.all_eq_true.1 hall t hm)

/-- TopSimplestPower, the card -/
theorem topSimplestPower_card : Rows.TopSimplestPowerCardSaid :=
  Claim7.holds_tied_plain_at .later [] _ _ _ _ topSimplestPower_said (fun _ h => by cases h) (by kernel_rfl) (fun _ h => by cases h) topSimplestPower_row_tie rfl ⟨rfl, rfl⟩ (by kernel_rfl) rfl topSimplestPower_plain (by kernel_rfl)
#print axioms topSimplestPower_card
end Go.Proofs.YtminplfgadhnnaaGreatDoor
end
