/- Walks of layer 10: thresholds; small functions of the law package. -/
import Derived.Test.YtcmllkjgggcghaaEA6
namespace Go.Proofs.Ytcmllkjgggcghaa
open Go.RowKit Go.Shelf
set_option linter.unusedSimpArgs false
set_option linter.unusedVariables false

/-- a fraction is a threshold -/
def isTh (n d : Int) : Bool := decide (0 ≤ n ∧ n ≤ 1000000000 ∧ 1 ≤ d ∧ d ≤ 1000000000 ∧ Int.gcd n d = 1)

set_option maxHeartbeats 1000000 in
theorem over_any (n d g e : Int) (w : World) (hn : 0 ≤ n) (hN : n ≤ 1000000000) (hd : 0 ≤ d) (hD : d ≤ 1000000000) (hg : 0 ≤ g) (hG : g ≤ 64000000) (he : 0 ≤ e) (hE : e ≤ 64000000) :
    Calls Try.prog 50 #[.agg #[.int .i64 n, .int .i64 d], .agg #[.int .i64 g, .int .i64 e]] w fun x w' => x = .returned (.int .i64 (e * d - g * n)) ∧ Below w.heap.size w w' := by
  have m0 : 0 ≤ e * d := Int.mul_nonneg he hd
  have m1 : e * d ≤ 64000000 * 1000000000 := Int.mul_le_mul hE hD hd (by omega)
  have m2 : 0 ≤ g * n := Int.mul_nonneg hg hn
  have m3 : g * n ≤ 64000000 * 1000000000 := Int.mul_le_mul hG hN hn (by omega)
  have f1 : IntKind.i64.wrap (e * d) = e * d := IntWalk.i64_in _ (by omega)
  have f2 : IntKind.i64.wrap (g * n) = g * n := IntWalk.i64_in _ (by omega)
  have f3 : IntKind.i64.wrap (e * d - g * n) = e * d - g * n := IntWalk.i64_in _ (by omega)
  clear m0 m1 m2 m3
  go_enter Try.func50, Try.ntmps50
  go_wp2_with fail
  go_ret
  exact ⟨rfl, (by repeat (first | with_reducible exact Below.refl _ _ | with_reducible assumption | with_reducible refine balloc ?_ _ | with_reducible refine bdrewN ?_ _ | with_reducible refine Below.drew ?_ | (with_reducible refine bset ?_ ?_ _; rotate_left; focus (first | assumption | omega | (simp; done) | (simp; omega))) | with_reducible refine bstep ?_ (by assumption) | assumption))⟩

set_option maxHeartbeats 1000000 in
theorem valid_any (n d : Int) (w : World) :
    Calls Try.prog 48 #[.agg #[.int .i64 n, .int .i64 d]] w fun e w' => e = .returned (.bool (isTh n d)) ∧ Below w.heap.size w w' := by
  have k1 := fun A c W hz => within_any 0 1000000000 A 1 c [n] W hz (by omega)
  have k2 := fun A c W hz => within_any 1 1000000000 A 1 c [d] W hz (by omega)
  have e1 : ([n].all fun x => !out 0 1000000000 x) = decide (0 ≤ n ∧ n ≤ 1000000000) := by simp [out]; rw [Bool.eq_iff_iff]; simp
  have e2 : ([d].all fun x => !out 1 1000000000 x) = decide (1 ≤ d ∧ d ≤ 1000000000) := by simp [out]; rw [Bool.eq_iff_iff]; simp
  rw [e1] at k1
  rw [e2] at k2
  clear e1 e2
  by_cases h1 : 0 ≤ n ∧ n ≤ 1000000000
  · rw [decide_eq_true h1] at k1
    by_cases h2 : 1 ≤ d ∧ d ≤ 1000000000
    · rw [decide_eq_true h2] at k2
      have k3 := fun W => divisor_any n d W (by omega) (by omega) (by omega) (by omega)
      have hfin : Hid (((Int.gcd n d : Int) == 1) = isTh n d) := Lib.hid (by rw [Bool.eq_iff_iff]; simp [isTh, h1, h2]; omega)
      clear h1 h2
      generalize (Int.gcd n d : Int) = g at *
      go_enter Try.func48, Try.ntmps48
      go_wp2_with fail
      refine (k1 _ _ _ (Ints.new1 _ _ _ _ (by simp))).mono ?_
      rintro _ w1 ⟨rfl, hb1⟩
      replace B0 : Cs w1 (w.heap.size) #[.int .i64 n, .int .i64 d] := Cs.keep (by repeat (first | with_reducible assumption | (with_reducible refine Cs.new _ _ _ _ ?_; first | rfl | (simp; done)) | with_reducible refine Cs.alloc ?_ _ | with_reducible refine Cs.drewN ?_ _ | with_reducible refine Cs.drew ?_ | with_reducible refine Cs.set4 ?_ _ _ _ _ | (with_reducible refine Cs.other4 ?_ ?_ _ _ _ _; rotate_left; focus (first | assumption | omega | (simp; done) | (simp; omega))) | with_reducible refine Cs.set2 ?_ _ _ | (with_reducible refine Cs.other2 ?_ ?_ _ _; rotate_left; focus (first | assumption | omega | (simp; done) | (simp; omega))) | (with_reducible refine Cs.other ?_ ?_ _; rotate_left; focus (first | assumption | omega | (simp; done) | (simp; omega))) | with_reducible refine Cs.keep ?_ (by assumption) | assumption)) hb1
      replace hbw : Below w.heap.size w w1 := (by repeat (first | with_reducible exact Below.refl _ _ | with_reducible assumption | with_reducible refine balloc ?_ _ | with_reducible refine bdrewN ?_ _ | with_reducible refine Below.drew ?_ | (with_reducible refine bset ?_ ?_ _; rotate_left; focus (first | assumption | omega | (simp; done) | (simp; omega))) | with_reducible refine bstep ?_ (by assumption) | assumption))
      replace cB0 := B0.c
      replace fB0 := B0.f
      replace lB0 := B0.lt
      clear hb1
      go_wp2_with fail
      refine (k2 _ _ _ (Ints.new1 _ _ _ _ (by simp))).mono ?_
      rintro _ w2 ⟨rfl, hb2⟩
      replace B0 : Cs w2 (w.heap.size) #[.int .i64 n, .int .i64 d] := Cs.keep (by repeat (first | with_reducible assumption | (with_reducible refine Cs.new _ _ _ _ ?_; first | rfl | (simp; done)) | with_reducible refine Cs.alloc ?_ _ | with_reducible refine Cs.drewN ?_ _ | with_reducible refine Cs.drew ?_ | with_reducible refine Cs.set4 ?_ _ _ _ _ | (with_reducible refine Cs.other4 ?_ ?_ _ _ _ _; rotate_left; focus (first | assumption | omega | (simp; done) | (simp; omega))) | with_reducible refine Cs.set2 ?_ _ _ | (with_reducible refine Cs.other2 ?_ ?_ _ _; rotate_left; focus (first | assumption | omega | (simp; done) | (simp; omega))) | (with_reducible refine Cs.other ?_ ?_ _; rotate_left; focus (first | assumption | omega | (simp; done) | (simp; omega))) | with_reducible refine Cs.keep ?_ (by assumption) | assumption)) hb2
      replace hbw : Below w.heap.size w w2 := (by repeat (first | with_reducible exact Below.refl _ _ | with_reducible assumption | with_reducible refine balloc ?_ _ | with_reducible refine bdrewN ?_ _ | with_reducible refine Below.drew ?_ | (with_reducible refine bset ?_ ?_ _; rotate_left; focus (first | assumption | omega | (simp; done) | (simp; omega))) | with_reducible refine bstep ?_ (by assumption) | assumption))
      replace cB0 := B0.c
      replace fB0 := B0.f
      replace lB0 := B0.lt
      clear hb2
      go_wp2_with fail
      refine (k3 _).mono ?_
      rintro e w3 ⟨rfl, hb3⟩
      try clear cB0 fB0 lB0
      try clear B0
      replace hbw : Below w.heap.size w w3 := (by repeat (first | with_reducible exact Below.refl _ _ | with_reducible assumption | with_reducible refine balloc ?_ _ | with_reducible refine bdrewN ?_ _ | with_reducible refine Below.drew ?_ | (with_reducible refine bset ?_ ?_ _; rotate_left; focus (first | assumption | omega | (simp; done) | (simp; omega))) | with_reducible refine bstep ?_ (by assumption) | assumption))
      clear hb3
      go_wp2_with fail
      go_ret
      exact ⟨ret_bool hfin.out, (by repeat (first | with_reducible exact Below.refl _ _ | with_reducible assumption | with_reducible refine balloc ?_ _ | with_reducible refine bdrewN ?_ _ | with_reducible refine Below.drew ?_ | (with_reducible refine bset ?_ ?_ _; rotate_left; focus (first | assumption | omega | (simp; done) | (simp; omega))) | with_reducible refine bstep ?_ (by assumption) | assumption))⟩
    · rw [decide_eq_false h2] at k2
      have hfin : Hid (false = isTh n d) := Lib.hid (by symm; simp [isTh]; omega)
      clear h1 h2
      go_enter Try.func48, Try.ntmps48
      go_wp2_with fail
      refine (k1 _ _ _ (Ints.new1 _ _ _ _ (by simp))).mono ?_
      rintro _ w1 ⟨rfl, hb1⟩
      replace B0 : Cs w1 (w.heap.size) #[.int .i64 n, .int .i64 d] := Cs.keep (by repeat (first | with_reducible assumption | (with_reducible refine Cs.new _ _ _ _ ?_; first | rfl | (simp; done)) | with_reducible refine Cs.alloc ?_ _ | with_reducible refine Cs.drewN ?_ _ | with_reducible refine Cs.drew ?_ | with_reducible refine Cs.set4 ?_ _ _ _ _ | (with_reducible refine Cs.other4 ?_ ?_ _ _ _ _; rotate_left; focus (first | assumption | omega | (simp; done) | (simp; omega))) | with_reducible refine Cs.set2 ?_ _ _ | (with_reducible refine Cs.other2 ?_ ?_ _ _; rotate_left; focus (first | assumption | omega | (simp; done) | (simp; omega))) | (with_reducible refine Cs.other ?_ ?_ _; rotate_left; focus (first | assumption | omega | (simp; done) | (simp; omega))) | with_reducible refine Cs.keep ?_ (by assumption) | assumption)) hb1
      replace hbw : Below w.heap.size w w1 := (by repeat (first | with_reducible exact Below.refl _ _ | with_reducible assumption | with_reducible refine balloc ?_ _ | with_reducible refine bdrewN ?_ _ | with_reducible refine Below.drew ?_ | (with_reducible refine bset ?_ ?_ _; rotate_left; focus (first | assumption | omega | (simp; done) | (simp; omega))) | with_reducible refine bstep ?_ (by assumption) | assumption))
      replace cB0 := B0.c
      replace fB0 := B0.f
      replace lB0 := B0.lt
      clear hb1
      go_wp2_with fail
      refine (k2 _ _ _ (Ints.new1 _ _ _ _ (by simp))).mono ?_
      rintro _ w2 ⟨rfl, hb2⟩
      try clear cB0 fB0 lB0
      try clear B0
      replace hbw : Below w.heap.size w w2 := (by repeat (first | with_reducible exact Below.refl _ _ | with_reducible assumption | with_reducible refine balloc ?_ _ | with_reducible refine bdrewN ?_ _ | with_reducible refine Below.drew ?_ | (with_reducible refine bset ?_ ?_ _; rotate_left; focus (first | assumption | omega | (simp; done) | (simp; omega))) | with_reducible refine bstep ?_ (by assumption) | assumption))
      clear hb2
      go_wp2_with fail
      go_ret
      exact ⟨ret_bool hfin.out, (by repeat (first | with_reducible exact Below.refl _ _ | with_reducible assumption | with_reducible refine balloc ?_ _ | with_reducible refine bdrewN ?_ _ | with_reducible refine Below.drew ?_ | (with_reducible refine bset ?_ ?_ _; rotate_left; focus (first | assumption | omega | (simp; done) | (simp; omega))) | with_reducible refine bstep ?_ (by assumption) | assumption))⟩
  · rw [decide_eq_false h1] at k1
    have hfin : Hid (false = isTh n d) := Lib.hid (by symm; simp [isTh]; omega)
    clear h1 k2
    go_enter Try.func48, Try.ntmps48
    go_wp2_with fail
    refine (k1 _ _ _ (Ints.new1 _ _ _ _ (by simp))).mono ?_
    rintro _ w1 ⟨rfl, hb1⟩
    replace hbw : Below w.heap.size w w1 := (by repeat (first | with_reducible exact Below.refl _ _ | with_reducible assumption | with_reducible refine balloc ?_ _ | with_reducible refine bdrewN ?_ _ | with_reducible refine Below.drew ?_ | (with_reducible refine bset ?_ ?_ _; rotate_left; focus (first | assumption | omega | (simp; done) | (simp; omega))) | with_reducible refine bstep ?_ (by assumption) | assumption))
    clear hb1
    go_wp2_with fail
    go_ret
    exact ⟨ret_bool hfin.out, (by repeat (first | with_reducible exact Below.refl _ _ | with_reducible assumption | with_reducible refine balloc ?_ _ | with_reducible refine bdrewN ?_ _ | with_reducible refine Below.drew ?_ | (with_reducible refine bset ?_ ?_ _; rotate_left; focus (first | assumption | omega | (simp; done) | (simp; omega))) | with_reducible refine bstep ?_ (by assumption) | assumption))⟩

set_option maxHeartbeats 1000000 in
theorem risThreshold_any (n d : Int) (w : World) :
    Calls Try.prog 51 #[.agg #[.int .i64 n, .int .i64 d]] w fun e w' => e = .returned (.bool (isTh n d)) ∧ Below w.heap.size w w' := by
  by_cases h1 : 0 ≤ n
  case neg =>
    have hfin : Hid (false = isTh n d) := Lib.hid (by symm; simp [isTh]; omega)
    go_enter Try.func51, Try.ntmps51
    go_wp2_with fail
    go_ret
    exact ⟨ret_bool hfin.out, (by repeat (first | with_reducible exact Below.refl _ _ | with_reducible assumption | with_reducible refine balloc ?_ _ | with_reducible refine bdrewN ?_ _ | with_reducible refine Below.drew ?_ | (with_reducible refine bset ?_ ?_ _; rotate_left; focus (first | assumption | omega | (simp; done) | (simp; omega))) | with_reducible refine bstep ?_ (by assumption) | assumption))⟩
  case pos =>
  by_cases h2 : n ≤ 1000000000
  case neg =>
    have hfin : Hid (false = isTh n d) := Lib.hid (by symm; simp [isTh]; omega)
    go_enter Try.func51, Try.ntmps51
    go_wp2_with fail
    go_ret
    exact ⟨ret_bool hfin.out, (by repeat (first | with_reducible exact Below.refl _ _ | with_reducible assumption | with_reducible refine balloc ?_ _ | with_reducible refine bdrewN ?_ _ | with_reducible refine Below.drew ?_ | (with_reducible refine bset ?_ ?_ _; rotate_left; focus (first | assumption | omega | (simp; done) | (simp; omega))) | with_reducible refine bstep ?_ (by assumption) | assumption))⟩
  case pos =>
  by_cases h3 : 1 ≤ d
  case neg =>
    have hfin : Hid (false = isTh n d) := Lib.hid (by symm; simp [isTh]; omega)
    go_enter Try.func51, Try.ntmps51
    go_wp2_with fail
    go_ret
    exact ⟨ret_bool hfin.out, (by repeat (first | with_reducible exact Below.refl _ _ | with_reducible assumption | with_reducible refine balloc ?_ _ | with_reducible refine bdrewN ?_ _ | with_reducible refine Below.drew ?_ | (with_reducible refine bset ?_ ?_ _; rotate_left; focus (first | assumption | omega | (simp; done) | (simp; omega))) | with_reducible refine bstep ?_ (by assumption) | assumption))⟩
  case pos =>
  by_cases h4 : d ≤ 1000000000
  case neg =>
    have hfin : Hid (false = isTh n d) := Lib.hid (by symm; simp [isTh]; omega)
    go_enter Try.func51, Try.ntmps51
    go_wp2_with fail
    go_ret
    exact ⟨ret_bool hfin.out, (by repeat (first | with_reducible exact Below.refl _ _ | with_reducible assumption | with_reducible refine balloc ?_ _ | with_reducible refine bdrewN ?_ _ | with_reducible refine Below.drew ?_ | (with_reducible refine bset ?_ ?_ _; rotate_left; focus (first | assumption | omega | (simp; done) | (simp; omega))) | with_reducible refine bstep ?_ (by assumption) | assumption))⟩
  case pos =>
  have k3 := fun W => rcommon_any n d W (by omega) (by omega) (by omega) (by omega)
  have hfin : Hid (((Int.gcd n d : Int) == 1) = isTh n d) := Lib.hid (by rw [Bool.eq_iff_iff]; simp [isTh, h1, h2, h3, h4]; omega)
  generalize (Int.gcd n d : Int) = g at *
  go_enter Try.func51, Try.ntmps51
  go_wp2_with fail
  refine (k3 _).mono ?_
  rintro e w1 ⟨rfl, hb1⟩
  replace hbw : Below w.heap.size w w1 := (by repeat (first | with_reducible exact Below.refl _ _ | with_reducible assumption | with_reducible refine balloc ?_ _ | with_reducible refine bdrewN ?_ _ | with_reducible refine Below.drew ?_ | (with_reducible refine bset ?_ ?_ _; rotate_left; focus (first | assumption | omega | (simp; done) | (simp; omega))) | with_reducible refine bstep ?_ (by assumption) | assumption))
  clear hb1
  go_wp2_with fail
  go_ret
  exact ⟨ret_bool hfin.out, (by repeat (first | with_reducible exact Below.refl _ _ | with_reducible assumption | with_reducible refine balloc ?_ _ | with_reducible refine bdrewN ?_ _ | with_reducible refine Below.drew ?_ | (with_reducible refine bset ?_ ?_ _; rotate_left; focus (first | assumption | omega | (simp; done) | (simp; omega))) | with_reducible refine bstep ?_ (by assumption) | assumption))⟩

set_option maxHeartbeats 400000 in
theorem of_any (n d : Int) (w : World) :
    Calls Try.prog 28 #[.int .i64 n, .int .i64 d] w fun e w' => e = .returned (.agg #[.int .i64 n, .int .i64 d]) ∧ Below w.heap.size w w' := by
  go_enter Try.func28, Try.ntmps28
  go_wp2_with fail
  exact bodyPost_ret (v := .agg #[.int .i64 n, .int .i64 d]) (by simp [results, Try.results28, go_sem]) rfl ⟨rfl, (by repeat (first | with_reducible exact Below.refl _ _ | with_reducible assumption | with_reducible refine balloc ?_ _ | with_reducible refine bdrewN ?_ _ | with_reducible refine Below.drew ?_ | (with_reducible refine bset ?_ ?_ _; rotate_left; focus (first | assumption | omega | (simp; done) | (simp; omega))) | with_reducible refine bstep ?_ (by assumption) | assumption))⟩

theorem list_ext_getD (xs ys : List Int) (hl : xs.length = ys.length) (h : ∀ i, i < xs.length → xs.getD i 0 = ys.getD i 0) : xs = ys := by
  apply List.ext_getElem? 
  intro i
  by_cases hi : i < xs.length
  · have := h i hi
    rw [List.getD_eq_getElem?_getD, List.getD_eq_getElem?_getD, List.getElem?_eq_getElem hi, List.getElem?_eq_getElem (by omega)] at this
    rw [List.getElem?_eq_getElem hi, List.getElem?_eq_getElem (by omega)]
    simpa using this
  · rw [List.getElem?_eq_none (by omega), List.getElem?_eq_none (by omega)]

set_option maxHeartbeats 1000000 in
theorem ints_any (A B : Option Addr) (n m c c' : Nat) (xs ys : List Int) (w : World) (hx : Ints w A n xs) (hy : Ints w B m ys) (hn : n ≤ 9223372036854775807) (hm : m ≤ 9223372036854775807) (r : Bool) (hr : r = decide (xs = ys)) :
    Calls Try.prog 17 #[.slice A n c, .slice B m c'] w fun e w' => e = .returned (.bool r) ∧ Below w.heap.size w w' := by
  have Hx := Lib.hid hx
  have Hy := Lib.hid hy
  have Hr := Lib.hid hr
  clear hx hy hr
  by_cases hnm : n = m
  · subst hnm
    go_enter Try.func17, Try.ntmps17
    go_wp2_with fail
    go_loopw [5] (fun iv wr => ∃ k : Nat, k ≤ n ∧ iv = .int .i64 k ∧ Hid (∀ j, j < k → xs.getD j 0 = ys.getD j 0) ∧ Below w.heap.size w wr) (fun iv _ => n - (intOf iv).toNat)
    case atStart => exact ⟨0, by omega, rfl, Lib.hid (fun j hj => absurd hj (by omega)), (by repeat (first | with_reducible exact Below.refl _ _ | with_reducible assumption | with_reducible refine balloc ?_ _ | with_reducible refine bdrewN ?_ _ | with_reducible refine Below.drew ?_ | (with_reducible refine bset ?_ ?_ _; rotate_left; focus (first | assumption | omega | (simp; done) | (simp; omega))) | with_reducible refine bstep ?_ (by assumption) | assumption))⟩
    case round =>
      obtain ⟨k, hk, rfl, Hk, hbw⟩ := hrel
      by_cases hlt : k < n
      · obtain ⟨b1, o1, rfl, _, e1⟩ := Hx.out.at0 hbw hlt
        obtain ⟨b2, o2, rfl, _, e2⟩ := Hy.out.at0 hbw hlt
        by_cases he : xs.getD k 0 = ys.getD k 0
        · have Hk2 : Hid (∀ j, j < k + 1 → xs.getD j 0 = ys.getD j 0) := Lib.hid (fun j hj => by
            by_cases e : j = k
            · rw [e]; exact he
            · exact Hk.out j (by omega))
          rw [he] at e1
          generalize ys.getD k 0 = y at *
          clear he
          go_wp2_with fail
          go_quiet (fail)
          go_wp2_with fail
          go_roundw
          case rel => exact ⟨k + 1, by omega, by go_num, Hk2, (by repeat (first | with_reducible exact Below.refl _ _ | with_reducible assumption | with_reducible refine balloc ?_ _ | with_reducible refine bdrewN ?_ _ | with_reducible refine Below.drew ?_ | (with_reducible refine bset ?_ ?_ _; rotate_left; focus (first | assumption | omega | (simp; done) | (simp; omega))) | with_reducible refine bstep ?_ (by assumption) | assumption))⟩
          case measure => simp [intOf]; omega
        · have hr0 : Hid (r = false) := Lib.hid (by
            rw [Hr.out]
            exact decide_eq_false (fun h => he (by rw [h])))
          obtain rfl := hr0.out
          have he2 : (xs.getD k 0 == ys.getD k 0) = false := by simpa using he
          have he3 : (xs.getD k 0 != ys.getD k 0) = true := by simpa using he
          clear hr0 Hr Hk
          generalize xs.getD k 0 = x at *
          generalize ys.getD k 0 = y at *
          go_wp2_with fail
          go_quiet (fail)
          go_wp2_with fail
          go_ret
          exact ⟨rfl, (by repeat (first | with_reducible exact Below.refl _ _ | with_reducible assumption | with_reducible refine balloc ?_ _ | with_reducible refine bdrewN ?_ _ | with_reducible refine Below.drew ?_ | (with_reducible refine bset ?_ ?_ _; rotate_left; focus (first | assumption | omega | (simp; done) | (simp; omega))) | with_reducible refine bstep ?_ (by assumption) | assumption))⟩
      · obtain rfl : k = n := by omega
        have hr0 : Hid (r = true) := Lib.hid (by
          rw [Hr.out]
          exact decide_eq_true (list_ext_getD _ _ (by rw [Hx.out.1, Hy.out.1]) (fun i hi => Hk.out i (by have := Hx.out.1; omega))))
        obtain rfl := hr0.out
        clear hr0 Hr Hk
        go_wp2_with fail
        go_ret
        exact ⟨rfl, (by repeat (first | with_reducible exact Below.refl _ _ | with_reducible assumption | with_reducible refine balloc ?_ _ | with_reducible refine bdrewN ?_ _ | with_reducible refine Below.drew ?_ | (with_reducible refine bset ?_ ?_ _; rotate_left; focus (first | assumption | omega | (simp; done) | (simp; omega))) | with_reducible refine bstep ?_ (by assumption) | assumption))⟩
  · have hr0 : Hid (r = false) := Lib.hid (by
      rw [Hr.out]
      exact decide_eq_false (fun h => hnm (by rw [← Hx.out.1, ← Hy.out.1, h])))
    obtain rfl := hr0.out
    have h1 : ((n : Int) == (m : Int)) = false := by simp; omega
    have h2 : ¬ (n : Int) = (m : Int) := by omega
    have h3 : ¬ n = m := hnm
    clear hr0 Hr hnm
    go_enter Try.func17, Try.ntmps17
    go_wp2_with fail
    go_ret
    exact ⟨rfl, (by repeat (first | with_reducible exact Below.refl _ _ | with_reducible assumption | with_reducible refine balloc ?_ _ | with_reducible refine bdrewN ?_ _ | with_reducible refine Below.drew ?_ | (with_reducible refine bset ?_ ?_ _; rotate_left; focus (first | assumption | omega | (simp; done) | (simp; omega))) | with_reducible refine bstep ?_ (by assumption) | assumption))⟩


end Go.Proofs.Ytcmllkjgggcghaa
