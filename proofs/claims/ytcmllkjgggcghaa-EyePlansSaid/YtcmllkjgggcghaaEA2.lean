/- Walks of package eye: total, ratio, isChance. -/
import Derived.Test.YtcmllkjgggcghaaEA1
import Derived.Test.YtcmllkjgggcghaaEBase
namespace Go.Proofs.Ytcmllkjgggcghaa
open Go.RowKit Go.Shelf
set_option linter.unusedSimpArgs false
set_option linter.unusedVariables false
open Em (isCh red)

theorem Ints.at0 {w wr : World} {A : Option Addr} {n k : Nat} {zs : List Int} (h : Ints w A n zs) (hb : Below w.heap.size w wr) (hk : k < n) :
    ∃ b off, A = some ⟨b, off, none⟩ ∧ b < w.heap.size ∧ wr.cell? ⟨b, off + k, none⟩ = some (.int .i64 (zs.getD k 0)) := by
  obtain ⟨b, off, rfl, hlt, hc⟩ := h.2 (by omega)
  exact ⟨b, off, rfl, hlt, (hb.cell (p := ⟨b, off + k, none⟩) hlt).trans (hc k hk)⟩

theorem sum_take (zs : List Int) (k : Nat) (hk : k < zs.length) : (zs.take (k + 1)).sum = (zs.take k).sum + zs.getD k 0 := by
  rw [List.take_add_one, List.sum_append, List.getElem?_eq_getElem hk, List.getD_eq_getElem?_getD, List.getElem?_eq_getElem hk]
  simp

theorem sum_nonneg : ∀ zs : List Int, (∀ x ∈ zs, 0 ≤ x) → 0 ≤ zs.sum
  | [], _ => by simp
  | x :: l, h => by
    have h1 := h x (List.mem_cons_self)
    have h2 := sum_nonneg l (fun y hy => h y (List.mem_cons_of_mem _ hy))
    simp only [List.sum_cons]; omega
theorem sum_take_le (zs : List Int) (k : Nat) (h : ∀ x ∈ zs, 0 ≤ x) : 0 ≤ (zs.take k).sum ∧ (zs.take k).sum ≤ zs.sum := by
  have e : zs.sum = (zs.take k).sum + (zs.drop k).sum := by rw [← List.sum_append, List.take_append_drop]
  have h1 := sum_nonneg (zs.take k) (fun x hx => h x (List.mem_of_mem_take hx))
  have h2 := sum_nonneg (zs.drop k) (fun x hx => h x (List.mem_of_mem_drop hx))
  omega

set_option maxHeartbeats 1000000 in
theorem total_exact (A : Option Addr) (n c : Nat) (zs : List Int) (w : World) (hz : Ints w A n zs) (hn : n ≤ 9223372036854775807) (h0 : ∀ x ∈ zs, 0 ≤ x) (hs : zs.sum ≤ 9223372036854775807) (s : Int) (he : s = zs.sum) :
    Calls Try.prog 60 #[.slice A n c] w fun e w' => e = .returned (.int .i64 s) ∧ w = w' := by
  have Hz := Lib.hid hz
  have He := Lib.hid he
  have Hst := Lib.hid (fun k => sum_take_le zs k h0)
  have Hs := Lib.hid hs
  have Hnx := Lib.hid (fun k hk => sum_take zs k hk)
  clear hz h0 hs he
  go_enter Try.func60, Try.ntmps60
  go_wp2_with fail
  go_loopw [3, 8] (fun s3 s8 wr => ∃ (k : Nat) (t : Int), k ≤ n ∧ s8 = .int .i64 k ∧ s3 = .int .i64 t ∧ Hid (t = (zs.take k).sum) ∧ w = wr) (fun _ s8 _ => n - (intOf s8).toNat)
  case atStart => exact ⟨0, 0, Nat.zero_le _, rfl, rfl, Lib.hid (by simp), rfl⟩
  case round =>
    obtain ⟨k, t, hk, rfl, rfl, Ht, rfl⟩ := hrel
    by_cases hkn : k < n
    · obtain ⟨b, off, rfl, _, c0⟩ := Hz.out.at0 (Below.refl _ _) hkn
      have hb1 := Hst.out k
      have hb2 := Hst.out (k + 1)
      have hnx := Hnx.out k (by rw [Hz.out.1]; exact hkn)
      have Ht2 : Hid (t + zs.getD k 0 = (zs.take (k + 1)).sum) := Lib.hid (by rw [hnx, Ht.out])
      have hb3 := Hs.out
      have f1 : IntKind.i64.wrap (t + zs.getD k 0) = t + zs.getD k 0 := IntWalk.i64_in _ (by rw [Ht2.out]; omega)
      clear hb1 hb2 hb3 hnx Ht
      generalize zs.getD k 0 = x at *
      go_wp2_with fail
      go_roundw
      case rel => exact ⟨k + 1, t + x, by omega, by go_num, rfl, Ht2, by trivial⟩
      case measure => simp [intOf]; omega
    · obtain rfl : k = n := by omega
      have Hf : Hid (t = s) := Lib.hid (by rw [Ht.out, He.out, List.take_of_length_le (by rw [Hz.out.1]; exact Nat.le_refl _)])
      clear Ht
      go_wp2_with fail
      go_ret
      exact ⟨ret_int Hf.out, rfl⟩

theorem total_any (A : Option Addr) (n c : Nat) (zs : List Int) (w : World) (hz : Ints w A n zs) (hn : n ≤ 9223372036854775807) (h0 : ∀ x ∈ zs, 0 ≤ x) (hs : zs.sum ≤ 9223372036854775807) (s : Int) (he : s = zs.sum) :
    Calls Try.prog 60 #[.slice A n c] w fun e w' => e = .returned (.int .i64 s) ∧ Below w.heap.size w w' :=
  (total_exact A n c zs w hz hn h0 hs s he).mono fun _ _ ⟨h1, h2⟩ => ⟨h1, h2 ▸ Below.refl _ _⟩

set_option maxHeartbeats 1000000 in
theorem ratio_any (n d : Int) (w : World) (hn : 0 ≤ n) (hd : 1 ≤ d) (hN : n ≤ 9223372036854775807) (hD : d ≤ 9223372036854775807) :
    Calls Try.prog 57 #[.int .i64 n, .int .i64 d] w fun e w' => e = .returned (.agg #[.int .i64 (red n d).1, .int .i64 (red n d).2]) ∧ Below w.heap.size w w' := by
  have hg : 1 ≤ (Int.gcd n d : Int) := by
    have : 0 < Int.gcd n d := Int.gcd_pos_of_ne_zero_right _ (by omega)
    omega
  have k1 := fun W => divisor_any n d W (by omega) (by omega) hN hD
  unfold red
  dsimp only
  generalize (Int.gcd n d : Int) = g at *
  have l1 : 0 ≤ n / g := Int.ediv_nonneg (by omega) (by omega)
  have l2 : 0 ≤ d / g := Int.ediv_nonneg (by omega) (by omega)
  have l3 : n / g ≤ n := Int.ediv_le_self _ (by omega)
  have l4 : d / g ≤ d := Int.ediv_le_self _ (by omega)
  have f1 : n.tdiv g = n / g := Int.tdiv_eq_ediv_of_nonneg (by omega)
  have f2 : d.tdiv g = d / g := Int.tdiv_eq_ediv_of_nonneg (by omega)
  have e1 : IntKind.i64.wrap (n / g) = n / g := IntWalk.i64_in _ (by omega)
  have e2 : IntKind.i64.wrap (d / g) = d / g := IntWalk.i64_in _ (by omega)
  have g0 : (g == 0) = false := by simp; omega
  go_enter Try.func57, Try.ntmps57
  go_wp2_with fail
  refine (k1 _).mono ?_
  rintro e w1 ⟨rfl, hb1⟩
  replace B1 : Cs w1 (w.heap.size) #[.int .i64 0, .int .i64 0] := Cs.keep (by repeat (first | with_reducible assumption | (with_reducible refine Cs.new _ _ _ _ ?_; first | rfl | (simp; done)) | with_reducible refine Cs.alloc ?_ _ | with_reducible refine Cs.drewN ?_ _ | with_reducible refine Cs.drew ?_ | with_reducible refine Cs.set4 ?_ _ _ _ _ | (with_reducible refine Cs.other4 ?_ ?_ _ _ _ _; rotate_left; focus (first | assumption | omega | (simp; done) | (simp; omega))) | with_reducible refine Cs.set2 ?_ _ _ | (with_reducible refine Cs.other2 ?_ ?_ _ _; rotate_left; focus (first | assumption | omega | (simp; done) | (simp; omega))) | (with_reducible refine Cs.other ?_ ?_ _; rotate_left; focus (first | assumption | omega | (simp; done) | (simp; omega))) | with_reducible refine Cs.keep ?_ (by assumption) | assumption)) hb1
  replace hbw : Below w.heap.size w w1 := (by repeat (first | with_reducible exact Below.refl _ _ | with_reducible assumption | with_reducible refine balloc ?_ _ | with_reducible refine bdrewN ?_ _ | with_reducible refine Below.drew ?_ | (with_reducible refine bset ?_ ?_ _; rotate_left; focus (first | assumption | omega | (simp; done) | (simp; omega))) | with_reducible refine bstep ?_ (by assumption) | assumption))
  replace cB1 := B1.c
  replace fB1 := B1.f
  replace lB1 := B1.lt
  clear hb1
  go_wp2_with fail
  go_region
  go_wp2_with fail
  exact bodyPost_ret (v := .agg #[.int .i64 (n / g), .int .i64 (d / g)]) (by simp [results, Try.results57, go_sem, cB1, fB1, lB1]) rfl ⟨rfl, (by repeat (first | with_reducible exact Below.refl _ _ | with_reducible assumption | with_reducible refine balloc ?_ _ | with_reducible refine bdrewN ?_ _ | with_reducible refine Below.drew ?_ | (with_reducible refine bset ?_ ?_ _; rotate_left; focus (first | assumption | omega | (simp; done) | (simp; omega))) | with_reducible refine bstep ?_ (by assumption) | assumption))⟩

set_option maxHeartbeats 1000000 in
theorem isChance_any (n d m : Int) (w : World) (hm : m ≤ 1000000000) :
    Calls Try.prog 58 #[.agg #[.int .i64 n, .int .i64 d], .int .i64 m] w fun e w' => e = .returned (.bool (isCh n d m)) ∧ Below w.heap.size w w' := by
  have k1 := fun A c W hz => within_any 1 m A 1 c [d] W hz (by omega)
  have k2 := fun A c W hz => within_any 0 d A 1 c [n] W hz (by omega)
  have e1 : ([d].all fun x => !out 1 m x) = decide (1 ≤ d ∧ d ≤ m) := by simp [out]; rw [Bool.eq_iff_iff]; simp
  have e2 : ([n].all fun x => !out 0 d x) = decide (0 ≤ n ∧ n ≤ d) := by simp [out]; rw [Bool.eq_iff_iff]; simp
  rw [e1] at k1
  rw [e2] at k2
  clear e1 e2
  by_cases h1 : 1 ≤ d ∧ d ≤ m
  · rw [decide_eq_true h1] at k1
    by_cases h2 : 0 ≤ n ∧ n ≤ d
    · rw [decide_eq_true h2] at k2
      have k3 := fun W => divisor_any n d W (by omega) (by omega) (by omega) (by omega)
      have hfin : Hid (((Int.gcd n d : Int) == 1) = isCh n d m) := Lib.hid (by rw [Bool.eq_iff_iff]; simp [isCh, h1, h2]; omega)
      clear h1 h2
      generalize (Int.gcd n d : Int) = g at *
      go_enter Try.func58, Try.ntmps58
      go_wp2_with fail
      refine (k1 _ _ _ (Ints.new1 _ _ _ _ (by simp))).mono ?_
      rintro _ w1 ⟨rfl, hb1⟩
      replace B0 : Cs w1 (w.heap.size) #[.int .i64 n, .int .i64 d] := Cs.keep (by repeat (first | with_reducible assumption | (with_reducible refine Cs.new _ _ _ _ ?_; first | rfl | (simp; done)) | with_reducible refine Cs.alloc ?_ _ | with_reducible refine Cs.drewN ?_ _ | with_reducible refine Cs.drew ?_ | with_reducible refine Cs.set4 ?_ _ _ _ _ | (with_reducible refine Cs.other4 ?_ ?_ _ _ _ _; rotate_left; focus (first | assumption | omega | (simp; done) | (simp; omega))) | with_reducible refine Cs.set2 ?_ _ _ | (with_reducible refine Cs.other2 ?_ ?_ _ _; rotate_left; focus (first | assumption | omega | (simp; done) | (simp; omega))) | (with_reducible refine Cs.other ?_ ?_ _; rotate_left; focus (first | assumption | omega | (simp; done) | (simp; omega))) | with_reducible refine Cs.keep ?_ (by assumption) | assumption)) hb1
      replace hbw : Below w.heap.size w w1 := (by repeat (first | with_reducible exact Below.refl _ _ | with_reducible assumption | with_reducible refine balloc ?_ _ | with_reducible refine bdrewN ?_ _ | with_reducible refine Below.drew ?_ | (with_reducible refine bset ?_ ?_ _; rotate_left; focus (first | assumption | omega | (simp; done) | (simp; omega))) | with_reducible refine bstep ?_ (by assumption) | assumption))
      replace cB0 := B0.c
      replace fB0 := B0.f
      replace lB0 := B0.lt
      clear hb1
      go_wp2_with fail
      refine (k2 _ _ _ (Ints.new1 _ _ _ _ (by simp))).mono ?_
      rintro _ w2 ⟨rfl, hb2⟩
      replace B0 : Cs w2 (w.heap.size) #[.int .i64 n, .int .i64 d] := Cs.keep (by repeat (first | with_reducible assumption | (with_reducible refine Cs.new _ _ _ _ ?_; first | rfl | (simp; done)) | with_reducible refine Cs.alloc ?_ _ | with_reducible refine Cs.drewN ?_ _ | with_reducible refine Cs.drew ?_ | with_reducible refine Cs.set4 ?_ _ _ _ _ | (with_reducible refine Cs.other4 ?_ ?_ _ _ _ _; rotate_left; focus (first | assumption | omega | (simp; done) | (simp; omega))) | with_reducible refine Cs.set2 ?_ _ _ | (with_reducible refine Cs.other2 ?_ ?_ _ _; rotate_left; focus (first | assumption | omega | (simp; done) | (simp; omega))) | (with_reducible refine Cs.other ?_ ?_ _; rotate_left; focus (first | assumption | omega | (simp; done) | (simp; omega))) | with_reducible refine Cs.keep ?_ (by assumption) | assumption)) hb2
      replace hbw : Below w.heap.size w w2 := (by repeat (first | with_reducible exact Below.refl _ _ | with_reducible assumption | with_reducible refine balloc ?_ _ | with_reducible refine bdrewN ?_ _ | with_reducible refine Below.drew ?_ | (with_reducible refine bset ?_ ?_ _; rotate_left; focus (first | assumption | omega | (simp; done) | (simp; omega))) | with_reducible refine bstep ?_ (by assumption) | assumption))
      replace cB0 := B0.c
      replace fB0 := B0.f
      replace lB0 := B0.lt
      clear hb2
      go_wp2_with fail
      refine (k3 _).mono ?_
      rintro e w3 ⟨rfl, hb3⟩
      try clear cB0 fB0 lB0
      try clear B0
      replace hbw : Below w.heap.size w w3 := (by repeat (first | with_reducible exact Below.refl _ _ | with_reducible assumption | with_reducible refine balloc ?_ _ | with_reducible refine bdrewN ?_ _ | with_reducible refine Below.drew ?_ | (with_reducible refine bset ?_ ?_ _; rotate_left; focus (first | assumption | omega | (simp; done) | (simp; omega))) | with_reducible refine bstep ?_ (by assumption) | assumption))
      clear hb3
      go_wp2_with fail
      go_ret
      exact ⟨ret_bool hfin.out, (by repeat (first | with_reducible exact Below.refl _ _ | with_reducible assumption | with_reducible refine balloc ?_ _ | with_reducible refine bdrewN ?_ _ | with_reducible refine Below.drew ?_ | (with_reducible refine bset ?_ ?_ _; rotate_left; focus (first | assumption | omega | (simp; done) | (simp; omega))) | with_reducible refine bstep ?_ (by assumption) | assumption))⟩
    · rw [decide_eq_false h2] at k2
      have hfin : Hid (false = isCh n d m) := Lib.hid (by symm; simp [isCh]; omega)
      clear h1 h2
      go_enter Try.func58, Try.ntmps58
      go_wp2_with fail
      refine (k1 _ _ _ (Ints.new1 _ _ _ _ (by simp))).mono ?_
      rintro _ w1 ⟨rfl, hb1⟩
      replace B0 : Cs w1 (w.heap.size) #[.int .i64 n, .int .i64 d] := Cs.keep (by repeat (first | with_reducible assumption | (with_reducible refine Cs.new _ _ _ _ ?_; first | rfl | (simp; done)) | with_reducible refine Cs.alloc ?_ _ | with_reducible refine Cs.drewN ?_ _ | with_reducible refine Cs.drew ?_ | with_reducible refine Cs.set4 ?_ _ _ _ _ | (with_reducible refine Cs.other4 ?_ ?_ _ _ _ _; rotate_left; focus (first | assumption | omega | (simp; done) | (simp; omega))) | with_reducible refine Cs.set2 ?_ _ _ | (with_reducible refine Cs.other2 ?_ ?_ _ _; rotate_left; focus (first | assumption | omega | (simp; done) | (simp; omega))) | (with_reducible refine Cs.other ?_ ?_ _; rotate_left; focus (first | assumption | omega | (simp; done) | (simp; omega))) | with_reducible refine Cs.keep ?_ (by assumption) | assumption)) hb1
      replace hbw : Below w.heap.size w w1 := (by repeat (first | with_reducible exact Below.refl _ _ | with_reducible assumption | with_reducible refine balloc ?_ _ | with_reducible refine bdrewN ?_ _ | with_reducible refine Below.drew ?_ | (with_reducible refine bset ?_ ?_ _; rotate_left; focus (first | assumption | omega | (simp; done) | (simp; omega))) | with_reducible refine bstep ?_ (by assumption) | assumption))
      replace cB0 := B0.c
      replace fB0 := B0.f
      replace lB0 := B0.lt
      clear hb1
      go_wp2_with fail
      refine (k2 _ _ _ (Ints.new1 _ _ _ _ (by simp))).mono ?_
      rintro _ w2 ⟨rfl, hb2⟩
      try clear cB0 fB0 lB0
      try clear B0
      replace hbw : Below w.heap.size w w2 := (by repeat (first | with_reducible exact Below.refl _ _ | with_reducible assumption | with_reducible refine balloc ?_ _ | with_reducible refine bdrewN ?_ _ | with_reducible refine Below.drew ?_ | (with_reducible refine bset ?_ ?_ _; rotate_left; focus (first | assumption | omega | (simp; done) | (simp; omega))) | with_reducible refine bstep ?_ (by assumption) | assumption))
      clear hb2
      go_wp2_with fail
      go_ret
      exact ⟨ret_bool hfin.out, (by repeat (first | with_reducible exact Below.refl _ _ | with_reducible assumption | with_reducible refine balloc ?_ _ | with_reducible refine bdrewN ?_ _ | with_reducible refine Below.drew ?_ | (with_reducible refine bset ?_ ?_ _; rotate_left; focus (first | assumption | omega | (simp; done) | (simp; omega))) | with_reducible refine bstep ?_ (by assumption) | assumption))⟩
  · rw [decide_eq_false h1] at k1
    have hfin : Hid (false = isCh n d m) := Lib.hid (by symm; simp [isCh]; omega)
    clear h1 k2
    go_enter Try.func58, Try.ntmps58
    go_wp2_with fail
    refine (k1 _ _ _ (Ints.new1 _ _ _ _ (by simp))).mono ?_
    rintro _ w1 ⟨rfl, hb1⟩
    replace hbw : Below w.heap.size w w1 := (by repeat (first | with_reducible exact Below.refl _ _ | with_reducible assumption | with_reducible refine balloc ?_ _ | with_reducible refine bdrewN ?_ _ | with_reducible refine Below.drew ?_ | (with_reducible refine bset ?_ ?_ _; rotate_left; focus (first | assumption | omega | (simp; done) | (simp; omega))) | with_reducible refine bstep ?_ (by assumption) | assumption))
    clear hb1
    go_wp2_with fail
    go_ret
    exact ⟨ret_bool hfin.out, (by repeat (first | with_reducible exact Below.refl _ _ | with_reducible assumption | with_reducible refine balloc ?_ _ | with_reducible refine bdrewN ?_ _ | with_reducible refine Below.drew ?_ | (with_reducible refine bset ?_ ?_ _; rotate_left; focus (first | assumption | omega | (simp; done) | (simp; omega))) | with_reducible refine bstep ?_ (by assumption) | assumption))⟩

end Go.Proofs.Ytcmllkjgggcghaa
