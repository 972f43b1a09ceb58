/- The walk of package eye's Tail. -/
import Derived.Test.YtcmllkjgggcghaaEA3
namespace Go.Proofs.Ytcmllkjgggcghaa
open Go.RowKit Go.Shelf
set_option linter.unusedSimpArgs false
set_option linter.unusedVariables false
open Em (isCh red cnt)

/-- some of thirteen numbers, as a list -/
def part (f : Nat → Int) (r m : Nat) : List Int := (List.range m).map fun i => f (r + i)
theorem part_len (f : Nat → Int) (r m : Nat) : (part f r m).length = m := by simp [part]
theorem part_sum (N M : Int) (n r : Nat) : ∀ m, (part (cnt N M n) r m).sum = Em.head N M n (r + m) - Em.head N M n r
  | 0 => by simp [part]
  | m + 1 => by
    have h := part_sum N M n r m
    unfold part at h ⊢
    rw [List.range_succ, List.map_append, List.sum_append, h]
    have e : Em.head N M n (r + (m + 1)) = Em.head N M n (r + m) + cnt N M n (r + m) := rfl
    rw [e]
    simp; omega
theorem part_ints {w : World} {g : Nat} {f : Nat → Int} (h : Cs w g (arr f)) (r m : Nat) (hr : r + m ≤ 13) : Ints w (some ⟨g, r, none⟩) m (part f r m) := by
  refine ⟨part_len f r m, fun _ => ⟨g, r, rfl, h.lt, fun i hi => ?_⟩⟩
  rw [h.c, arr_get f (r + i) (by omega)]
  simp [part, List.getD_eq_getElem?_getD, hi]
theorem part_nonneg {N M : Int} (hN : 0 ≤ N) (hM : 0 ≤ M) (n r m : Nat) : ∀ x ∈ part (cnt N M n) r m, 0 ≤ x := by
  intro x hx
  obtain ⟨i, _, rfl⟩ := List.mem_map.1 hx
  exact Em.cnt_nonneg hN hM n _
theorem pow_pos {D : Int} (h : 1 ≤ D) : ∀ n : Nat, 1 ≤ D ^ n
  | 0 => by simp
  | n + 1 => by
    rw [Int.pow_succ]
    have := Int.mul_le_mul (pow_pos h n) h (by omega) (by have := pow_pos h n; omega)
    omega

/-- the tail of a plan, and the error -/
def tailP (P R N D : Int) : (Int × Int) × Int :=
  if 1 ≤ P ∧ P ≤ 12 ∧ 0 ≤ R ∧ R ≤ P ∧ isCh N D 10 = true then (red (Em.tail N (D - N) P.toNat R.toNat) (D ^ P.toNat), 0) else ((0, 0), 2)

/-- a fraction and the error -/
def RetFE (r : (Int × Int) × Int) : Ending := .returned (.tuple #[.agg #[.int .i64 r.1.1, .int .i64 r.1.2], .int .i64 r.2])

set_option maxRecDepth 10000 in
set_option maxHeartbeats 2000000 in
theorem tail_bad (P R N D : Int) (w : World) (h : ¬ (1 ≤ P ∧ P ≤ 12 ∧ 0 ≤ R ∧ R ≤ P ∧ isCh N D 10 = true)) :
    Calls Try.prog 22 #[.agg #[.int .i64 P, .int .i64 R], .agg #[.int .i64 N, .int .i64 D]] w fun e w' => e = RetFE ((0, 0), 2) ∧ Below w.heap.size w w' := by
  unfold RetFE
  have k1 := fun W => isChance_any N D 10 W (by omega)
  have Hh := Lib.hid h
  clear h
  by_cases h1 : P < 1
  · clear k1 Hh
    go_enter Try.func22, Try.ntmps22
    go_wp2_with fail
    exact bodyPost_ret (v := .tuple #[.agg #[.int .i64 0, .int .i64 0], .int .i64 2]) (by simp [results, Try.results22, go_sem]) rfl ⟨rfl, (by repeat (first | with_reducible exact Below.refl _ _ | with_reducible assumption | with_reducible refine balloc ?_ _ | with_reducible refine bdrewN ?_ _ | with_reducible refine Below.drew ?_ | (with_reducible refine bset ?_ ?_ _; rotate_left; focus (first | assumption | omega | (simp; done) | (simp; omega))) | with_reducible refine bstep ?_ (by assumption) | assumption))⟩
  · by_cases h2 : 12 < P
    · clear k1 Hh
      go_enter Try.func22, Try.ntmps22
      go_wp2_with fail
      exact bodyPost_ret (v := .tuple #[.agg #[.int .i64 0, .int .i64 0], .int .i64 2]) (by simp [results, Try.results22, go_sem]) rfl ⟨rfl, (by repeat (first | with_reducible exact Below.refl _ _ | with_reducible assumption | with_reducible refine balloc ?_ _ | with_reducible refine bdrewN ?_ _ | with_reducible refine Below.drew ?_ | (with_reducible refine bset ?_ ?_ _; rotate_left; focus (first | assumption | omega | (simp; done) | (simp; omega))) | with_reducible refine bstep ?_ (by assumption) | assumption))⟩
    · by_cases h3 : R < 0
      · clear k1 Hh
        go_enter Try.func22, Try.ntmps22
        go_wp2_with fail
        exact bodyPost_ret (v := .tuple #[.agg #[.int .i64 0, .int .i64 0], .int .i64 2]) (by simp [results, Try.results22, go_sem]) rfl ⟨rfl, (by repeat (first | with_reducible exact Below.refl _ _ | with_reducible assumption | with_reducible refine balloc ?_ _ | with_reducible refine bdrewN ?_ _ | with_reducible refine Below.drew ?_ | (with_reducible refine bset ?_ ?_ _; rotate_left; focus (first | assumption | omega | (simp; done) | (simp; omega))) | with_reducible refine bstep ?_ (by assumption) | assumption))⟩
      · by_cases h4 : P < R
        · clear k1 Hh
          go_enter Try.func22, Try.ntmps22
          go_wp2_with fail
          exact bodyPost_ret (v := .tuple #[.agg #[.int .i64 0, .int .i64 0], .int .i64 2]) (by simp [results, Try.results22, go_sem]) rfl ⟨rfl, (by repeat (first | with_reducible exact Below.refl _ _ | with_reducible assumption | with_reducible refine balloc ?_ _ | with_reducible refine bdrewN ?_ _ | with_reducible refine Below.drew ?_ | (with_reducible refine bset ?_ ?_ _; rotate_left; focus (first | assumption | omega | (simp; done) | (simp; omega))) | with_reducible refine bstep ?_ (by assumption) | assumption))⟩
        · have h5 : isCh N D 10 = false := by
            cases h5 : isCh N D 10 with
            | false => rfl
            | true => exact absurd ⟨by omega, by omega, by omega, by omega, h5⟩ Hh.out
          rw [h5] at k1
          clear Hh h5
          go_enter Try.func22, Try.ntmps22
          go_wp2_with fail
          refine (k1 _).mono ?_
          rintro e w1 ⟨rfl, hb1⟩
          replace B2 : Cs w1 (w.heap.size + 1 + 1) #[.int .i64 0, .int .i64 0] := Cs.keep (by repeat (first | with_reducible assumption | (with_reducible refine Cs.new _ _ _ _ ?_; first | rfl | (simp; done)) | with_reducible refine Cs.alloc ?_ _ | with_reducible refine Cs.drewN ?_ _ | with_reducible refine Cs.drew ?_ | with_reducible refine Cs.set4 ?_ _ _ _ _ | (with_reducible refine Cs.other4 ?_ ?_ _ _ _ _; rotate_left; focus (first | assumption | omega | (simp; done) | (simp; omega))) | with_reducible refine Cs.set2 ?_ _ _ | (with_reducible refine Cs.other2 ?_ ?_ _ _; rotate_left; focus (first | assumption | omega | (simp; done) | (simp; omega))) | (with_reducible refine Cs.other ?_ ?_ _; rotate_left; focus (first | assumption | omega | (simp; done) | (simp; omega))) | with_reducible refine Cs.keep ?_ (by assumption) | assumption)) hb1
          replace hbw : Below w.heap.size w w1 := (by repeat (first | with_reducible exact Below.refl _ _ | with_reducible assumption | with_reducible refine balloc ?_ _ | with_reducible refine bdrewN ?_ _ | with_reducible refine Below.drew ?_ | (with_reducible refine bset ?_ ?_ _; rotate_left; focus (first | assumption | omega | (simp; done) | (simp; omega))) | with_reducible refine bstep ?_ (by assumption) | assumption))
          replace cB2 := B2.c
          replace fB2 := B2.f
          replace lB2 := B2.lt
          clear hb1
          go_wp2_with fail
          exact bodyPost_ret (v := .tuple #[.agg #[.int .i64 0, .int .i64 0], .int .i64 2]) (by simp [results, Try.results22, go_sem, cB2, fB2, lB2]) rfl ⟨rfl, (by repeat (first | with_reducible exact Below.refl _ _ | with_reducible assumption | with_reducible refine balloc ?_ _ | with_reducible refine bdrewN ?_ _ | with_reducible refine Below.drew ?_ | (with_reducible refine bset ?_ ?_ _; rotate_left; focus (first | assumption | omega | (simp; done) | (simp; omega))) | with_reducible refine bstep ?_ (by assumption) | assumption))⟩

set_option maxRecDepth 10000 in
set_option maxHeartbeats 2000000 in
theorem tail_ok (n r : Nat) (N D : Int) (w : World) (h1 : 1 ≤ n) (h2 : n ≤ 12) (h3 : r ≤ n) (h : isCh N D 10 = true) :
    Calls Try.prog 22 #[.agg #[.int .i64 n, .int .i64 r], .agg #[.int .i64 N, .int .i64 D]] w fun e w' => e = RetFE (red (Em.tail N (D - N) n r) (D ^ n), 0) ∧ Below w.heap.size w w' := by
  unfold RetFE
  have k1 := fun W => isChance_any N D 10 W (by omega)
  rw [h] at k1
  have hc : 1 ≤ D ∧ D ≤ 10 ∧ 0 ≤ N ∧ N ≤ D ∧ Int.gcd N D = 1 := of_decide_eq_true h
  obtain ⟨c1, c2, c3, c4, _⟩ := hc
  have k2 := fun W => runs_any n N D W h2 c3 c4 c2
  have hM : 0 ≤ D - N := by omega
  have hp1 := pow_pos c1 n
  have hp2 := pow_le (show 0 ≤ D by omega) c2 n h2
  have ht0 := Em.tail_nonneg c3 hM n r
  have ht1 := Em.tail_bound c3 hM n r
  rw [show N + (D - N) = D by omega] at ht1
  have hsum : Em.tail N (D - N) n r = (part (cnt N (D - N) n) r (13 - r)).sum := by
    rw [part_sum, show r + (13 - r) = n + 1 + (12 - n) by omega, Em.head_full]; rfl
  have k3 := fun A c W hz => total_any A (13 - r) c (part (cnt N (D - N) n) r (13 - r)) W hz (by omega) (part_nonneg c3 hM n r _) (by rw [← hsum]; omega) _ hsum
  have k4 := fun W => ratio_any (Em.tail N (D - N) n r) (D ^ n) W ht0 hp1 (by omega) (by omega)
  have a1 : ¬ (n : Int) < 1 := by omega
  have a2 : ¬ (12 : Int) < (n : Int) := by omega
  have a3 : ¬ (r : Int) < 0 := by omega
  have a4 : ¬ (n : Int) < (r : Int) := by omega
  have a5 : (0 : Int) ≤ (r : Int) := by omega
  have a6 : (r : Int) ≤ 13 := by omega
  have a7 : ¬ 13 - r = 0 := by omega
  have a8 : r ≤ 13 := by omega
  clear h hsum ht0 ht1 hp1 hp2 c1 c2 c3 c4 hM
  have Hpi := Lib.hid (fun (W : World) (g : Nat) (f : Nat → Int) (hg : Cs W g (arr f)) => part_ints hg r (13 - r) (by omega))
  generalize hT : Em.tail N (D - N) n r = T at *
  generalize hq : D ^ n = q at *
  generalize hf : cnt N (D - N) n = f at *
  unfold arr at k2
  go_enter Try.func22, Try.ntmps22
  go_wp2_with fail
  refine (k1 _).mono ?_
  rintro e w1 ⟨rfl, hb1⟩
  replace B0 : Cs w1 (w.heap.size) #[.int .i64 n, .int .i64 r] := Cs.keep (by repeat (first | with_reducible assumption | (with_reducible refine Cs.new _ _ _ _ ?_; first | rfl | (simp; done)) | with_reducible refine Cs.alloc ?_ _ | with_reducible refine Cs.drewN ?_ _ | with_reducible refine Cs.drew ?_ | with_reducible refine Cs.set4 ?_ _ _ _ _ | (with_reducible refine Cs.other4 ?_ ?_ _ _ _ _; rotate_left; focus (first | assumption | omega | (simp; done) | (simp; omega))) | with_reducible refine Cs.set2 ?_ _ _ | (with_reducible refine Cs.other2 ?_ ?_ _ _; rotate_left; focus (first | assumption | omega | (simp; done) | (simp; omega))) | (with_reducible refine Cs.other ?_ ?_ _; rotate_left; focus (first | assumption | omega | (simp; done) | (simp; omega))) | with_reducible refine Cs.keep ?_ (by assumption) | assumption)) hb1
  replace B1 : Cs w1 (w.heap.size + 1) #[.int .i64 N, .int .i64 D] := Cs.keep (by repeat (first | with_reducible assumption | (with_reducible refine Cs.new _ _ _ _ ?_; first | rfl | (simp; done)) | with_reducible refine Cs.alloc ?_ _ | with_reducible refine Cs.drewN ?_ _ | with_reducible refine Cs.drew ?_ | with_reducible refine Cs.set4 ?_ _ _ _ _ | (with_reducible refine Cs.other4 ?_ ?_ _ _ _ _; rotate_left; focus (first | assumption | omega | (simp; done) | (simp; omega))) | with_reducible refine Cs.set2 ?_ _ _ | (with_reducible refine Cs.other2 ?_ ?_ _ _; rotate_left; focus (first | assumption | omega | (simp; done) | (simp; omega))) | (with_reducible refine Cs.other ?_ ?_ _; rotate_left; focus (first | assumption | omega | (simp; done) | (simp; omega))) | with_reducible refine Cs.keep ?_ (by assumption) | assumption)) hb1
  replace B2 : Cs w1 (w.heap.size + 1 + 1) #[.int .i64 0, .int .i64 0] := Cs.keep (by repeat (first | with_reducible assumption | (with_reducible refine Cs.new _ _ _ _ ?_; first | rfl | (simp; done)) | with_reducible refine Cs.alloc ?_ _ | with_reducible refine Cs.drewN ?_ _ | with_reducible refine Cs.drew ?_ | with_reducible refine Cs.set4 ?_ _ _ _ _ | (with_reducible refine Cs.other4 ?_ ?_ _ _ _ _; rotate_left; focus (first | assumption | omega | (simp; done) | (simp; omega))) | with_reducible refine Cs.set2 ?_ _ _ | (with_reducible refine Cs.other2 ?_ ?_ _ _; rotate_left; focus (first | assumption | omega | (simp; done) | (simp; omega))) | (with_reducible refine Cs.other ?_ ?_ _; rotate_left; focus (first | assumption | omega | (simp; done) | (simp; omega))) | with_reducible refine Cs.keep ?_ (by assumption) | assumption)) hb1
  replace hbw : Below w.heap.size w w1 := (by repeat (first | with_reducible exact Below.refl _ _ | with_reducible assumption | with_reducible refine balloc ?_ _ | with_reducible refine bdrewN ?_ _ | with_reducible refine Below.drew ?_ | (with_reducible refine bset ?_ ?_ _; rotate_left; focus (first | assumption | omega | (simp; done) | (simp; omega))) | with_reducible refine bstep ?_ (by assumption) | assumption))
  replace cB0 := B0.c
  replace fB0 := B0.f
  replace lB0 := B0.lt
  replace cB1 := B1.c
  replace fB1 := B1.f
  replace lB1 := B1.lt
  replace cB2 := B2.c
  replace fB2 := B2.f
  replace lB2 := B2.lt
  clear hb1
  go_wp2_with fail
  refine (k2 _).mono ?_
  rintro e w2 ⟨rfl, hb2⟩
  replace B0 : Cs w2 (w.heap.size) #[.int .i64 n, .int .i64 r] := Cs.keep (by repeat (first | with_reducible assumption | (with_reducible refine Cs.new _ _ _ _ ?_; first | rfl | (simp; done)) | with_reducible refine Cs.alloc ?_ _ | with_reducible refine Cs.drewN ?_ _ | with_reducible refine Cs.drew ?_ | with_reducible refine Cs.set4 ?_ _ _ _ _ | (with_reducible refine Cs.other4 ?_ ?_ _ _ _ _; rotate_left; focus (first | assumption | omega | (simp; done) | (simp; omega))) | with_reducible refine Cs.set2 ?_ _ _ | (with_reducible refine Cs.other2 ?_ ?_ _ _; rotate_left; focus (first | assumption | omega | (simp; done) | (simp; omega))) | (with_reducible refine Cs.other ?_ ?_ _; rotate_left; focus (first | assumption | omega | (simp; done) | (simp; omega))) | with_reducible refine Cs.keep ?_ (by assumption) | assumption)) hb2
  replace B1 : Cs w2 (w.heap.size + 1) #[.int .i64 N, .int .i64 D] := Cs.keep (by repeat (first | with_reducible assumption | (with_reducible refine Cs.new _ _ _ _ ?_; first | rfl | (simp; done)) | with_reducible refine Cs.alloc ?_ _ | with_reducible refine Cs.drewN ?_ _ | with_reducible refine Cs.drew ?_ | with_reducible refine Cs.set4 ?_ _ _ _ _ | (with_reducible refine Cs.other4 ?_ ?_ _ _ _ _; rotate_left; focus (first | assumption | omega | (simp; done) | (simp; omega))) | with_reducible refine Cs.set2 ?_ _ _ | (with_reducible refine Cs.other2 ?_ ?_ _ _; rotate_left; focus (first | assumption | omega | (simp; done) | (simp; omega))) | (with_reducible refine Cs.other ?_ ?_ _; rotate_left; focus (first | assumption | omega | (simp; done) | (simp; omega))) | with_reducible refine Cs.keep ?_ (by assumption) | assumption)) hb2
  replace B2 : Cs w2 (w.heap.size + 1 + 1) #[.int .i64 0, .int .i64 0] := Cs.keep (by repeat (first | with_reducible assumption | (with_reducible refine Cs.new _ _ _ _ ?_; first | rfl | (simp; done)) | with_reducible refine Cs.alloc ?_ _ | with_reducible refine Cs.drewN ?_ _ | with_reducible refine Cs.drew ?_ | with_reducible refine Cs.set4 ?_ _ _ _ _ | (with_reducible refine Cs.other4 ?_ ?_ _ _ _ _; rotate_left; focus (first | assumption | omega | (simp; done) | (simp; omega))) | with_reducible refine Cs.set2 ?_ _ _ | (with_reducible refine Cs.other2 ?_ ?_ _ _; rotate_left; focus (first | assumption | omega | (simp; done) | (simp; omega))) | (with_reducible refine Cs.other ?_ ?_ _; rotate_left; focus (first | assumption | omega | (simp; done) | (simp; omega))) | with_reducible refine Cs.keep ?_ (by assumption) | assumption)) hb2
  replace hbw : Below w.heap.size w w2 := (by repeat (first | with_reducible exact Below.refl _ _ | with_reducible assumption | with_reducible refine balloc ?_ _ | with_reducible refine bdrewN ?_ _ | with_reducible refine Below.drew ?_ | (with_reducible refine bset ?_ ?_ _; rotate_left; focus (first | assumption | omega | (simp; done) | (simp; omega))) | with_reducible refine bstep ?_ (by assumption) | assumption))
  replace cB0 := B0.c
  replace fB0 := B0.f
  replace lB0 := B0.lt
  replace cB1 := B1.c
  replace fB1 := B1.f
  replace lB1 := B1.lt
  replace cB2 := B2.c
  replace fB2 := B2.f
  replace lB2 := B2.lt
  clear hb2
  go_wp2_with fail
  refine (k3 _ _ _ (Hpi.out _ _ _ (show Cs _ _ (arr f) from Cs.new _ _ _ _ rfl))).mono ?_
  rintro _ w3 ⟨rfl, hb3⟩
  try clear cB0 fB0 lB0
  try clear B0
  try clear cB1 fB1 lB1
  try clear B1
  replace B2 : Cs w3 (w.heap.size + 1 + 1) #[.int .i64 0, .int .i64 0] := Cs.keep (by repeat (first | with_reducible assumption | (with_reducible refine Cs.new _ _ _ _ ?_; first | rfl | (simp; done)) | with_reducible refine Cs.alloc ?_ _ | with_reducible refine Cs.drewN ?_ _ | with_reducible refine Cs.drew ?_ | with_reducible refine Cs.set4 ?_ _ _ _ _ | (with_reducible refine Cs.other4 ?_ ?_ _ _ _ _; rotate_left; focus (first | assumption | omega | (simp; done) | (simp; omega))) | with_reducible refine Cs.set2 ?_ _ _ | (with_reducible refine Cs.other2 ?_ ?_ _ _; rotate_left; focus (first | assumption | omega | (simp; done) | (simp; omega))) | (with_reducible refine Cs.other ?_ ?_ _; rotate_left; focus (first | assumption | omega | (simp; done) | (simp; omega))) | with_reducible refine Cs.keep ?_ (by assumption) | assumption)) hb3
  replace hbw : Below w.heap.size w w3 := (by repeat (first | with_reducible exact Below.refl _ _ | with_reducible assumption | with_reducible refine balloc ?_ _ | with_reducible refine bdrewN ?_ _ | with_reducible refine Below.drew ?_ | (with_reducible refine bset ?_ ?_ _; rotate_left; focus (first | assumption | omega | (simp; done) | (simp; omega))) | with_reducible refine bstep ?_ (by assumption) | assumption))
  replace cB2 := B2.c
  replace fB2 := B2.f
  replace lB2 := B2.lt
  clear hb3
  clear k1 k2 k3
  go_wp2_with fail
  refine (k4 _).mono ?_
  rintro e w4 ⟨rfl, hb4⟩
  try clear cB0 fB0 lB0
  try clear B0
  try clear cB1 fB1 lB1
  try clear B1
  replace B2 : Cs w4 (w.heap.size + 1 + 1) #[.int .i64 0, .int .i64 0] := Cs.keep (by repeat (first | with_reducible assumption | (with_reducible refine Cs.new _ _ _ _ ?_; first | rfl | (simp; done)) | with_reducible refine Cs.alloc ?_ _ | with_reducible refine Cs.drewN ?_ _ | with_reducible refine Cs.drew ?_ | with_reducible refine Cs.set4 ?_ _ _ _ _ | (with_reducible refine Cs.other4 ?_ ?_ _ _ _ _; rotate_left; focus (first | assumption | omega | (simp; done) | (simp; omega))) | with_reducible refine Cs.set2 ?_ _ _ | (with_reducible refine Cs.other2 ?_ ?_ _ _; rotate_left; focus (first | assumption | omega | (simp; done) | (simp; omega))) | (with_reducible refine Cs.other ?_ ?_ _; rotate_left; focus (first | assumption | omega | (simp; done) | (simp; omega))) | with_reducible refine Cs.keep ?_ (by assumption) | assumption)) hb4
  replace hbw : Below w.heap.size w w4 := (by repeat (first | with_reducible exact Below.refl _ _ | with_reducible assumption | with_reducible refine balloc ?_ _ | with_reducible refine bdrewN ?_ _ | with_reducible refine Below.drew ?_ | (with_reducible refine bset ?_ ?_ _; rotate_left; focus (first | assumption | omega | (simp; done) | (simp; omega))) | with_reducible refine bstep ?_ (by assumption) | assumption))
  replace cB2 := B2.c
  replace fB2 := B2.f
  replace lB2 := B2.lt
  clear hb4
  go_wp2_with fail
  exact bodyPost_ret (v := .tuple #[.agg #[.int .i64 (red T q).1, .int .i64 (red T q).2], .int .i64 0]) (by simp [results, Try.results22, go_sem, cB2, fB2, lB2]) rfl ⟨rfl, (by repeat (first | with_reducible exact Below.refl _ _ | with_reducible assumption | with_reducible refine balloc ?_ _ | with_reducible refine bdrewN ?_ _ | with_reducible refine Below.drew ?_ | (with_reducible refine bset ?_ ?_ _; rotate_left; focus (first | assumption | omega | (simp; done) | (simp; omega))) | with_reducible refine bstep ?_ (by assumption) | assumption))⟩

theorem tail_any (P R N D : Int) (w : World) :
    Calls Try.prog 22 #[.agg #[.int .i64 P, .int .i64 R], .agg #[.int .i64 N, .int .i64 D]] w fun e w' => e = RetFE (tailP P R N D) ∧ Below w.heap.size w w' := by
  unfold tailP
  by_cases h : 1 ≤ P ∧ P ≤ 12 ∧ 0 ≤ R ∧ R ≤ P ∧ isCh N D 10 = true
  · rw [if_pos h]
    obtain ⟨h1, h2, h3, h4, h5⟩ := h
    obtain ⟨n, rfl⟩ : ∃ n : Nat, P = n := ⟨P.toNat, by omega⟩
    obtain ⟨r, rfl⟩ : ∃ r : Nat, R = r := ⟨R.toNat, by omega⟩
    exact tail_ok n r N D w (by omega) (by omega) (by omega) h5
  · rw [if_neg h]
    exact tail_bad P R N D w h

end Go.Proofs.Ytcmllkjgggcghaa
