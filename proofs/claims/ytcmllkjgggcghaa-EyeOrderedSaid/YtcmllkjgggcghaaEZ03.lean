/- EA4 EA5 EA6 -/
import Derived.Test.YtcmllkjgggcghaaEZ02
import Derived.Deep.RegionHeld3
import Derived.Deep.DeepCutAuto
/- The walk of package eye's Tail. -/
section
namespace Go.Proofs.Ytcmllkjgggcghaa
open Go.RowKit Go.Shelf
set_option linter.unusedSimpArgs false
set_option linter.unusedVariables false
open Em (isCh red cnt)

/-- some of thirteen numbers, as a list -/
def part (f : Nat → Int) (r m : Nat) : List Int := (List.range m).map fun i => f (r + i)
theorem part_len (f : Nat → Int) (r m : Nat) : (part f r m).length = m := by simp [part]
theorem part_sum (N M : Int) (n r : Nat) : ∀ m, (part (cnt N M n) r m).sum = Em.head N M n (r + m) - Em.head N M n r
  | 0 => by simp [part]
  | m + 1 => by
    have h := part_sum N M n r m
    unfold part at h ⊢
    rw [List.range_succ, List.map_append, List.sum_append, h]
    have e : Em.head N M n (r + (m + 1)) = Em.head N M n (r + m) + cnt N M n (r + m) := rfl
    rw [e]
    simp; omega
theorem part_ints {w : World} {g : Nat} {f : Nat → Int} (h : Cs w g (arr f)) (r m : Nat) (hr : r + m ≤ 13) : Ints w (some ⟨g, r, none⟩) m (part f r m) := by
  refine ⟨part_len f r m, fun _ => ⟨g, r, rfl, h.lt, fun i hi => ?_⟩⟩
  rw [h.c, arr_get f (r + i) (by omega)]
  simp [part, List.getD_eq_getElem?_getD, hi]
theorem part_nonneg {N M : Int} (hN : 0 ≤ N) (hM : 0 ≤ M) (n r m : Nat) : ∀ x ∈ part (cnt N M n) r m, 0 ≤ x := by
  intro x hx
  obtain ⟨i, _, rfl⟩ := List.mem_map.1 hx
  exact Em.cnt_nonneg hN hM n _
theorem pow_pos {D : Int} (h : 1 ≤ D) : ∀ n : Nat, 1 ≤ D ^ n
  | 0 => by simp
  | n + 1 => by
    rw [Int.pow_succ]
    have := Int.mul_le_mul (pow_pos h n) h (by omega) (by have := pow_pos h n; omega)
    omega

/-- the tail of a plan, and the error -/
def tailP (P R N D : Int) : (Int × Int) × Int :=
  if 1 ≤ P ∧ P ≤ 12 ∧ 0 ≤ R ∧ R ≤ P ∧ isCh N D 10 = true then (red (Em.tail N (D - N) P.toNat R.toNat) (D ^ P.toNat), 0) else ((0, 0), 2)

/-- a fraction and the error -/
def RetFE (r : (Int × Int) × Int) : Ending := .returned (.tuple #[.agg #[.int .i64 r.1.1, .int .i64 r.1.2], .int .i64 r.2])

set_option maxRecDepth 10000 in
set_option maxHeartbeats 2000000 in
theorem tail_bad (P R N D : Int) (w : World) (h : ¬ (1 ≤ P ∧ P ≤ 12 ∧ 0 ≤ R ∧ R ≤ P ∧ isCh N D 10 = true)) :
    Calls Try.prog 22 #[.agg #[.int .i64 P, .int .i64 R], .agg #[.int .i64 N, .int .i64 D]] w fun e w' => e = RetFE ((0, 0), 2) ∧ Below w.heap.size w w' := by
  unfold RetFE
  have k1 := fun W => isChance_any N D 10 W (by omega)
  have Hh := Lib.hid h
  clear h
  by_cases h1 : P < 1
  · clear k1 Hh
    go_enter Try.func22, Try.ntmps22
    go_wp2_with fail
    exact bodyPost_ret (v := .tuple #[.agg #[.int .i64 0, .int .i64 0], .int .i64 2]) (by simp [results, Try.results22, go_sem]) rfl ⟨rfl, blA⟩
  · by_cases h2 : 12 < P
    · clear k1 Hh
      go_enter Try.func22, Try.ntmps22
      go_wp2_with fail
      exact bodyPost_ret (v := .tuple #[.agg #[.int .i64 0, .int .i64 0], .int .i64 2]) (by simp [results, Try.results22, go_sem]) rfl ⟨rfl, blA⟩
    · by_cases h3 : R < 0
      · clear k1 Hh
        go_enter Try.func22, Try.ntmps22
        go_wp2_with fail
        exact bodyPost_ret (v := .tuple #[.agg #[.int .i64 0, .int .i64 0], .int .i64 2]) (by simp [results, Try.results22, go_sem]) rfl ⟨rfl, blA⟩
      · by_cases h4 : P < R
        · clear k1 Hh
          go_enter Try.func22, Try.ntmps22
          go_wp2_with fail
          exact bodyPost_ret (v := .tuple #[.agg #[.int .i64 0, .int .i64 0], .int .i64 2]) (by simp [results, Try.results22, go_sem]) rfl ⟨rfl, blA⟩
        · have h5 : isCh N D 10 = false := by
            cases h5 : isCh N D 10 with
            | false => rfl
            | true => exact absurd ⟨by omega, by omega, by omega, by omega, h5⟩ Hh.out
          rw [h5] at k1
          clear Hh h5
          go_enter Try.func22, Try.ntmps22
          go_wp2_with fail
          refine (k1 _).mono ?_
          rintro e w1 ⟨rfl, hb1⟩
          replace B2 : Cs w1 (w.heap.size + 1 + 1) #[.int .i64 0, .int .i64 0] := Cs.keep csA hb1
          replace hbw : Below w.heap.size w w1 := blA
          replace cB2 := B2.c
          replace fB2 := B2.f
          replace lB2 := B2.lt
          clear hb1
          go_wp2_with fail
          exact bodyPost_ret (v := .tuple #[.agg #[.int .i64 0, .int .i64 0], .int .i64 2]) (by simp [results, Try.results22, go_sem, cB2, fB2, lB2]) rfl ⟨rfl, blA⟩

set_option maxRecDepth 10000 in
set_option maxHeartbeats 2000000 in
theorem tail_ok (n r : Nat) (N D : Int) (w : World) (h1 : 1 ≤ n) (h2 : n ≤ 12) (h3 : r ≤ n) (h : isCh N D 10 = true) :
    Calls Try.prog 22 #[.agg #[.int .i64 n, .int .i64 r], .agg #[.int .i64 N, .int .i64 D]] w fun e w' => e = RetFE (red (Em.tail N (D - N) n r) (D ^ n), 0) ∧ Below w.heap.size w w' := by
  unfold RetFE
  have k1 := fun W => isChance_any N D 10 W (by omega)
  rw [h] at k1
  have hc : 1 ≤ D ∧ D ≤ 10 ∧ 0 ≤ N ∧ N ≤ D ∧ Int.gcd N D = 1 := of_decide_eq_true h
  obtain ⟨c1, c2, c3, c4, _⟩ := hc
  have k2 := fun W => runs_any n N D W h2 c3 c4 c2
  have hM : 0 ≤ D - N := by omega
  have hp1 := pow_pos c1 n
  have hp2 := pow_le (show 0 ≤ D by omega) c2 n h2
  have ht0 := Em.tail_nonneg c3 hM n r
  have ht1 := Em.tail_bound c3 hM n r
  rw [show N + (D - N) = D by omega] at ht1
  have hsum : Em.tail N (D - N) n r = (part (cnt N (D - N) n) r (13 - r)).sum := by
    rw [part_sum, show r + (13 - r) = n + 1 + (12 - n) by omega, Em.head_full]; rfl
  have k3 := fun A c W hz => total_any A (13 - r) c (part (cnt N (D - N) n) r (13 - r)) W hz (by omega) (part_nonneg c3 hM n r _) (by rw [← hsum]; omega) _ hsum
  have k4 := fun W => ratio_any (Em.tail N (D - N) n r) (D ^ n) W ht0 hp1 (by omega) (by omega)
  have a1 : ¬ (n : Int) < 1 := by omega
  have a2 : ¬ (12 : Int) < (n : Int) := by omega
  have a3 : ¬ (r : Int) < 0 := by omega
  have a4 : ¬ (n : Int) < (r : Int) := by omega
  have a5 : (0 : Int) ≤ (r : Int) := by omega
  have a6 : (r : Int) ≤ 13 := by omega
  have a7 : ¬ 13 - r = 0 := by omega
  have a8 : r ≤ 13 := by omega
  clear h hsum ht0 ht1 hp1 hp2 c1 c2 c3 c4 hM
  have Hpi := Lib.hid (fun (W : World) (g : Nat) (f : Nat → Int) (hg : Cs W g (arr f)) => part_ints hg r (13 - r) (by omega))
  generalize hT : Em.tail N (D - N) n r = T at *
  generalize hq : D ^ n = q at *
  generalize hf : cnt N (D - N) n = f at *
  unfold arr at k2
  go_enter Try.func22, Try.ntmps22
  go_wp2_with fail
  refine (k1 _).mono ?_
  rintro e w1 ⟨rfl, hb1⟩
  replace B0 : Cs w1 (w.heap.size) #[.int .i64 n, .int .i64 r] := Cs.keep csA hb1
  replace B1 : Cs w1 (w.heap.size + 1) #[.int .i64 N, .int .i64 D] := Cs.keep csA hb1
  replace B2 : Cs w1 (w.heap.size + 1 + 1) #[.int .i64 0, .int .i64 0] := Cs.keep csA hb1
  replace hbw : Below w.heap.size w w1 := blA
  replace cB0 := B0.c
  replace fB0 := B0.f
  replace lB0 := B0.lt
  replace cB1 := B1.c
  replace fB1 := B1.f
  replace lB1 := B1.lt
  replace cB2 := B2.c
  replace fB2 := B2.f
  replace lB2 := B2.lt
  clear hb1
  go_wp2_with fail
  refine (k2 _).mono ?_
  rintro e w2 ⟨rfl, hb2⟩
  replace B0 : Cs w2 (w.heap.size) #[.int .i64 n, .int .i64 r] := Cs.keep csA hb2
  replace B1 : Cs w2 (w.heap.size + 1) #[.int .i64 N, .int .i64 D] := Cs.keep csA hb2
  replace B2 : Cs w2 (w.heap.size + 1 + 1) #[.int .i64 0, .int .i64 0] := Cs.keep csA hb2
  replace hbw : Below w.heap.size w w2 := blA
  replace cB0 := B0.c
  replace fB0 := B0.f
  replace lB0 := B0.lt
  replace cB1 := B1.c
  replace fB1 := B1.f
  replace lB1 := B1.lt
  replace cB2 := B2.c
  replace fB2 := B2.f
  replace lB2 := B2.lt
  clear hb2
  go_wp2_with fail
  refine (k3 _ _ _ (Hpi.out _ _ _ (show Cs _ _ (arr f) from Cs.new _ _ _ _ rfl))).mono ?_
  rintro _ w3 ⟨rfl, hb3⟩
  try clear cB0 fB0 lB0
  try clear B0
  try clear cB1 fB1 lB1
  try clear B1
  replace B2 : Cs w3 (w.heap.size + 1 + 1) #[.int .i64 0, .int .i64 0] := Cs.keep csA hb3
  replace hbw : Below w.heap.size w w3 := blA
  replace cB2 := B2.c
  replace fB2 := B2.f
  replace lB2 := B2.lt
  clear hb3
  clear k1 k2 k3
  go_wp2_with fail
  refine (k4 _).mono ?_
  rintro e w4 ⟨rfl, hb4⟩
  try clear cB0 fB0 lB0
  try clear B0
  try clear cB1 fB1 lB1
  try clear B1
  replace B2 : Cs w4 (w.heap.size + 1 + 1) #[.int .i64 0, .int .i64 0] := Cs.keep csA hb4
  replace hbw : Below w.heap.size w w4 := blA
  replace cB2 := B2.c
  replace fB2 := B2.f
  replace lB2 := B2.lt
  clear hb4
  go_wp2_with fail
  exact bodyPost_ret (v := .tuple #[.agg #[.int .i64 (red T q).1, .int .i64 (red T q).2], .int .i64 0]) (by simp [results, Try.results22, go_sem, cB2, fB2, lB2]) rfl ⟨rfl, blA⟩

theorem tail_any (P R N D : Int) (w : World) :
    Calls Try.prog 22 #[.agg #[.int .i64 P, .int .i64 R], .agg #[.int .i64 N, .int .i64 D]] w fun e w' => e = RetFE (tailP P R N D) ∧ Below w.heap.size w w' := by
  unfold tailP
  by_cases h : 1 ≤ P ∧ P ≤ 12 ∧ 0 ≤ R ∧ R ≤ P ∧ isCh N D 10 = true
  · rw [if_pos h]
    obtain ⟨h1, h2, h3, h4, h5⟩ := h
    obtain ⟨n, rfl⟩ : ∃ n : Nat, P = n := ⟨P.toNat, by omega⟩
    obtain ⟨r, rfl⟩ : ∃ r : Nat, R = r := ⟨R.toNat, by omega⟩
    exact tail_ok n r N D w (by omega) (by omega) (by omega) h5
  · rw [if_neg h]
    exact tail_bad P R N D w h

end Go.Proofs.Ytcmllkjgggcghaa
end

/- The walk of package eye's Plan. -/
section
namespace Go.Proofs.Ytcmllkjgggcghaa
open Go.RowKit Go.Shelf
set_option linter.unusedSimpArgs false
set_option linter.unusedVariables false
open Em (isCh red cnt)

theorem total_same (A : Option Addr) (n c : Nat) (zs : List Int) (w : World) (hz : Ints w A n zs) (hn : n ≤ 9223372036854775807) (h0 : ∀ x ∈ zs, 0 ≤ x) (hs : zs.sum ≤ 9223372036854775807) (s : Int) (he : s = zs.sum) :
    Calls Try.prog 60 #[.slice A n c] w fun e w' => e = .returned (.int .i64 s) ∧ w' = w :=
  (total_exact A n c zs w hz hn h0 hs s he).mono fun _ _ ⟨h1, h2⟩ => ⟨h1, h2.symm⟩

/-- a plan and the error, as they are handed back -/
def RetPL (r : (Int × Int) × Int) : Ending := .returned (.tuple #[.agg #[.int .i64 r.1.1, .int .i64 r.1.2], .int .i64 r.2])

set_option maxRecDepth 10000 in
set_option maxHeartbeats 2000000 in
theorem plan_bad (gN gD sN sD oN oD iN iD : Int) (w : World) (h : ¬ (isCh gN gD 10 = true ∧ isCh sN sD 10 = true ∧ isCh oN oD 1000000 = true ∧ isCh iN iD 1000000 = true)) :
    Calls Try.prog 24 #[.agg #[.int .i64 gN, .int .i64 gD], .agg #[.int .i64 sN, .int .i64 sD], .agg #[.int .i64 oN, .int .i64 oD], .agg #[.int .i64 iN, .int .i64 iD]] w fun e w' => e = RetPL ((0, 0), 2) ∧ Below w.heap.size w w' := by
  unfold RetPL
  have k1 := fun W => isChance_any gN gD 10 W (by omega)
  have k2 := fun W => isChance_any sN sD 10 W (by omega)
  have k3 := fun W => isChance_any oN oD 1000000 W (by omega)
  have k4 := fun W => isChance_any iN iD 1000000 W (by omega)
  generalize isCh gN gD 10 = b1 at *
  generalize isCh sN sD 10 = b2 at *
  generalize isCh oN oD 1000000 = b3 at *
  generalize isCh iN iD 1000000 = b4 at *
  cases b1 with
  | false =>
    clear h
    go_enter Try.func24, Try.ntmps24
    go_wp2_with fail
    refine (k1 _).mono ?_
    rintro e w1 ⟨rfl, hb1⟩
    replace B4 : Cs w1 (w.heap.size + 1 + 1 + 1 + 1) #[.int .i64 0, .int .i64 0] := Cs.keep csA hb1
    replace hbw : Below w.heap.size w w1 := blA
    replace cB4 := B4.c
    replace fB4 := B4.f
    replace lB4 := B4.lt
    clear hb1
    go_wp2_with fail
    exact bodyPost_ret (v := .tuple #[.agg #[.int .i64 0, .int .i64 0], .int .i64 2]) (by simp [results, Try.results24, go_sem, cB4, fB4, lB4]) rfl ⟨rfl, blA⟩
  | true =>
    cases b2 with
    | false =>
      clear h
      go_enter Try.func24, Try.ntmps24
      go_wp2_with fail
      refine (k1 _).mono ?_
      rintro e w1 ⟨rfl, hb1⟩
      replace B1 : Cs w1 (w.heap.size + 1) #[.int .i64 sN, .int .i64 sD] := Cs.keep csA hb1
      replace B4 : Cs w1 (w.heap.size + 1 + 1 + 1 + 1) #[.int .i64 0, .int .i64 0] := Cs.keep csA hb1
      replace hbw : Below w.heap.size w w1 := blA
      replace cB1 := B1.c
      replace fB1 := B1.f
      replace lB1 := B1.lt
      replace cB4 := B4.c
      replace fB4 := B4.f
      replace lB4 := B4.lt
      clear hb1
      go_wp2_with fail
      refine (k2 _).mono ?_
      rintro e w2 ⟨rfl, hb2⟩
      try clear cB1 fB1 lB1
      try clear B1
      replace B4 : Cs w2 (w.heap.size + 1 + 1 + 1 + 1) #[.int .i64 0, .int .i64 0] := Cs.keep csA hb2
      replace hbw : Below w.heap.size w w2 := blA
      replace cB4 := B4.c
      replace fB4 := B4.f
      replace lB4 := B4.lt
      clear hb2
      go_wp2_with fail
      exact bodyPost_ret (v := .tuple #[.agg #[.int .i64 0, .int .i64 0], .int .i64 2]) (by simp [results, Try.results24, go_sem, cB4, fB4, lB4]) rfl ⟨rfl, blA⟩
    | true =>
      cases b3 with
      | false =>
        clear h
        go_enter Try.func24, Try.ntmps24
        go_wp2_with fail
        refine (k1 _).mono ?_
        rintro e w1 ⟨rfl, hb1⟩
        replace B1 : Cs w1 (w.heap.size + 1) #[.int .i64 sN, .int .i64 sD] := Cs.keep csA hb1
        replace B2 : Cs w1 (w.heap.size + 1 + 1) #[.int .i64 oN, .int .i64 oD] := Cs.keep csA hb1
        replace B4 : Cs w1 (w.heap.size + 1 + 1 + 1 + 1) #[.int .i64 0, .int .i64 0] := Cs.keep csA hb1
        replace hbw : Below w.heap.size w w1 := blA
        replace cB1 := B1.c
        replace fB1 := B1.f
        replace lB1 := B1.lt
        replace cB2 := B2.c
        replace fB2 := B2.f
        replace lB2 := B2.lt
        replace cB4 := B4.c
        replace fB4 := B4.f
        replace lB4 := B4.lt
        clear hb1
        go_wp2_with fail
        refine (k2 _).mono ?_
        rintro e w2 ⟨rfl, hb2⟩
        try clear cB1 fB1 lB1
        try clear B1
        replace B2 : Cs w2 (w.heap.size + 1 + 1) #[.int .i64 oN, .int .i64 oD] := Cs.keep csA hb2
        replace B4 : Cs w2 (w.heap.size + 1 + 1 + 1 + 1) #[.int .i64 0, .int .i64 0] := Cs.keep csA hb2
        replace hbw : Below w.heap.size w w2 := blA
        replace cB2 := B2.c
        replace fB2 := B2.f
        replace lB2 := B2.lt
        replace cB4 := B4.c
        replace fB4 := B4.f
        replace lB4 := B4.lt
        clear hb2
        go_wp2_with fail
        refine (k3 _).mono ?_
        rintro e w3 ⟨rfl, hb3⟩
        try clear cB1 fB1 lB1
        try clear B1
        try clear cB2 fB2 lB2
        try clear B2
        replace B4 : Cs w3 (w.heap.size + 1 + 1 + 1 + 1) #[.int .i64 0, .int .i64 0] := Cs.keep csA hb3
        replace hbw : Below w.heap.size w w3 := blA
        replace cB4 := B4.c
        replace fB4 := B4.f
        replace lB4 := B4.lt
        clear hb3
        go_wp2_with fail
        exact bodyPost_ret (v := .tuple #[.agg #[.int .i64 0, .int .i64 0], .int .i64 2]) (by simp [results, Try.results24, go_sem, cB4, fB4, lB4]) rfl ⟨rfl, blA⟩
      | true =>
        cases b4 with
        | true => exact absurd ⟨rfl, rfl, rfl, rfl⟩ h
        | false =>
          clear h
          go_enter Try.func24, Try.ntmps24
          go_wp2_with fail
          refine (k1 _).mono ?_
          rintro e w1 ⟨rfl, hb1⟩
          replace B1 : Cs w1 (w.heap.size + 1) #[.int .i64 sN, .int .i64 sD] := Cs.keep csA hb1
          replace B2 : Cs w1 (w.heap.size + 1 + 1) #[.int .i64 oN, .int .i64 oD] := Cs.keep csA hb1
          replace B3 : Cs w1 (w.heap.size + 1 + 1 + 1) #[.int .i64 iN, .int .i64 iD] := Cs.keep csA hb1
          replace B4 : Cs w1 (w.heap.size + 1 + 1 + 1 + 1) #[.int .i64 0, .int .i64 0] := Cs.keep csA hb1
          replace hbw : Below w.heap.size w w1 := blA
          replace cB1 := B1.c
          replace fB1 := B1.f
          replace lB1 := B1.lt
          replace cB2 := B2.c
          replace fB2 := B2.f
          replace lB2 := B2.lt
          replace cB3 := B3.c
          replace fB3 := B3.f
          replace lB3 := B3.lt
          replace cB4 := B4.c
          replace fB4 := B4.f
          replace lB4 := B4.lt
          clear hb1
          go_wp2_with fail
          refine (k2 _).mono ?_
          rintro e w2 ⟨rfl, hb2⟩
          try clear cB1 fB1 lB1
          try clear B1
          replace B2 : Cs w2 (w.heap.size + 1 + 1) #[.int .i64 oN, .int .i64 oD] := Cs.keep csA hb2
          replace B3 : Cs w2 (w.heap.size + 1 + 1 + 1) #[.int .i64 iN, .int .i64 iD] := Cs.keep csA hb2
          replace B4 : Cs w2 (w.heap.size + 1 + 1 + 1 + 1) #[.int .i64 0, .int .i64 0] := Cs.keep csA hb2
          replace hbw : Below w.heap.size w w2 := blA
          replace cB2 := B2.c
          replace fB2 := B2.f
          replace lB2 := B2.lt
          replace cB3 := B3.c
          replace fB3 := B3.f
          replace lB3 := B3.lt
          replace cB4 := B4.c
          replace fB4 := B4.f
          replace lB4 := B4.lt
          clear hb2
          go_wp2_with fail
          refine (k3 _).mono ?_
          rintro e w3 ⟨rfl, hb3⟩
          try clear cB1 fB1 lB1
          try clear B1
          try clear cB2 fB2 lB2
          try clear B2
          replace B3 : Cs w3 (w.heap.size + 1 + 1 + 1) #[.int .i64 iN, .int .i64 iD] := Cs.keep csA hb3
          replace B4 : Cs w3 (w.heap.size + 1 + 1 + 1 + 1) #[.int .i64 0, .int .i64 0] := Cs.keep csA hb3
          replace hbw : Below w.heap.size w w3 := blA
          replace cB3 := B3.c
          replace fB3 := B3.f
          replace lB3 := B3.lt
          replace cB4 := B4.c
          replace fB4 := B4.f
          replace lB4 := B4.lt
          clear hb3
          go_wp2_with fail
          refine (k4 _).mono ?_
          rintro e w4 ⟨rfl, hb4⟩
          try clear cB1 fB1 lB1
          try clear B1
          try clear cB2 fB2 lB2
          try clear B2
          try clear cB3 fB3 lB3
          try clear B3
          replace B4 : Cs w4 (w.heap.size + 1 + 1 + 1 + 1) #[.int .i64 0, .int .i64 0] := Cs.keep csA hb4
          replace hbw : Below w.heap.size w w4 := blA
          replace cB4 := B4.c
          replace fB4 := B4.f
          replace lB4 := B4.lt
          clear hb4
          go_wp2_with fail
          exact bodyPost_ret (v := .tuple #[.agg #[.int .i64 0, .int .i64 0], .int .i64 2]) (by simp [results, Try.results24, go_sem, cB4, fB4, lB4]) rfl ⟨rfl, blA⟩

/-- a plan keeps printed odds -/
def planQ (gN gD sN sD oN oD iN iD : Int) (n r : Nat) : Bool := Em.keeps gN (gD - gN) sN (sD - sN) oN oD iN iD n r
/-- the plan and the error of valid chances and odds -/
def planP (gN gD sN sD oN oD iN iD : Int) : (Int × Int) × Int :=
  match Em.planFrom (planQ gN gD sN sD oN oD iN iD) 1 12 with
  | some (n, r) => ((n, r), 0)
  | none => ((0, 0), 22)

set_option maxRecDepth 10000 in
set_option maxHeartbeats 8000000 in
theorem plan_ok (gN gD sN sD oN oD iN iD : Int) (w : World) (h1 : isCh gN gD 10 = true) (h2 : isCh sN sD 10 = true) (h3 : isCh oN oD 1000000 = true) (h4 : isCh iN iD 1000000 = true) :
    Calls Try.prog 24 #[.agg #[.int .i64 gN, .int .i64 gD], .agg #[.int .i64 sN, .int .i64 sD], .agg #[.int .i64 oN, .int .i64 oD], .agg #[.int .i64 iN, .int .i64 iD]] w fun e w' => e = RetPL (planP gN gD sN sD oN oD iN iD) ∧ Below w.heap.size w w' := by
  unfold RetPL
  have k1 := fun W => isChance_any gN gD 10 W (by omega)
  have k2 := fun W => isChance_any sN sD 10 W (by omega)
  have k3 := fun W => isChance_any oN oD 1000000 W (by omega)
  have k4 := fun W => isChance_any iN iD 1000000 W (by omega)
  rw [h1] at k1
  rw [h2] at k2
  rw [h3] at k3
  rw [h4] at k4
  obtain ⟨a1, a2, a3, a4, _⟩ : 1 ≤ gD ∧ gD ≤ 10 ∧ 0 ≤ gN ∧ gN ≤ gD ∧ Int.gcd gN gD = 1 := of_decide_eq_true h1
  obtain ⟨b1, b2, b3, b4, _⟩ : 1 ≤ sD ∧ sD ≤ 10 ∧ 0 ≤ sN ∧ sN ≤ sD ∧ Int.gcd sN sD = 1 := of_decide_eq_true h2
  obtain ⟨c1, c2, c3, c4, _⟩ : 1 ≤ oD ∧ oD ≤ 1000000 ∧ 0 ≤ oN ∧ oN ≤ oD ∧ Int.gcd oN oD = 1 := of_decide_eq_true h3
  obtain ⟨d1, d2, d3, d4, _⟩ : 1 ≤ iD ∧ iD ≤ 1000000 ∧ 0 ≤ iN ∧ iN ≤ iD ∧ Int.gcd iN iD = 1 := of_decide_eq_true h4
  generalize hR : planP gN gD sN sD oN oD iN iD = R
  have HR := Lib.hid hR
  clear h1 h2 h3 h4 hR
  go_enter Try.func24, Try.ntmps24
  go_wp2_with fail
  refine (k1 _).mono ?_
  rintro e w1 ⟨rfl, hb1⟩
  replace B0 : Cs w1 (w.heap.size) #[.int .i64 gN, .int .i64 gD] := Cs.keep csA hb1
  replace B1 : Cs w1 (w.heap.size + 1) #[.int .i64 sN, .int .i64 sD] := Cs.keep csA hb1
  replace B2 : Cs w1 (w.heap.size + 1 + 1) #[.int .i64 oN, .int .i64 oD] := Cs.keep csA hb1
  replace B3 : Cs w1 (w.heap.size + 1 + 1 + 1) #[.int .i64 iN, .int .i64 iD] := Cs.keep csA hb1
  replace B4 : Cs w1 (w.heap.size + 1 + 1 + 1 + 1) #[.int .i64 0, .int .i64 0] := Cs.keep csA hb1
  replace hbw : Below w.heap.size w w1 := blA
  replace cB0 := B0.c
  replace fB0 := B0.f
  replace lB0 := B0.lt
  replace cB1 := B1.c
  replace fB1 := B1.f
  replace lB1 := B1.lt
  replace cB2 := B2.c
  replace fB2 := B2.f
  replace lB2 := B2.lt
  replace cB3 := B3.c
  replace fB3 := B3.f
  replace lB3 := B3.lt
  replace cB4 := B4.c
  replace fB4 := B4.f
  replace lB4 := B4.lt
  clear hb1
  go_wp2_with fail
  refine (k2 _).mono ?_
  rintro e w2 ⟨rfl, hb2⟩
  replace B0 : Cs w2 (w.heap.size) #[.int .i64 gN, .int .i64 gD] := Cs.keep csA hb2
  replace B1 : Cs w2 (w.heap.size + 1) #[.int .i64 sN, .int .i64 sD] := Cs.keep csA hb2
  replace B2 : Cs w2 (w.heap.size + 1 + 1) #[.int .i64 oN, .int .i64 oD] := Cs.keep csA hb2
  replace B3 : Cs w2 (w.heap.size + 1 + 1 + 1) #[.int .i64 iN, .int .i64 iD] := Cs.keep csA hb2
  replace B4 : Cs w2 (w.heap.size + 1 + 1 + 1 + 1) #[.int .i64 0, .int .i64 0] := Cs.keep csA hb2
  replace hbw : Below w.heap.size w w2 := blA
  replace cB0 := B0.c
  replace fB0 := B0.f
  replace lB0 := B0.lt
  replace cB1 := B1.c
  replace fB1 := B1.f
  replace lB1 := B1.lt
  replace cB2 := B2.c
  replace fB2 := B2.f
  replace lB2 := B2.lt
  replace cB3 := B3.c
  replace fB3 := B3.f
  replace lB3 := B3.lt
  replace cB4 := B4.c
  replace fB4 := B4.f
  replace lB4 := B4.lt
  clear hb2
  go_wp2_with fail
  refine (k3 _).mono ?_
  rintro e w3 ⟨rfl, hb3⟩
  replace B0 : Cs w3 (w.heap.size) #[.int .i64 gN, .int .i64 gD] := Cs.keep csA hb3
  replace B1 : Cs w3 (w.heap.size + 1) #[.int .i64 sN, .int .i64 sD] := Cs.keep csA hb3
  replace B2 : Cs w3 (w.heap.size + 1 + 1) #[.int .i64 oN, .int .i64 oD] := Cs.keep csA hb3
  replace B3 : Cs w3 (w.heap.size + 1 + 1 + 1) #[.int .i64 iN, .int .i64 iD] := Cs.keep csA hb3
  replace B4 : Cs w3 (w.heap.size + 1 + 1 + 1 + 1) #[.int .i64 0, .int .i64 0] := Cs.keep csA hb3
  replace hbw : Below w.heap.size w w3 := blA
  replace cB0 := B0.c
  replace fB0 := B0.f
  replace lB0 := B0.lt
  replace cB1 := B1.c
  replace fB1 := B1.f
  replace lB1 := B1.lt
  replace cB2 := B2.c
  replace fB2 := B2.f
  replace lB2 := B2.lt
  replace cB3 := B3.c
  replace fB3 := B3.f
  replace lB3 := B3.lt
  replace cB4 := B4.c
  replace fB4 := B4.f
  replace lB4 := B4.lt
  clear hb3
  go_wp2_with fail
  refine (k4 _).mono ?_
  rintro e w4 ⟨rfl, hb4⟩
  replace B0 : Cs w4 (w.heap.size) #[.int .i64 gN, .int .i64 gD] := Cs.keep csA hb4
  replace B1 : Cs w4 (w.heap.size + 1) #[.int .i64 sN, .int .i64 sD] := Cs.keep csA hb4
  replace B2 : Cs w4 (w.heap.size + 1 + 1) #[.int .i64 oN, .int .i64 oD] := Cs.keep csA hb4
  replace B3 : Cs w4 (w.heap.size + 1 + 1 + 1) #[.int .i64 iN, .int .i64 iD] := Cs.keep csA hb4
  replace B4 : Cs w4 (w.heap.size + 1 + 1 + 1 + 1) #[.int .i64 0, .int .i64 0] := Cs.keep csA hb4
  replace hbw : Below w.heap.size w w4 := blA
  replace cB0 := B0.c
  replace fB0 := B0.f
  replace lB0 := B0.lt
  replace cB1 := B1.c
  replace fB1 := B1.f
  replace lB1 := B1.lt
  replace cB2 := B2.c
  replace fB2 := B2.f
  replace lB2 := B2.lt
  replace cB3 := B3.c
  replace fB3 := B3.f
  replace lB3 := B3.lt
  replace cB4 := B4.c
  replace fB4 := B4.f
  replace lB4 := B4.lt
  clear hb4
  clear k1 k2 k3 k4
  go_wp2_with fail
  go_loopw [10] (fun s10 wr => ∃ p : Nat, 1 ≤ p ∧ p ≤ 13 ∧ s10 = .int .i64 p ∧ Hid (Em.planFrom (planQ gN gD sN sD oN oD iN iD) 1 12 = Em.planFrom (planQ gN gD sN sD oN oD iN iD) p (13 - p)) ∧
      Cs wr w.heap.size #[.int .i64 gN, .int .i64 gD] ∧ Cs wr (w.heap.size + 1) #[.int .i64 sN, .int .i64 sD] ∧ Cs wr (w.heap.size + 1 + 1) #[.int .i64 oN, .int .i64 oD] ∧ Cs wr (w.heap.size + 1 + 1 + 1) #[.int .i64 iN, .int .i64 iD] ∧ Cs wr (w.heap.size + 1 + 1 + 1 + 1) #[.int .i64 0, .int .i64 0] ∧ Below w.heap.size w wr) (fun s10 _ => 13 - (intOf s10).toNat)
  case atStart => exact ⟨1, by omega, by omega, rfl, Lib.hid rfl, B0, B1, B2, B3, B4, hbw⟩
  case round =>
    clear B0 B1 B2 B3 B4 hbw cB0 fB0 lB0 cB1 fB1 lB1 cB2 fB2 lB2 cB3 fB3 lB3 cB4 fB4 lB4
    obtain ⟨p, hp1, hp2, rfl, Hpl, B0, B1, B2, B3, B4, hbw⟩ := hrel
    by_cases hp : p ≤ 12
    · have hpI : (p : Int) ≤ 12 := by omega
      have ka := fun W => runs_any p gN gD W hp a3 a4 a2
      have kb := fun W => runs_any p sN sD W hp b3 b4 b2
      unfold arr at ka kb
      have cB0 := B0.c
      have fB0 := B0.f
      have lB0 := B0.lt
      have cB1 := B1.c
      have fB1 := B1.f
      have lB1 := B1.lt
      go_wp2_with fail
      refine (ka _).mono ?_
      rintro e w5 ⟨rfl, hb5⟩
      replace B0 : Cs w5 (w.heap.size) #[.int .i64 gN, .int .i64 gD] := Cs.keep csA hb5
      replace B1 : Cs w5 (w.heap.size + 1) #[.int .i64 sN, .int .i64 sD] := Cs.keep csA hb5
      replace B2 : Cs w5 (w.heap.size + 1 + 1) #[.int .i64 oN, .int .i64 oD] := Cs.keep csA hb5
      replace B3 : Cs w5 (w.heap.size + 1 + 1 + 1) #[.int .i64 iN, .int .i64 iD] := Cs.keep csA hb5
      replace B4 : Cs w5 (w.heap.size + 1 + 1 + 1 + 1) #[.int .i64 0, .int .i64 0] := Cs.keep csA hb5
      replace hbw : Below w.heap.size w w5 := blA
      replace cB0 := B0.c
      replace fB0 := B0.f
      replace lB0 := B0.lt
      replace cB1 := B1.c
      replace fB1 := B1.f
      replace lB1 := B1.lt
      replace cB2 := B2.c
      replace fB2 := B2.f
      replace lB2 := B2.lt
      replace cB3 := B3.c
      replace fB3 := B3.f
      replace lB3 := B3.lt
      replace cB4 := B4.c
      replace fB4 := B4.f
      replace lB4 := B4.lt
      clear hb5
      have n5 : w.heap.size + 1 + 1 + 1 + 1 < w5.heap.size := B4.lt
      go_wp2_with fail
      refine (kb _).mono ?_
      rintro e w6 ⟨rfl, hb6⟩
      replace B0 : Cs w6 (w.heap.size) #[.int .i64 gN, .int .i64 gD] := Cs.keep csA hb6
      replace B1 : Cs w6 (w.heap.size + 1) #[.int .i64 sN, .int .i64 sD] := Cs.keep csA hb6
      replace B2 : Cs w6 (w.heap.size + 1 + 1) #[.int .i64 oN, .int .i64 oD] := Cs.keep csA hb6
      replace B3 : Cs w6 (w.heap.size + 1 + 1 + 1) #[.int .i64 iN, .int .i64 iD] := Cs.keep csA hb6
      replace B4 : Cs w6 (w.heap.size + 1 + 1 + 1 + 1) #[.int .i64 0, .int .i64 0] := Cs.keep csA hb6
      replace Ba : Cs w6 (w5.heap.size) #[.int .i64 (cnt gN (gD - gN) p 0), .int .i64 (cnt gN (gD - gN) p 1), .int .i64 (cnt gN (gD - gN) p 2), .int .i64 (cnt gN (gD - gN) p 3), .int .i64 (cnt gN (gD - gN) p 4), .int .i64 (cnt gN (gD - gN) p 5), .int .i64 (cnt gN (gD - gN) p 6), .int .i64 (cnt gN (gD - gN) p 7), .int .i64 (cnt gN (gD - gN) p 8), .int .i64 (cnt gN (gD - gN) p 9), .int .i64 (cnt gN (gD - gN) p 10), .int .i64 (cnt gN (gD - gN) p 11), .int .i64 (cnt gN (gD - gN) p 12)] := Cs.keep csA hb6
      replace hbw : Below w.heap.size w w6 := blA
      replace cB0 := B0.c
      replace fB0 := B0.f
      replace lB0 := B0.lt
      replace cB1 := B1.c
      replace fB1 := B1.f
      replace lB1 := B1.lt
      replace cB2 := B2.c
      replace fB2 := B2.f
      replace lB2 := B2.lt
      replace cB3 := B3.c
      replace fB3 := B3.f
      replace lB3 := B3.lt
      replace cB4 := B4.c
      replace fB4 := B4.f
      replace lB4 := B4.lt
      replace cBa := Ba.c
      replace fBa := Ba.f
      replace lBa := Ba.lt
      clear hb6
      have n6 : w5.heap.size < w6.heap.size := Ba.lt
      go_wp2_with fail
      have hgM : 0 ≤ gD - gN := by omega
      have hsM : 0 ≤ sD - sN := by omega
      have wg1 := pow_pos a1 p
      have wg2 := pow_le (show 0 ≤ gD by omega) a2 p hp
      have ws1 := pow_pos b1 p
      have ws2 := pow_le (show 0 ≤ sD by omega) b2 p hp
      have eg : gN + (gD - gN) = gD := by omega
      have es : sN + (sD - sN) = sD := by omega
      have HT := Lib.hid (fun r => (⟨Em.tail_nonneg a3 hgM p r, by have := Em.tail_bound a3 hgM p r; rw [eg] at this; exact this⟩ : 0 ≤ Em.tail gN (gD - gN) p r ∧ Em.tail gN (gD - gN) p r ≤ gD ^ p))
      have HH := Lib.hid (fun r => (⟨Em.head_nonneg b3 hsM p r, by have := Em.head_bound b3 hsM p r; rw [es] at this; exact this⟩ : 0 ≤ Em.head sN (sD - sN) p r ∧ Em.head sN (sD - sN) p r ≤ sD ^ p))
      have HTs := Lib.hid (fun r (hr : r ≤ 12) => (by rw [part_sum, show r + (13 - r) = p + 1 + (12 - p) by omega, Em.head_full]; rfl : Em.tail gN (gD - gN) p r = (part (cnt gN (gD - gN) p) r (13 - r)).sum))
      have HHs := Lib.hid (fun r => (by rw [part_sum]; simp [Em.head] : Em.head sN (sD - sN) p r = (part (cnt sN (sD - sN) p) 0 r).sum))
      have Hm := Lib.hid (fun r s (h : r ≤ s) => Em.head_le b3 hsM p r s h)
      have Hg0 := Lib.hid (fun r m => part_nonneg a3 hgM p r m)
      have Hs0 := Lib.hid (fun r m => part_nonneg b3 hsM p r m)
      have Hq : Hid (∀ y, planQ gN gD sN sD oN oD iN iD p y = (decide (Em.tail gN (gD - gN) p y * oD ≤ oN * gD ^ p) && decide (Em.head sN (sD - sN) p y * iD ≤ iN * sD ^ p))) := Lib.hid (fun y => by unfold planQ Em.keeps; rw [eg, es])
      generalize hfa : cnt gN (gD - gN) p = fa at *
      generalize hfb : cnt sN (sD - sN) p = fb at *
      have Bb : Cs (w6.alloc (.cells #[.int .i64 (fb 0), .int .i64 (fb 1), .int .i64 (fb 2), .int .i64 (fb 3), .int .i64 (fb 4), .int .i64 (fb 5), .int .i64 (fb 6), .int .i64 (fb 7), .int .i64 (fb 8), .int .i64 (fb 9), .int .i64 (fb 10), .int .i64 (fb 11), .int .i64 (fb 12)] 93)) w6.heap.size (arr fb) := Cs.new _ _ _ _ rfl
      have Ba2 : Cs (w6.alloc (.cells #[.int .i64 (fb 0), .int .i64 (fb 1), .int .i64 (fb 2), .int .i64 (fb 3), .int .i64 (fb 4), .int .i64 (fb 5), .int .i64 (fb 6), .int .i64 (fb 7), .int .i64 (fb 8), .int .i64 (fb 9), .int .i64 (fb 10), .int .i64 (fb 11), .int .i64 (fb 12)] 93)) w5.heap.size (arr fa) := Ba.alloc _
      replace B0 := B0.alloc (.cells #[.int .i64 (fb 0), .int .i64 (fb 1), .int .i64 (fb 2), .int .i64 (fb 3), .int .i64 (fb 4), .int .i64 (fb 5), .int .i64 (fb 6), .int .i64 (fb 7), .int .i64 (fb 8), .int .i64 (fb 9), .int .i64 (fb 10), .int .i64 (fb 11), .int .i64 (fb 12)] 93)
      replace B1 := B1.alloc (.cells #[.int .i64 (fb 0), .int .i64 (fb 1), .int .i64 (fb 2), .int .i64 (fb 3), .int .i64 (fb 4), .int .i64 (fb 5), .int .i64 (fb 6), .int .i64 (fb 7), .int .i64 (fb 8), .int .i64 (fb 9), .int .i64 (fb 10), .int .i64 (fb 11), .int .i64 (fb 12)] 93)
      replace B2 := B2.alloc (.cells #[.int .i64 (fb 0), .int .i64 (fb 1), .int .i64 (fb 2), .int .i64 (fb 3), .int .i64 (fb 4), .int .i64 (fb 5), .int .i64 (fb 6), .int .i64 (fb 7), .int .i64 (fb 8), .int .i64 (fb 9), .int .i64 (fb 10), .int .i64 (fb 11), .int .i64 (fb 12)] 93)
      replace B3 := B3.alloc (.cells #[.int .i64 (fb 0), .int .i64 (fb 1), .int .i64 (fb 2), .int .i64 (fb 3), .int .i64 (fb 4), .int .i64 (fb 5), .int .i64 (fb 6), .int .i64 (fb 7), .int .i64 (fb 8), .int .i64 (fb 9), .int .i64 (fb 10), .int .i64 (fb 11), .int .i64 (fb 12)] 93)
      replace B4 := B4.alloc (.cells #[.int .i64 (fb 0), .int .i64 (fb 1), .int .i64 (fb 2), .int .i64 (fb 3), .int .i64 (fb 4), .int .i64 (fb 5), .int .i64 (fb 6), .int .i64 (fb 7), .int .i64 (fb 8), .int .i64 (fb 9), .int .i64 (fb 10), .int .i64 (fb 11), .int .i64 (fb 12)] 93)
      replace hbw := balloc hbw (.cells #[.int .i64 (fb 0), .int .i64 (fb 1), .int .i64 (fb 2), .int .i64 (fb 3), .int .i64 (fb 4), .int .i64 (fb 5), .int .i64 (fb 6), .int .i64 (fb 7), .int .i64 (fb 8), .int .i64 (fb 9), .int .i64 (fb 10), .int .i64 (fb 11), .int .i64 (fb 12)] 93)
      clear Ba cBa fBa lBa cB0 fB0 lB0 cB1 fB1 lB1 cB2 fB2 lB2 cB3 fB3 lB3 cB4 fB4 lB4 ka kb hgM hsM eg es
      generalize w6.alloc (.cells #[.int .i64 (fb 0), .int .i64 (fb 1), .int .i64 (fb 2), .int .i64 (fb 3), .int .i64 (fb 4), .int .i64 (fb 5), .int .i64 (fb 6), .int .i64 (fb 7), .int .i64 (fb 8), .int .i64 (fb 9), .int .i64 (fb 10), .int .i64 (fb 11), .int .i64 (fb 12)] 93) = w7 at *
      generalize (#[.int .i64 (fa 0), .int .i64 (fa 1), .int .i64 (fa 2), .int .i64 (fa 3), .int .i64 (fa 4), .int .i64 (fa 5), .int .i64 (fa 6), .int .i64 (fa 7), .int .i64 (fa 8), .int .i64 (fa 9), .int .i64 (fa 10), .int .i64 (fa 11), .int .i64 (fa 12)] : Array Value) = VA at *
      generalize (#[.int .i64 (fb 0), .int .i64 (fb 1), .int .i64 (fb 2), .int .i64 (fb 3), .int .i64 (fb 4), .int .i64 (fb 5), .int .i64 (fb 6), .int .i64 (fb 7), .int .i64 (fb 8), .int .i64 (fb 9), .int .i64 (fb 10), .int .i64 (fb 11), .int .i64 (fb 12)] : Array Value) = VB at *
      clear hfa hfb
      generalize w5.heap.size = ga at *
      generalize w6.heap.size = gb at *
      generalize gD ^ p = WG at *
      generalize sD ^ p = WS at *
      go_loopw [53] (fun s53 wx => ∃ (r : Nat) (W : World), r ≤ p + 1 ∧ s53 = .int .i64 r ∧ Hid (W = wx) ∧ Hid (∀ y, y < r → oN * WG < Em.tail gN (gD - gN) p y * oD) ∧
          Cs W w.heap.size #[.int .i64 gN, .int .i64 gD] ∧ Cs W (w.heap.size + 1) #[.int .i64 sN, .int .i64 sD] ∧ Cs W (w.heap.size + 1 + 1) #[.int .i64 oN, .int .i64 oD] ∧ Cs W (w.heap.size + 1 + 1 + 1) #[.int .i64 iN, .int .i64 iD] ∧ Cs W (w.heap.size + 1 + 1 + 1 + 1) #[.int .i64 0, .int .i64 0] ∧ Cs W ga (arr fa) ∧ Cs W gb (arr fb) ∧ Below w.heap.size w W) (fun s53 _ => (p + 1) - (intOf s53).toNat)
      case atStart => exact ⟨0, _, by omega, rfl, Lib.hid rfl, Lib.hid (fun y hy => absurd hy (by omega)), B0, B1, B2, B3, B4, Ba2, Bb, hbw⟩
      case round =>
        clear B0 B1 B2 B3 B4 Ba2 Bb hbw
        obtain ⟨r, W, hr, rfl, HW, Hno, B0, B1, B2, B3, B4, Ba, Bb, hbw⟩ := hrel
        obtain rfl := HW.out
        clear HW
        by_cases hrp : r < p + 1
        · have hrI : (r : Int) < (p : Int) + 1 := by omega
          have r0 : (0 : Int) ≤ (r : Int) := by omega
          have r1 : (r : Int) ≤ 13 := by omega
          have r2 : ¬ 13 - r = 0 := by omega
          have r3 : r ≤ 13 := by omega
          obtain ⟨t0, t1⟩ := HT.out r
          have kt := fun A c W hz => total_same A (13 - r) c (part fa r (13 - r)) W hz (by omega) (Hg0.out r _) (by rw [← HTs.out r (by omega)]; omega) _ (HTs.out r (by omega))
          have Hno1 := Lib.hid (fun (h : oN * WG < Em.tail gN (gD - gN) p r * oD) y (hy : y < r + 1) => (by
            by_cases e : y = r
            · rw [e]; exact h
            · exact Hno.out y (by omega) : oN * WG < Em.tail gN (gD - gN) p y * oD))
          have Hyes := Lib.hid (fun (h : Em.tail gN (gD - gN) p r * oD ≤ oN * WG) => h)
          generalize hT : Em.tail gN (gD - gN) p r = T at *
          have m0 : 0 ≤ T * oD := Int.mul_nonneg t0 (by omega)
          have m1 : T * oD ≤ 1000000000000 * 1000000 := Int.mul_le_mul (by omega) c2 (by omega) (by omega)
          have m2 : 0 ≤ oN * WG := Int.mul_nonneg c3 (by omega)
          have m3 : oN * WG ≤ 1000000 * 1000000000000 := Int.mul_le_mul (by omega) wg2 (by omega) (by omega)
          have f1 : IntKind.i64.wrap (T * oD) = T * oD := IntWalk.i64_in _ (by omega)
          have f2 : IntKind.i64.wrap (oN * WG) = oN * WG := IntWalk.i64_in _ (by omega)
          by_cases hc : oN * WG < T * oD
          · have Hno2 := Lib.hid (Hno1.out (by omega))
            clear Hno Hno1 Hyes m0 m1 m2 m3 t0 t1
            have cB2 := B2.c
            have fB2 := B2.f
            have lB2 := B2.lt
            have cB3 := B3.c
            have fB3 := B3.f
            have lB3 := B3.lt
            go_wp2_with fail
            go_quiet (first | (go_at_call 60; refine Calls.quiet_of_same (kt _ _ _ (part_ints (Ba.drewN _) r (13 - r) (by omega)))))
            go_wp2_with fail
            go_roundw
            case rel => exact ⟨r + 1, _, by omega, by go_num, Lib.hid rfl, Hno2, B0.drewN _, B1.drewN _, B2.drewN _, B3.drewN _, B4.drewN _, Ba.drewN _, Bb.drewN _, bdrewN hbw _⟩
            case measure => simp [intOf]; omega
          · have Hy2 := Lib.hid (Hyes.out (by omega))
            clear Hno1 Hyes m0 m1 m2 m3 t0 t1
            have cB2 := B2.c
            have fB2 := B2.f
            have lB2 := B2.lt
            have cB3 := B3.c
            have fB3 := B3.f
            have lB3 := B3.lt
            go_wp2_with fail
            go_quiet (first | (go_at_call 60; refine Calls.quiet_of_same (kt _ _ _ (part_ints (Ba.drewN _) r (13 - r) (by omega)))))
            replace B0 := B0.drewN nq
            replace B1 := B1.drewN nq
            replace B2 := B2.drewN nq
            replace B3 := B3.drewN nq
            replace B4 := B4.drewN nq
            replace Ba := Ba.drewN nq
            replace Bb := Bb.drewN nq
            replace hbw := bdrewN hbw nq
            clear cB2 fB2 lB2 cB3 fB3 lB3 kt
            generalize W.drewN nq = W1 at *
            obtain ⟨h0, h1⟩ := HH.out r
            have kh := fun A c W hz => total_same A r c (part fb 0 r) W hz (by omega) (Hs0.out 0 _) (by rw [← HHs.out r]; omega) _ (HHs.out r)
            have Hm1 := Lib.hid (fun y (hy : r ≤ y) => Hm.out r y hy)
            have HyesH := Lib.hid (fun (h : Em.head sN (sD - sN) p r * iD ≤ iN * WS) => h)
            have HnoH := Lib.hid (fun (h : ¬ (Em.head sN (sD - sN) p r * iD ≤ iN * WS)) y (hy : r ≤ y) => (by
              have h1 := Hm.out r y hy
              have h2 : Em.head sN (sD - sN) p r * iD ≤ Em.head sN (sD - sN) p y * iD := Int.mul_le_mul_of_nonneg_right h1 (by omega)
              omega : ¬ (Em.head sN (sD - sN) p y * iD ≤ iN * WS)))
            generalize hH : Em.head sN (sD - sN) p r = H at *
            have m0 : 0 ≤ H * iD := Int.mul_nonneg h0 (by omega)
            have m1 : H * iD ≤ 1000000000000 * 1000000 := Int.mul_le_mul (by omega) d2 (by omega) (by omega)
            have m2 : 0 ≤ iN * WS := Int.mul_nonneg d3 (by omega)
            have m3 : iN * WS ≤ 1000000 * 1000000000000 := Int.mul_le_mul (by omega) ws2 (by omega) (by omega)
            have f3 : IntKind.i64.wrap (H * iD) = H * iD := IntWalk.i64_in _ (by omega)
            have f4 : IntKind.i64.wrap (iN * WS) = iN * WS := IntWalk.i64_in _ (by omega)
            clear m0 m1 m2 m3 h0 h1
            by_cases hc2 : H * iD ≤ iN * WS
            · have hfin : R = (((p : Int), (r : Int)), 0) := by
                rw [← HR.out]
                unfold planP
                have e : Em.rightFrom (planQ gN gD sN sD oN oD iN iD p) 0 (p + 1) = some r := by
                  refine Em.rf_some hrp ?_ (fun y hy => ?_)
                  · rw [Hq.out r, hT, hH, decide_eq_true Hy2.out, decide_eq_true hc2]; rfl
                  · rw [Hq.out y, decide_eq_false (Int.not_le.2 (Hno.out y hy))]; rfl
                rw [Hpl.out, show 13 - p = (12 - p) + 1 by omega, Em.planFrom, e]
              subst hfin
              clear HR Hpl Hno Hy2 HnoH HyesH Hm1 Hq Hm HT HH HTs HHs hT hH
              have cB3 := B3.c
              have fB3 := B3.f
              have lB3 := B3.lt
              have cB4 := B4.c
              have fB4 := B4.f
              have lB4 := B4.lt
              go_wp2_with fail
              go_quiet (first | (go_at_call 60; refine Calls.quiet_of_same (kh _ _ _ (part_ints (Bb.drewN _) 0 r (by omega)))))
              go_wp2_with fail
              exact bodyPost_ret (v := .tuple #[.agg #[.int .i64 (p : Int), .int .i64 (r : Int)], .int .i64 0]) (by simp [results, Try.results24, go_sem, cB4, fB4, lB4]) rfl ⟨rfl, blA⟩
            · have Hpl2 : Hid (Em.planFrom (planQ gN gD sN sD oN oD iN iD) 1 12 = Em.planFrom (planQ gN gD sN sD oN oD iN iD) (p + 1) (13 - (p + 1))) := Lib.hid (by
                have e : Em.rightFrom (planQ gN gD sN sD oN oD iN iD p) 0 (p + 1) = none := by
                  refine Em.rf_none (fun y hy => ?_)
                  rw [Hq.out y]
                  by_cases hyr : y < r
                  · rw [decide_eq_false (Int.not_le.2 (Hno.out y hyr))]; rfl
                  · rw [decide_eq_false (HnoH.out hc2 y (by omega))]; simp
                rw [Hpl.out, show 13 - p = (13 - (p + 1)) + 1 by omega, Em.planFrom, e])
              clear HR Hpl Hno Hy2 HnoH HyesH Hm1 Hq Hm HT HH HTs HHs hT hH
              have cB3 := B3.c
              have fB3 := B3.f
              have lB3 := B3.lt
              go_wp2_with fail
              go_quiet (first | (go_at_call 60; refine Calls.quiet_of_same (kh _ _ _ (part_ints (Bb.drewN _) 0 r (by omega)))))
              go_wp2_with fail
              go_roundw
              case rel => exact ⟨p + 1, by omega, by omega, by go_num, Hpl2, B0.drewN _, B1.drewN _, B2.drewN _, B3.drewN _, B4.drewN _, bdrewN hbw _⟩
              case measure => simp [intOf]; omega
        · obtain rfl : r = p + 1 := by omega
          have Hpl2 : Hid (Em.planFrom (planQ gN gD sN sD oN oD iN iD) 1 12 = Em.planFrom (planQ gN gD sN sD oN oD iN iD) (p + 1) (13 - (p + 1))) := Lib.hid (by
            have e : Em.rightFrom (planQ gN gD sN sD oN oD iN iD p) 0 (p + 1) = none := by
              refine Em.rf_none (fun y hy => ?_)
              rw [Hq.out y, decide_eq_false (Int.not_le.2 (Hno.out y hy))]; rfl
            rw [Hpl.out, show 13 - p = (13 - (p + 1)) + 1 by omega, Em.planFrom, e])
          clear Hpl Hno Hq Hm HT HH HTs HHs
          have f5 : ((p + 1 : Nat) : Int) = (p : Int) + 1 := by omega
          go_wp2_with fail
          go_roundw
          case rel => exact ⟨p + 1, by omega, by omega, by go_num, Hpl2, B0, B1, B2, B3, B4, hbw⟩
          case measure => simp [intOf]; omega
    · obtain rfl : p = 13 := by omega
      have hfin : R = ((0, 0), 22) := by
        rw [← HR.out]
        unfold planP
        rw [Hpl.out]
        rfl
      subst hfin
      clear HR Hpl
      have cB4 := B4.c
      have fB4 := B4.f
      have lB4 := B4.lt
      go_wp2_with fail
      exact bodyPost_ret (v := .tuple #[.agg #[.int .i64 0, .int .i64 0], .int .i64 22]) (by simp [results, Try.results24, go_sem, cB4, fB4, lB4]) rfl ⟨rfl, blA⟩

end Go.Proofs.Ytcmllkjgggcghaa
end

/- Walks of the reference of layer 10: plans. -/
section
namespace Go.Proofs.Ytcmllkjgggcghaa
open Go.RowKit Go.Shelf
set_option linter.unusedSimpArgs false
set_option linter.unusedVariables false
open Em (isCh red cnt ch)

set_option maxHeartbeats 400000 in
theorem rcommon_any (a b : Int) (w : World) (ha : 0 ≤ a) (hb : 0 ≤ b) (hA : a ≤ 9223372036854775807) (hB : b ≤ 9223372036854775807) :
    Calls Try.prog 63 #[.int .i64 a, .int .i64 b] w fun e w' => e = .returned (.int .i64 (Int.gcd a b)) ∧ Below w.heap.size w w' := by
  go_enter Try.func63, Try.ntmps63
  go_wp2
  go_loopw [0, 1] (fun x y wr => ∃ p q : Int, 0 ≤ p ∧ 0 ≤ q ∧ p ≤ 9223372036854775807 ∧ q ≤ 9223372036854775807 ∧ x = .int .i64 p ∧ y = .int .i64 q ∧ Hid (Int.gcd p q = Int.gcd a b) ∧ Below w.heap.size w wr) (fun _ y _ => (intOf y).toNat)
  case atStart => exact ⟨a, b, ha, hb, hA, hB, rfl, rfl, rfl, Below.refl _ _⟩
  case round =>
    obtain ⟨p, q, hp, hq, hP, hQ, rfl, rfl, hg, hbl⟩ := hrel
    by_cases h0 : q = 0
    · subst h0
      go_wp2
      go_ret
      refine ⟨?_, hbl⟩
      have := hg.out
      rw [← this]
      simp
      omega
    · have hm0 := Int.emod_nonneg p (b := q) h0
      have hm1 := Int.emod_lt_of_pos p (b := q) (by omega)
      have h1 : 1 ≤ q := by omega
      have hgc : Hid (Int.gcd q (p % q) = Int.gcd a b) := by
        rw [← hg.out]; show Int.gcd q (p % q) = Int.gcd p q
        exact Um.gcd_step p q hp (by omega)
      clear h0
      go_wp2
      go_quiet (fail)
      go_wp2
      go_roundw
      case rel => exact ⟨q, p % q, by omega, by omega, by omega, by omega, rfl, rfl, hgc, by first | exact hbl.drew | exact bdrewN hbl _⟩
      case measure => simp [intOf]; omega

set_option maxHeartbeats 1000000 in
theorem fraction_any (n d : Int) (w : World) (hn : 0 ≤ n) (hd : 1 ≤ d) (hN : n ≤ 9223372036854775807) (hD : d ≤ 9223372036854775807) :
    Calls Try.prog 30 #[.int .i64 n, .int .i64 d] w fun e w' => e = .returned (.agg #[.int .i64 (red n d).1, .int .i64 (red n d).2]) ∧ Below w.heap.size w w' := by
  have hg : 1 ≤ (Int.gcd n d : Int) := by
    have : 0 < Int.gcd n d := Int.gcd_pos_of_ne_zero_right _ (by omega)
    omega
  have k1 := fun W => rcommon_any n d W (by omega) (by omega) hN hD
  unfold red
  dsimp only
  generalize (Int.gcd n d : Int) = g at *
  have l1 : 0 ≤ n / g := Int.ediv_nonneg (by omega) (by omega)
  have l2 : 0 ≤ d / g := Int.ediv_nonneg (by omega) (by omega)
  have l3 : n / g ≤ n := Int.ediv_le_self _ (by omega)
  have l4 : d / g ≤ d := Int.ediv_le_self _ (by omega)
  have f1 : n.tdiv g = n / g := Int.tdiv_eq_ediv_of_nonneg (by omega)
  have f2 : d.tdiv g = d / g := Int.tdiv_eq_ediv_of_nonneg (by omega)
  have e1 : IntKind.i64.wrap (n / g) = n / g := IntWalk.i64_in _ (by omega)
  have e2 : IntKind.i64.wrap (d / g) = d / g := IntWalk.i64_in _ (by omega)
  have g0 : (g == 0) = false := by simp; omega
  go_enter Try.func30, Try.ntmps30
  go_wp2_with fail
  refine (k1 _).mono ?_
  rintro e w1 ⟨rfl, hb1⟩
  replace B1 : Cs w1 (w.heap.size) #[.int .i64 0, .int .i64 0] := Cs.keep csA hb1
  replace hbw : Below w.heap.size w w1 := blA
  replace cB1 := B1.c
  replace fB1 := B1.f
  replace lB1 := B1.lt
  clear hb1
  go_wp2_with fail
  go_region
  go_wp2_with fail
  exact bodyPost_ret (v := .agg #[.int .i64 (n / g), .int .i64 (d / g)]) (by simp [results, Try.results30, go_sem, cB1, fB1, lB1]) rfl ⟨rfl, blA⟩

set_option maxHeartbeats 1000000 in
theorem risChance_any (n d m : Int) (w : World) (hm : m ≤ 1000000000) :
    Calls Try.prog 61 #[.agg #[.int .i64 n, .int .i64 d], .int .i64 m] w fun e w' => e = .returned (.bool (isCh n d m)) ∧ Below w.heap.size w w' := by
  by_cases h1 : 1 ≤ d
  case neg =>
    have hfin : Hid (false = isCh n d m) := Lib.hid (by symm; simp [isCh]; omega)
    go_enter Try.func61, Try.ntmps61
    go_wp2_with fail
    go_ret
    exact ⟨ret_bool hfin.out, blA⟩
  case pos =>
  by_cases h2 : d ≤ m
  case neg =>
    have hfin : Hid (false = isCh n d m) := Lib.hid (by symm; simp [isCh]; omega)
    go_enter Try.func61, Try.ntmps61
    go_wp2_with fail
    go_ret
    exact ⟨ret_bool hfin.out, blA⟩
  case pos =>
  by_cases h3 : 0 ≤ n
  case neg =>
    have hfin : Hid (false = isCh n d m) := Lib.hid (by symm; simp [isCh]; omega)
    go_enter Try.func61, Try.ntmps61
    go_wp2_with fail
    go_ret
    exact ⟨ret_bool hfin.out, blA⟩
  case pos =>
  by_cases h4 : n ≤ d
  case neg =>
    have hfin : Hid (false = isCh n d m) := Lib.hid (by symm; simp [isCh]; omega)
    go_enter Try.func61, Try.ntmps61
    go_wp2_with fail
    go_ret
    exact ⟨ret_bool hfin.out, blA⟩
  case pos =>
  have k3 := fun W => rcommon_any n d W (by omega) (by omega) (by omega) (by omega)
  have hfin : Hid (((Int.gcd n d : Int) == 1) = isCh n d m) := Lib.hid (by rw [Bool.eq_iff_iff]; simp [isCh, h1, h2, h3, h4]; omega)
  generalize (Int.gcd n d : Int) = g at *
  go_enter Try.func61, Try.ntmps61
  go_wp2_with fail
  refine (k3 _).mono ?_
  rintro e w1 ⟨rfl, hb1⟩
  replace hbw : Below w.heap.size w w1 := blA
  clear hb1
  go_wp2_with fail
  go_ret
  exact ⟨ret_bool hfin.out, blA⟩

set_option maxHeartbeats 1000000 in
theorem power_same (n : Int) (t : Nat) (w : World) (h0 : 0 ≤ n) (h1 : n ≤ 10) (ht : t ≤ 12) (q : Int) (hq : q = n ^ t) :
    Calls Try.prog 80 #[.int .i64 n, .int .i64 t] w fun e w' => e = .returned (.int .i64 q) ∧ w' = w := by
  have Hq := Lib.hid hq
  have Hb := Lib.hid (fun k hk => (⟨Em.pow_nonneg h0 k, pow_le h0 h1 k hk⟩ : 0 ≤ n ^ k ∧ n ^ k ≤ 1000000000000))
  clear hq
  go_enter Try.func80, Try.ntmps80
  go_wp2_with fail
  go_loopw [5, 6] (fun s5 s6 wr => ∃ (k : Nat) (x : Int), k ≤ t ∧ s6 = .int .i64 k ∧ s5 = .int .i64 x ∧ Hid (x = n ^ k) ∧ wr = w) (fun _ s6 _ => t - (intOf s6).toNat)
  case atStart => exact ⟨0, 1, Nat.zero_le _, rfl, rfl, Lib.hid (by simp), rfl⟩
  case round =>
    obtain ⟨k, x, hk, rfl, rfl, Hx, rfl⟩ := hrel
    by_cases hkt : k < t
    · have hkI : (k : Int) < (t : Int) := by omega
      have Hx2 : Hid (x * n = n ^ (k + 1)) := Lib.hid (by rw [Hx.out, Int.pow_succ])
      have hb := Hb.out (k + 1) (by omega)
      have f1 : IntKind.i64.wrap (x * n) = x * n := by rw [Hx2.out]; exact IntWalk.i64_in _ ⟨Int.le_trans (by decide) hb.1, Int.le_trans hb.2 (by decide)⟩
      clear hb Hx
      go_wp2_with fail
      go_roundw
      case rel => exact ⟨k + 1, x * n, by omega, by go_num, rfl, Hx2, by trivial⟩
      case measure => simp [intOf]; omega
    · obtain rfl : k = t := by omega
      have Hf : Hid (x = q) := Lib.hid (by rw [Hx.out, Hq.out])
      clear Hx
      go_wp2_with fail
      go_ret
      exact ⟨ret_int Hf.out, rfl⟩

set_option maxHeartbeats 1000000 in
theorem choose_same (n t : Nat) (w : World) (hn : n ≤ 12) (ht : t ≤ n) (q : Int) (hq : q = (ch n t : Int)) :
    Calls Try.prog 79 #[.int .i64 n, .int .i64 t] w fun e w' => e = .returned (.int .i64 q) ∧ w' = w := by
  have Hq := Lib.hid hq
  have Hs := Lib.hid (fun k (hk : k < t) => Em.ch_step n (by omega) k (by omega) (by omega))
  clear hq
  go_enter Try.func79, Try.ntmps79
  go_wp2_with fail
  go_loopw [5, 6] (fun s5 s6 wr => ∃ (k c : Nat), k ≤ t ∧ s6 = .int .i64 k ∧ s5 = .int .i64 c ∧ Hid (c = ch n k) ∧ wr = w) (fun _ s6 _ => t - (intOf s6).toNat)
  case atStart => exact ⟨0, 1, Nat.zero_le _, rfl, rfl, Lib.hid (by cases n <;> rfl), rfl⟩
  case round =>
    obtain ⟨k, c, hk, rfl, rfl, Hc, rfl⟩ := hrel
    by_cases hkt : k < t
    · have hkI : (k : Int) < (t : Int) := by omega
      obtain ⟨s1, s2⟩ := Hs.out k hkt
      rw [← Hc.out] at s1 s2
      have hm1 : c * (n - k) ≤ 924 * 12 := Nat.mul_le_mul s2 (by omega)
      have e1 : (n : Int) - (k : Int) = ((n - k : Nat) : Int) := by omega
      have e2 : (c : Int) * ((n - k : Nat) : Int) = ((c * (n - k) : Nat) : Int) := by rw [Int.natCast_mul]
      have f1 : IntKind.i64.wrap ((n : Int) - (k : Int)) = ((n - k : Nat) : Int) := by rw [e1]; exact IntWalk.i64_in _ (by omega)
      have f2 : IntKind.i64.wrap ((c : Int) * ((n - k : Nat) : Int)) = (c : Int) * ((n - k : Nat) : Int) := by rw [e2]; exact IntWalk.i64_in _ (by omega)
      have f3 : IntKind.i64.wrap ((k : Int) + 1) = (k : Int) + 1 := IntWalk.i64_in _ (by omega)
      have f4 : ((c : Int) * ((n - k : Nat) : Int)).tdiv ((k : Int) + 1) = ((ch n (k + 1) : Nat) : Int) := by
        rw [e2, ← s1, show (k : Int) + 1 = ((k + 1 : Nat) : Int) by omega, Int.tdiv_eq_ediv_of_nonneg (Int.natCast_nonneg _)]
        exact (Int.natCast_ediv _ _).symm
      have f5 : IntKind.i64.wrap ((ch n (k + 1) : Nat) : Int) = ((ch n (k + 1) : Nat) : Int) := IntWalk.i64_in _ (by
        have : ch n (k + 1) ≤ c * (n - k) := by rw [← s1]; exact Nat.div_le_self _ _
        omega)
      have z1 : ((k : Int) + 1 == 0) = false := by simp; omega
      have z2 : ¬ ((k : Int) + 1 = 0) := by omega
      clear s1 s2 hm1 e1 e2 Hc
      go_wp2_with fail
      go_roundw
      case rel => exact ⟨k + 1, ch n (k + 1), by omega, by go_num, rfl, Lib.hid rfl, by trivial⟩
      case measure => simp [intOf]; omega
    · obtain rfl : k = t := by omega
      have Hf : Hid ((c : Int) = q) := Lib.hid (by rw [Hc.out, Hq.out])
      clear Hc
      go_wp2_with fail
      go_ret
      exact ⟨ret_int Hf.out, rfl⟩

end Go.Proofs.Ytcmllkjgggcghaa
end
