/- RA2 UA1 UA2 UA3 UA4 -/
import Derived.Test.YtminplfgadhnnaaGreatDoorSC01
import Derived.RegionTactic
import Derived.BigRegion
import Derived.Laws.Rows
/- Walks of the reference of units: fractions and spans. -/
section
namespace Go.Proofs.YtminplfgadhnnaaGreatDoor
open Go.RowKit Go.Shelf
set_option linter.unusedSimpArgs false
set_option linter.unusedVariables false
open Um (frac S4 spanB spanE)

set_option maxHeartbeats 400000 in
theorem rgcd_any (a b : Int) (w : World) (ha : 0 ≤ a) (hb : 0 ≤ b) (hA : a ≤ 9223372036854775807) (hB : b ≤ 9223372036854775807) :
    Calls Tryz.prog 57 #[.int .i64 a, .int .i64 b] w fun e w' => e = .returned (.int .i64 (Int.gcd a b)) ∧ Below w.heap.size w w' := by
  go_enter Tryz.func57, Tryz.ntmps57
  go_wp2
  go_loopw [0, 1] (fun x y wr => ∃ p q : Int, 0 ≤ p ∧ 0 ≤ q ∧ p ≤ 9223372036854775807 ∧ q ≤ 9223372036854775807 ∧ x = .int .i64 p ∧ y = .int .i64 q ∧ Hid (Int.gcd p q = Int.gcd a b) ∧ Below w.heap.size w wr) (fun _ y _ => (intOf y).toNat)
  case atStart => exact ⟨a, b, ha, hb, hA, hB, rfl, rfl, rfl, Below.refl _ _⟩
  case round =>
    obtain ⟨p, q, hp, hq, hP, hQ, rfl, rfl, hg, hbl⟩ := hrel
    by_cases h0 : q = 0
    · subst h0
      go_wp2
      go_ret
      refine ⟨?_, hbl⟩
      have := hg.out
      rw [← this]
      simp
      omega
    · have hm0 := Int.emod_nonneg p (b := q) h0
      have hm1 := Int.emod_lt_of_pos p (b := q) (by omega)
      have h1 : 1 ≤ q := by omega
      have hgc : Hid (Int.gcd q (p % q) = Int.gcd a b) := by
        rw [← hg.out]; show Int.gcd q (p % q) = Int.gcd p q
        exact Um.gcd_step p q hp (by omega)
      clear h0
      go_wp2
      go_quiet (fail)
      go_wp2
      go_roundw
      case rel => exact ⟨q, p % q, by omega, by omega, by omega, by omega, rfl, rfl, hgc, by first | exact hbl.drew | exact bdrewN hbl _⟩
      case measure => simp [intOf]; omega

set_option maxHeartbeats 400000 in
theorem rless_any (a b c d : Int) (w : World) (ha : 0 ≤ a) (hb : 0 ≤ b) (hc : 0 ≤ c) (hd : 0 ≤ d) (hA : a ≤ 2000000000) (hB : b ≤ 2000000000) (hC : c ≤ 2000000000) (hD : d ≤ 2000000000) :
    Calls Tryz.prog 40 #[.agg #[.int .i64 a, .int .i64 b], .agg #[.int .i64 c, .int .i64 d]] w fun e w' => e = .returned (.bool (decide (a * d < c * b))) ∧ Below w.heap.size w w' := by
  have h1 : 0 ≤ a * d := Int.mul_nonneg ha hd
  have h2 : 0 ≤ c * b := Int.mul_nonneg hc hb
  have h3 : a * d ≤ 4000000000000000000 := Int.le_trans (Int.mul_le_mul hA hD hd (by omega)) (by omega)
  have h4 : c * b ≤ 4000000000000000000 := Int.le_trans (Int.mul_le_mul hC hB hb (by omega)) (by omega)
  go_enter Tryz.func40, Tryz.ntmps40
  go_wp2
  go_ret
  exact ⟨rfl, ((Below.refl _ _).alloc (Nat.le_refl _) _).alloc (by simp) _⟩

set_option maxHeartbeats 400000 in
theorem rwithin_any (n lo hi : Int) (w : World) :
    Calls Tryz.prog 56 #[.int .i64 n, .int .i64 lo, .int .i64 hi] w fun e w' => e = .returned (.bool (decide (lo ≤ n) && decide (n ≤ hi))) ∧ Below w.heap.size w w' := by
  by_cases h : lo ≤ n
  · go_enter Tryz.func56, Tryz.ntmps56
    go_wp2
    go_ret
    exact ⟨ret_bool (by simp [h]), Below.refl _ _⟩
  · have hn' : decide (lo ≤ n) = false := by simp; omega
    have Hn := Lib.hid hn'
    clear hn'
    go_enter Tryz.func56, Tryz.ntmps56
    go_wp2
    go_ret
    exact ⟨ret_bool (by rw [Hn.out]; simp), Below.refl _ _⟩

set_option maxHeartbeats 400000 in
theorem risFraction_any (n d : Int) (w : World) :
    Calls Tryz.prog 26 #[.agg #[.int .i64 n, .int .i64 d]] w fun e w' => e = .returned (.bool (frac n d)) ∧ Below w.heap.size w w' := by
  have h1 := fun W => rwithin_any n 1 1000000000 W
  have h2 := fun W => rwithin_any d 1 1000000000 W
  cases hi1 : (decide (1 ≤ n) && decide (n ≤ 1000000000)) with
  | false =>
    have hfin : Hid (false = frac n d) := by show _ = _; simp at hi1; simp [frac]; omega
    rw [hi1] at h1
    clear hi1 h2
    go_enter Tryz.func26, Tryz.ntmps26
    go_wp2_with fail
    refine (h1 _).mono ?_
    rintro e w1 ⟨rfl, hb1⟩
    go_wp2_with fail
    go_ret
    exact ⟨ret_bool hfin.out, bstep (balloc (Below.refl _ _) _) hb1⟩
  | true =>
    cases hi2 : (decide (1 ≤ d) && decide (d ≤ 1000000000)) with
    | false =>
      have hfin : Hid (false = frac n d) := by show _ = _; simp at hi2; simp [frac]; omega
      rw [hi1] at h1
      rw [hi2] at h2
      clear hi1 hi2
      go_enter Tryz.func26, Tryz.ntmps26
      go_wp2_with fail
      refine (h1 _).mono ?_
      rintro e w1 ⟨rfl, hb1⟩
      have B0 := (Cs.new w _ #[.int .i64 n, .int .i64 d] 41 rfl).keep hb1
      have c0 := B0.c
      go_wp2_with fail
      refine (h2 _).mono ?_
      rintro e w2 ⟨rfl, hb2⟩
      go_wp2_with fail
      go_ret
      exact ⟨ret_bool hfin.out, bstep (bstep (balloc (Below.refl _ _) _) hb1) hb2⟩
    | true =>
      have hfin : Hid (((Int.gcd n d : Int) == 1) = frac n d) := by
        show _ = _
        simp at hi1 hi2
        rw [Bool.eq_iff_iff]; simp [frac, hi1, hi2]; omega
      have h3 := fun W => rgcd_any n d W (by simp at hi1; omega) (by simp at hi2; omega) (by simp at hi1; omega) (by simp at hi2; omega)
      rw [hi1] at h1
      rw [hi2] at h2
      clear hi1 hi2
      go_enter Tryz.func26, Tryz.ntmps26
      go_wp2_with fail
      refine (h1 _).mono ?_
      rintro e w1 ⟨rfl, hb1⟩
      have B0 := (Cs.new w _ #[.int .i64 n, .int .i64 d] 41 rfl).keep hb1
      have c0 := B0.c
      go_wp2_with fail
      refine (h2 _).mono ?_
      rintro e w2 ⟨rfl, hb2⟩
      have c0' := (B0.keep hb2).c
      clear c0
      go_wp2_with fail
      refine (h3 _).mono ?_
      rintro e w3 ⟨rfl, hb3⟩
      go_wp2_with fail
      go_ret
      exact ⟨ret_bool hfin.out, bstep (bstep (bstep (balloc (Below.refl _ _) _) hb1) hb2) hb3⟩

set_option maxHeartbeats 1000000 in
theorem rcheckSpan_any (a b c d : Int) (w : World) :
    Calls Tryz.prog 11 #[.agg #[.int .i64 a, .int .i64 b, .int .i64 c, .int .i64 d]] w fun e w' => e = .returned (.int .i64 (spanE (a, b, c, d))) ∧ Below w.heap.size w w' := by
  have h1 := fun W => risFraction_any a b W
  have h2 := fun W => risFraction_any c d W
  cases hf1 : frac a b with
  | false =>
    have hfin : Hid (2 = spanE (a, b, c, d)) := by show _ = _; simp [spanE, spanB, hf1]
    rw [hf1] at h1
    clear hf1 h2
    go_enter Tryz.func11, Tryz.ntmps11
    go_wp2_with fail
    refine (h1 _).mono ?_
    rintro e w1 ⟨rfl, hb1⟩
    go_wp2_with fail
    go_ret
    exact ⟨ret_int hfin.out, bstep (balloc (Below.refl _ _) _) hb1⟩
  | true =>
    cases hf2 : frac c d with
    | false =>
      have hfin : Hid (2 = spanE (a, b, c, d)) := by show _ = _; simp [spanE, spanB, hf1, hf2]
      rw [hf1] at h1
      rw [hf2] at h2
      clear hf1 hf2
      go_enter Tryz.func11, Tryz.ntmps11
      go_wp2_with fail
      refine (h1 _).mono ?_
      rintro e w1 ⟨rfl, hb1⟩
      have B0 := (Cs.new w _ #[.int .i64 a, .int .i64 b, .int .i64 c, .int .i64 d] 43 rfl).keep hb1
      have c0 := B0.c
      go_wp2_with fail
      refine (h2 _).mono ?_
      rintro e w2 ⟨rfl, hb2⟩
      go_wp2_with fail
      go_ret
      exact ⟨ret_int hfin.out, bstep (bstep (balloc (Below.refl _ _) _) hb1) hb2⟩
    | true =>
      obtain ⟨a1, a2, b1, b2⟩ := Um.frac_bd hf1
      obtain ⟨c1, c2, d1, d2⟩ := Um.frac_bd hf2
      have h3 := fun W => rless_any c d a b W (by omega) (by omega) (by omega) (by omega) (by omega) (by omega) (by omega) (by omega)
      cases hl : decide (c * b < a * d) with
      | true =>
        have hfin : Hid (2 = spanE (a, b, c, d)) := by
          show _ = _
          have : ¬ a * d ≤ c * b := by simp at hl; omega
          simp [spanE, spanB, hf1, hf2, this]
        rw [hf1] at h1
        rw [hf2] at h2
        rw [hl] at h3
        clear hf1 hf2 hl
        go_enter Tryz.func11, Tryz.ntmps11
        go_wp2_with fail
        refine (h1 _).mono ?_
        rintro e w1 ⟨rfl, hb1⟩
        have B0 := (Cs.new w _ #[.int .i64 a, .int .i64 b, .int .i64 c, .int .i64 d] 43 rfl).keep hb1
        have c0 := B0.c
        go_wp2_with fail
        refine (h2 _).mono ?_
        rintro e w2 ⟨rfl, hb2⟩
        have c0' := (B0.keep hb2).c
        clear c0
        go_wp2_with fail
        refine (h3 _).mono ?_
        rintro e w3 ⟨rfl, hb3⟩
        go_wp2_with fail
        go_ret
        exact ⟨ret_int hfin.out, bstep (bstep (bstep (balloc (Below.refl _ _) _) hb1) hb2) hb3⟩
      | false =>
        have hfin : Hid (0 = spanE (a, b, c, d)) := by
          show _ = _
          have : a * d ≤ c * b := by simp at hl; omega
          simp [spanE, spanB, hf1, hf2, this]
        rw [hf1] at h1
        rw [hf2] at h2
        rw [hl] at h3
        clear hf1 hf2 hl
        go_enter Tryz.func11, Tryz.ntmps11
        go_wp2_with fail
        refine (h1 _).mono ?_
        rintro e w1 ⟨rfl, hb1⟩
        have B0 := (Cs.new w _ #[.int .i64 a, .int .i64 b, .int .i64 c, .int .i64 d] 43 rfl).keep hb1
        have c0 := B0.c
        go_wp2_with fail
        refine (h2 _).mono ?_
        rintro e w2 ⟨rfl, hb2⟩
        have c0' := (B0.keep hb2).c
        clear c0
        go_wp2_with fail
        refine (h3 _).mono ?_
        rintro e w3 ⟨rfl, hb3⟩
        go_wp2_with fail
        go_ret
        exact ⟨ret_int hfin.out, bstep (bstep (bstep (balloc (Below.refl _ _) _) hb1) hb2) hb3⟩

end Go.Proofs.YtminplfgadhnnaaGreatDoor
end

/- Walks of the small functions of package unit: less, common, within. -/
section
namespace Go.Proofs.YtminplfgadhnnaaGreatDoor
open Go.RowKit Go.Shelf

set_option maxHeartbeats 400000 in
theorem less_any_u (a b c d : Int) (w : World) (ha : 0 ≤ a) (hb : 0 ≤ b) (hc : 0 ≤ c) (hd : 0 ≤ d) (hA : a ≤ 2000000000) (hB : b ≤ 2000000000) (hC : c ≤ 2000000000) (hD : d ≤ 2000000000) :
    Calls Tryz.prog 58 #[.agg #[.int .i64 a, .int .i64 b], .agg #[.int .i64 c, .int .i64 d]] w fun e w' => e = .returned (.bool (decide (a * d < c * b))) ∧ Below w.heap.size w w' := by
  have h1 : 0 ≤ a * d := Int.mul_nonneg ha hd
  have h2 : 0 ≤ c * b := Int.mul_nonneg hc hb
  have h3 : a * d ≤ 4000000000000000000 := Int.le_trans (Int.mul_le_mul hA hD hd (by omega)) (by omega)
  have h4 : c * b ≤ 4000000000000000000 := Int.le_trans (Int.mul_le_mul hC hB hb (by omega)) (by omega)
  go_enter Tryz.func58, Tryz.ntmps58
  go_wp2
  go_ret
  exact ⟨rfl, ((Below.refl _ _).alloc (Nat.le_refl _) _).alloc (by simp) _⟩

set_option maxHeartbeats 400000 in
theorem common_any (a b : Int) (w : World) (ha : 0 ≤ a) (hb : 0 ≤ b) (hA : a ≤ 9223372036854775807) (hB : b ≤ 9223372036854775807) :
    Calls Tryz.prog 147 #[.int .i64 a, .int .i64 b] w fun e w' => e = .returned (.int .i64 (Int.gcd a b)) ∧ Below w.heap.size w w' := by
  go_enter Tryz.func147, Tryz.ntmps147
  go_wp2
  go_loopw [0, 1] (fun x y wr => ∃ p q : Int, 0 ≤ p ∧ 0 ≤ q ∧ p ≤ 9223372036854775807 ∧ q ≤ 9223372036854775807 ∧ x = .int .i64 p ∧ y = .int .i64 q ∧ Hid (Int.gcd p q = Int.gcd a b) ∧ Below w.heap.size w wr) (fun _ y _ => (intOf y).toNat)
  case atStart => exact ⟨a, b, ha, hb, hA, hB, rfl, rfl, rfl, Below.refl _ _⟩
  case round =>
    obtain ⟨p, q, hp, hq, hP, hQ, rfl, rfl, hg, hbl⟩ := hrel
    by_cases h0 : q = 0
    · subst h0
      go_wp2
      go_ret
      refine ⟨?_, hbl⟩
      have := hg.out
      rw [← this]
      simp
      omega
    · have hm0 := Int.emod_nonneg p (b := q) h0
      have hm1 := Int.emod_lt_of_pos p (b := q) (by omega)
      have h1 : 1 ≤ q := by omega
      have hgc : Hid (Int.gcd q (p % q) = Int.gcd a b) := by
        rw [← hg.out]; show Int.gcd q (p % q) = Int.gcd p q
        exact Um.gcd_step p q hp (by omega)
      clear h0
      go_wp2
      go_quiet (fail)
      go_wp2
      go_roundw
      case rel => exact ⟨q, p % q, by omega, by omega, by omega, by omega, rfl, rfl, hgc, by first | exact hbl.drew | exact bdrewN hbl _⟩
      case measure => simp [intOf]; omega

/-- what a predicate on numbers that is handed on gives, whatever has been made since -/
def PredInts_u (P : Program) (g : Nat) (lb : Array Value) (p : Int → Bool) (zs : List Int) (w : World) : Prop :=
  ∀ x, x ∈ zs → ∀ W, Below w.heap.size w W → Calls P g (#[.int .i64 x] ++ lb) W fun e W' => e = .returned (.bool (p x)) ∧ Below w.heap.size w W'

set_option maxHeartbeats 400000 in
theorem indexInts_any_u (A : Option Addr) (n c g : Nat) (zs : List Int) (lb : Array Value) (p : Int → Bool) (w : World) (eg : ∀ args w, (callFunc g args).run Tryz.prog w = .ok (.enter g args) w)
    (hz : Ints w A n zs) (hn : n ≤ 9223372036854775807) (hp : PredInts_u Tryz.prog g lb p zs w) :
    Calls Tryz.prog 151 #[.slice A n c, .func (.func g) #[] lb] w fun e w' => e = .returned (.int .i64 (Um.idx p zs)) ∧ Below w.heap.size w w' := by
  obtain ⟨hl, hcell⟩ := hz
  have Hcell := Lib.hid hcell
  have Hp := Lib.hid hp
  have Hl := Lib.hid hl
  clear hcell hp hl
  go_enter Tryz.func151, Tryz.ntmps151
  go_wp2
  go_loopw [5, 8] (fun _ i wr => ∃ k : Nat, k ≤ n ∧ i = .int .i64 k ∧ Hid (∀ i y, i < k → zs[i]? = some y → p y = false) ∧ Below w.heap.size w wr) (fun _ i _ => n - (intOf i).toNat)
  case atStart => exact ⟨0, Nat.zero_le _, rfl, fun i y hi => by omega, Below.refl _ _⟩
  case round =>
    obtain ⟨k, hk, rfl, hpre, hbl⟩ := hrel
    by_cases hlt : k < n
    · obtain ⟨b, off, rfl, hb, hc⟩ := Hcell.out (by omega)
      have hx : wr.cell? ⟨b, off + k, none⟩ = some (.int .i64 (zs.getD k 0)) := (hbl.cell (p := ⟨b, off + k, none⟩) hb).trans (hc k hlt)
      have hget : zs[k]? = some (zs.getD k 0) := by
        rw [List.getD_eq_getElem?_getD, List.getElem?_eq_getElem (by have := Hl.out; omega)]; rfl
      have Hget := Lib.hid hget
      have hcall := Hp.out (zs.getD k 0) (List.mem_of_getElem? hget) wr hbl
      clear hc hget
      generalize zs.getD k 0 = x at *
      cases hq : p x with
      | true =>
        rw [hq] at hcall
        have Hq := Lib.hid hq
        clear hq
        go_wp2_with (go_at_fn g; refine hcall.mono ?_; rintro e w' ⟨rfl, hb'⟩)
        go_ret
        exact ⟨ret_int (Um.idx_at p k zs x hpre.out Hget.out Hq.out).symm, hb'⟩
      | false =>
        rw [hq] at hcall
        have Hq := Lib.hid hq
        clear hq
        go_wp2_with (go_at_fn g; refine hcall.mono ?_; rintro e w' ⟨rfl, hb'⟩)
        go_roundw
        case rel =>
          refine ⟨k + 1, by omega, by go_num, fun i y hi hy => ?_, hb'⟩
          by_cases hik : i < k
          · exact hpre.out i y hik hy
          · have : i = k := by omega
            subst this
            have := Hget.out
            rw [hy] at this
            injection this with this
            rw [this]; exact Hq.out
        case measure => simp [intOf]; omega
    · go_wp2
      go_ret
      refine ⟨ret_int (Um.idx_none p zs (fun y hy => ?_)).symm, hbl⟩
      obtain ⟨i, hi, hiy⟩ := List.mem_iff_getElem.1 hy
      exact hpre.out i y (by have := Hl.out; omega) (by rw [List.getElem?_eq_getElem hi, hiy])

set_option maxHeartbeats 400000 in
theorem containsInts_any_u (A : Option Addr) (n c g : Nat) (zs : List Int) (lb : Array Value) (p : Int → Bool) (w : World) (eg : ∀ args w, (callFunc g args).run Tryz.prog w = .ok (.enter g args) w)
    (hz : Ints w A n zs) (hn : n ≤ 9223372036854775807) (hp : PredInts_u Tryz.prog g lb p zs w) :
    Calls Tryz.prog 105 #[.slice A n c, .func (.func g) #[] lb] w fun e w' => e = .returned (.bool (zs.any p)) ∧ Below w.heap.size w w' := by
  have h1 := indexInts_any_u A n c g zs lb p w eg hz hn hp
  have h2 := Um.idx_any p zs
  have H2 := Lib.hid h2
  clear h2 hz hp eg
  generalize zs.any p = r at *
  generalize Um.idx p zs = ix at *
  go_enter Tryz.func105, Tryz.ntmps105
  go_wp2_with (go_at_call 151; refine h1.mono ?_; rintro e w' ⟨rfl, hb'⟩)
  go_ret
  exact ⟨ret_bool H2.out, hb'⟩

/-- a number is not from lo to hi -/
def out_u (lo hi n : Int) : Bool := decide (n < lo) || decide (hi < n)

set_option maxHeartbeats 400000 in
theorem withinC_any_u (lo hi n : Int) (b1 b2 : Nat) (w : World) (h1 : w.cell? ⟨b1, 0, none⟩ = some (.int .i64 lo)) (h2 : w.cell? ⟨b2, 0, none⟩ = some (.int .i64 hi)) :
    Calls Tryz.prog 154 #[.int .i64 n, .pointer (some ⟨b1, 0, none⟩), .pointer (some ⟨b2, 0, none⟩)] w fun e w' => e = .returned (.bool (out_u lo hi n)) ∧ Below w.heap.size w w' := by
  unfold out_u
  by_cases hn : n < lo
  · go_enter Tryz.func154, Tryz.ntmps154
    go_wp2
    go_ret
    exact ⟨ret_bool (by simp [hn]), Below.refl _ _⟩
  · have hn' : decide (n < lo) = false := by simp; omega
    have Hn := Lib.hid hn'
    clear hn'
    go_enter Tryz.func154, Tryz.ntmps154
    go_wp2
    go_ret
    exact ⟨ret_bool (by rw [Hn.out]; simp), Below.refl _ _⟩

set_option maxHeartbeats 400000 in
theorem within_any_u (lo hi : Int) (A : Option Addr) (n c : Nat) (zs : List Int) (w : World) (hz : Ints w A n zs) (hn : n ≤ 9223372036854775807) :
    Calls Tryz.prog 115 #[.int .i64 lo, .int .i64 hi, .slice A n c] w fun e w' => e = .returned (.bool (zs.all fun x => !out_u lo hi x)) ∧ Below w.heap.size w w' := by
  have hw2 : Below w.heap.size w ((w.alloc (.cells #[.int .i64 lo] 2)).alloc (.cells #[.int .i64 hi] 2)) := ((Below.refl _ _).alloc (Nat.le_refl _) _).alloc (by simp) _
  have hsz : ((w.alloc (.cells #[.int .i64 lo] 2)).alloc (.cells #[.int .i64 hi] 2)).heap.size = w.heap.size + 2 := by simp
  have h1 := containsInts_any_u A n c 154 zs #[.pointer (some ⟨w.heap.size, 0, none⟩), .pointer (some ⟨w.heap.size + 1, 0, none⟩)] (out_u lo hi) _
    (enters_of Tryz.func154 (by kernel_rfl) rfl) (hz.below hw2) hn (fun x _ W hW => (withinC_any_u lo hi x w.heap.size (w.heap.size + 1) W
      ((hW.cell (p := ⟨w.heap.size, 0, none⟩) (by rw [hsz]; simp)).trans (by simp)) ((hW.cell (p := ⟨w.heap.size + 1, 0, none⟩) (by rw [hsz]; simp)).trans (by simp))).mono fun e W' ⟨he, hb⟩ => ⟨he, hW.trans (hb.mono hW.size)⟩)
  have hany : Hid ((!zs.any (out_u lo hi)) = zs.all fun x => !out_u lo hi x) := by show _ = _; rw [List.not_any_eq_all_not]
  clear hz hsz
  generalize (zs.all fun x => !out_u lo hi x) = r at *
  generalize zs.any (out_u lo hi) = r' at *
  go_enter Tryz.func115, Tryz.ntmps115
  go_wp2_with (go_at_call 105; refine h1.mono ?_; rintro e w' ⟨rfl, hb'⟩)
  go_ret
  exact ⟨ret_bool (by first | rfl | exact hany.out), hw2.trans (hb'.mono (by simp; omega))⟩

end Go.Proofs.YtminplfgadhnnaaGreatDoor
end

/- Walks of package unit: isFraction, turned, CheckSpan. -/
section
namespace Go.Proofs.YtminplfgadhnnaaGreatDoor
open Go.RowKit Go.Shelf
set_option linter.unusedSimpArgs false
set_option linter.unusedVariables false
open Um (frac S4 spanB spanE)
set_option maxHeartbeats 400000 in
theorem isFraction_any (n d : Int) (w : World) :
    Calls Tryz.prog 101 #[.agg #[.int .i64 n, .int .i64 d]] w fun e w' => e = .returned (.bool (frac n d)) ∧ Below w.heap.size w w' := by
  have h1 := fun W hz => within_any_u 1 1000000000 (some ⟨w.heap.size + 1, 0, none⟩) 2 2 [n, d] W hz (by omega)
  by_cases hin : 1 ≤ n ∧ n ≤ 1000000000 ∧ 1 ≤ d ∧ d ≤ 1000000000
  · have hv : ([n, d].all fun x => !out_u 1 1000000000 x) = true := by simp [out_u]; omega
    rw [hv] at h1
    obtain ⟨b1, b2, b3, b4⟩ := hin
    have hfin : Hid (((Int.gcd n d : Int) == 1) = frac n d) := by show _ = _; rw [Bool.eq_iff_iff]; simp [frac, b1, b2, b3, b4]; omega
    have h2 := fun W => common_any n d W (by omega) (by omega) (by omega) (by omega)
    clear hv
    go_enter Tryz.func101, Tryz.ntmps101
    go_wp2_with fail
    refine (h1 _ (Ints.new (w.alloc _) _ [n, d] _ (by simp))).mono ?_
    rintro e w1 ⟨rfl, hb1⟩
    have B0 := ((Cs.new w _ #[.int .i64 n, .int .i64 d] 41 rfl).alloc _).keep hb1
    have c0 := B0.c
    go_wp2_with fail
    refine (h2 _).mono ?_
    rintro e w2 ⟨rfl, hb2⟩
    go_wp2_with fail
    go_ret
    exact ⟨ret_bool hfin.out, bstep (bstep (balloc (balloc (Below.refl _ _) _) _) hb1) hb2⟩
  · have hv : ([n, d].all fun x => !out_u 1 1000000000 x) = false := by
      simp only [out_u, List.all_cons, List.all_nil]
      by_cases a1 : n < 1 <;> by_cases a2 : 1000000000 < n <;> by_cases a3 : d < 1 <;> by_cases a4 : 1000000000 < d <;> simp [a1, a2, a3, a4]
      omega
    rw [hv] at h1
    have hfin : Hid (false = frac n d) := by show _ = _; simp [frac]; omega
    clear hv hin
    go_enter Tryz.func101, Tryz.ntmps101
    go_wp2_with fail
    refine (h1 _ (Ints.new (w.alloc _) _ [n, d] _ (by simp))).mono ?_
    rintro e w1 ⟨rfl, hb1⟩
    go_wp2_with fail
    go_ret
    exact ⟨ret_bool hfin.out, bstep (balloc (balloc (Below.refl _ _) _) _) hb1⟩




set_option maxHeartbeats 400000 in
theorem turned_any (n d : Int) (w : World) :
    Calls Tryz.prog 103 #[.agg #[.int .i64 n, .int .i64 d]] w fun e w' => e = .returned (.agg #[.int .i64 d, .int .i64 n]) ∧ Below w.heap.size w w' := by
  go_enter Tryz.func103, Tryz.ntmps103
  go_wp2_with fail
  exact bodyPost_ret (v := .agg #[.int .i64 d, .int .i64 n]) (by simp [results, Tryz.results103, go_sem]) rfl ⟨rfl, balloc (balloc (Below.refl _ _) _) _⟩

set_option maxHeartbeats 1000000 in
theorem checkSpan_any (a b c d : Int) (w : World) :
    Calls Tryz.prog 44 #[.agg #[.int .i64 a, .int .i64 b, .int .i64 c, .int .i64 d]] w fun e w' => e = .returned (.int .i64 (spanE (a, b, c, d))) ∧ Below w.heap.size w w' := by
  have h1 := fun W => isFraction_any a b W
  have h2 := fun W => isFraction_any c d W
  cases hf1 : frac a b with
  | false =>
    have hfin : Hid (2 = spanE (a, b, c, d)) := by show _ = _; simp [spanE, spanB, hf1]
    rw [hf1] at h1
    clear hf1 h2
    go_enter Tryz.func44, Tryz.ntmps44
    go_wp2_with fail
    refine (h1 _).mono ?_
    rintro e w1 ⟨rfl, hb1⟩
    go_wp2_with fail
    go_ret
    exact ⟨ret_int hfin.out, bstep (balloc (Below.refl _ _) _) hb1⟩
  | true =>
    cases hf2 : frac c d with
    | false =>
      have hfin : Hid (2 = spanE (a, b, c, d)) := by show _ = _; simp [spanE, spanB, hf1, hf2]
      rw [hf1] at h1
      rw [hf2] at h2
      clear hf1 hf2
      go_enter Tryz.func44, Tryz.ntmps44
      go_wp2_with fail
      refine (h1 _).mono ?_
      rintro e w1 ⟨rfl, hb1⟩
      have B0 := (Cs.new w _ #[.int .i64 a, .int .i64 b, .int .i64 c, .int .i64 d] 43 rfl).keep hb1
      have c0 := B0.c
      go_wp2_with fail
      refine (h2 _).mono ?_
      rintro e w2 ⟨rfl, hb2⟩
      go_wp2_with fail
      go_ret
      exact ⟨ret_int hfin.out, bstep (bstep (balloc (Below.refl _ _) _) hb1) hb2⟩
    | true =>
      obtain ⟨a1, a2, b1, b2⟩ := Um.frac_bd hf1
      obtain ⟨c1, c2, d1, d2⟩ := Um.frac_bd hf2
      have h3 := fun W => less_any_u c d a b W (by omega) (by omega) (by omega) (by omega) (by omega) (by omega) (by omega) (by omega)
      cases hl : decide (c * b < a * d) with
      | true =>
        have hfin : Hid (2 = spanE (a, b, c, d)) := by
          show _ = _
          have : ¬ a * d ≤ c * b := by simp at hl; omega
          simp [spanE, spanB, hf1, hf2, this]
        rw [hf1] at h1
        rw [hf2] at h2
        rw [hl] at h3
        clear hf1 hf2 hl
        go_enter Tryz.func44, Tryz.ntmps44
        go_wp2_with fail
        refine (h1 _).mono ?_
        rintro e w1 ⟨rfl, hb1⟩
        have B0 := (Cs.new w _ #[.int .i64 a, .int .i64 b, .int .i64 c, .int .i64 d] 43 rfl).keep hb1
        have c0 := B0.c
        go_wp2_with fail
        refine (h2 _).mono ?_
        rintro e w2 ⟨rfl, hb2⟩
        have c0' := (B0.keep hb2).c
        clear c0
        go_wp2_with fail
        refine (h3 _).mono ?_
        rintro e w3 ⟨rfl, hb3⟩
        go_wp2_with fail
        go_ret
        exact ⟨ret_int hfin.out, bstep (bstep (bstep (balloc (Below.refl _ _) _) hb1) hb2) hb3⟩
      | false =>
        have hfin : Hid (0 = spanE (a, b, c, d)) := by
          show _ = _
          have : a * d ≤ c * b := by simp at hl; omega
          simp [spanE, spanB, hf1, hf2, this]
        rw [hf1] at h1
        rw [hf2] at h2
        rw [hl] at h3
        clear hf1 hf2 hl
        go_enter Tryz.func44, Tryz.ntmps44
        go_wp2_with fail
        refine (h1 _).mono ?_
        rintro e w1 ⟨rfl, hb1⟩
        have B0 := (Cs.new w _ #[.int .i64 a, .int .i64 b, .int .i64 c, .int .i64 d] 43 rfl).keep hb1
        have c0 := B0.c
        go_wp2_with fail
        refine (h2 _).mono ?_
        rintro e w2 ⟨rfl, hb2⟩
        have c0' := (B0.keep hb2).c
        clear c0
        go_wp2_with fail
        refine (h3 _).mono ?_
        rintro e w3 ⟨rfl, hb3⟩
        go_wp2_with fail
        go_ret
        exact ⟨ret_int hfin.out, bstep (bstep (bstep (balloc (Below.refl _ _) _) hb1) hb2) hb3⟩

theorem checkSpan_ok (a b c d : Int) (w : World) (h : spanB (a, b, c, d) = true) :
    Calls Tryz.prog 44 #[.agg #[.int .i64 a, .int .i64 b, .int .i64 c, .int .i64 d]] w fun e w' => e = .returned (.int .i64 0) ∧ Below w.heap.size w w' := by
  have := checkSpan_any a b c d w
  rwa [spanE, if_pos h] at this
theorem checkSpan_bad (a b c d : Int) (w : World) (h : spanB (a, b, c, d) = false) :
    Calls Tryz.prog 44 #[.agg #[.int .i64 a, .int .i64 b, .int .i64 c, .int .i64 d]] w fun e w' => e = .returned (.int .i64 2) ∧ Below w.heap.size w w' := by
  have := checkSpan_any a b c d w
  rwa [spanE, if_neg (by rw [h]; decide)] at this

end Go.Proofs.YtminplfgadhnnaaGreatDoor
end

/- Walks of package unit: product. -/
section
namespace Go.Proofs.YtminplfgadhnnaaGreatDoor
open Go.RowKit Go.Shelf
set_option linter.unusedSimpArgs false
set_option linter.unusedVariables false
open Um (frac S4 spanB spanE prodR mulR)

/-- a slice value that reads as a list of fractions -/
def Rats (w : World) (A : Option Addr) (n : Nat) (zs : List (Int × Int)) : Prop :=
  zs.length = n ∧ (0 < n → ∃ b off, A = some ⟨b, off, none⟩ ∧ b < w.heap.size ∧ ∀ i, i < n → w.cell? ⟨b, off + i * 2, none⟩ = some (.int .i64 (zs.getD i (0, 0)).1) ∧ w.cell? ⟨b, off + i * 2 + 1, none⟩ = some (.int .i64 (zs.getD i (0, 0)).2))

theorem Rats.below {w w' : World} {A : Option Addr} {n : Nat} {zs : List (Int × Int)} (h : Rats w A n zs) (hb : Below w.heap.size w w') : Rats w' A n zs := by
  refine ⟨h.1, fun hn => ?_⟩
  obtain ⟨b, off, rfl, hlt, hc⟩ := h.2 hn
  exact ⟨b, off, rfl, Nat.lt_of_lt_of_le hlt hb.size, fun i hi => ⟨(hb.cell (p := ⟨b, _, none⟩) hlt).trans (hc i hi).1, (hb.cell (p := ⟨b, _, none⟩) hlt).trans (hc i hi).2⟩⟩

/-- a fraction, or none -/
def RetR (r : Option (Int × Int)) : Ending := .returned (.tuple #[.agg #[.int .i64 (r.getD (0, 0)).1, .int .i64 (r.getD (0, 0)).2], .bool r.isSome])

set_option maxHeartbeats 2000000 in
theorem product_any (A : Option Addr) (n c : Nat) (zs : List (Int × Int)) (w : World) (hz : Rats w A n zs) (hn : n ≤ 9223372036854775807) (hr : ∀ x ∈ zs, 1 ≤ x.1 ∧ x.1 ≤ 1000000000 ∧ 1 ≤ x.2 ∧ x.2 ≤ 1000000000) :
    Calls Tryz.prog 146 #[.slice A n c] w fun e w' => e = RetR (prodR 1 1 zs) ∧ Below w.heap.size w w' := by
  have Hz := Lib.hid hz
  have Hr := Lib.hid hr
  clear hz hr
  go_enter Tryz.func146, Tryz.ntmps146
  go_wp2_with fail
  go_loopw [13] (fun i wr => ∃ (k : Nat) (p q : Int), k ≤ n ∧ i = .int .i64 k ∧ 1 ≤ p ∧ p ≤ 1000000000 ∧ 1 ≤ q ∧ q ≤ 1000000000 ∧ Hid (prodR 1 1 zs = prodR p q (zs.drop k)) ∧ Cs wr w.heap.size #[.int .i64 0, .int .i64 0] ∧ Cs wr (w.heap.size + 1) #[.int .i64 p, .int .i64 q] ∧ Below w.heap.size w wr) (fun i _ => n - (intOf i).toNat)
  case atStart => exact ⟨0, 1, 1, Nat.zero_le _, rfl, by omega, by omega, by omega, by omega, rfl, (Cs.new w _ _ _ rfl).alloc _, Cs.new (w.alloc _) _ _ _ (by simp), balloc (balloc (Below.refl _ _) _) _⟩
  case round =>
    obtain ⟨k, p, q, hk, rfl, p1, p2, q1, q2, hprod, B0, B1, hbl⟩ := hrel
    by_cases hlt : k < n
    · obtain ⟨b, off, rfl, hb, hc⟩ := Hz.out.2 (by omega)
      have hx := ((hbl.cell (p := ⟨b, off + k * 2, none⟩) hb).trans (hc k hlt).1)
      have hy := ((hbl.cell (p := ⟨b, off + k * 2 + 1, none⟩) hb).trans (hc k hlt).2)
      have hget : zs[k]? = some (zs.getD k (0, 0)) := by
        rw [List.getD_eq_getElem?_getD, List.getElem?_eq_getElem (by have := Hz.out.1; omega)]; rfl
      have hdrop : Hid (zs.drop k = zs.getD k (0, 0) :: zs.drop (k + 1)) := by
        show _ = _
        rw [List.drop_eq_getElem_cons (by have := Hz.out.1; omega)]
        congr 1
        rw [List.getElem?_eq_getElem (by have := Hz.out.1; omega)] at hget
        injection hget
      obtain ⟨x1, x2, y1, y2⟩ := Hr.out _ (List.mem_of_getElem? hget)
      clear hc hget
      generalize zs.getD k (0, 0) = z at *
      obtain ⟨x, y⟩ := z
      simp only at hx hy x1 x2 y1 y2
      obtain ⟨n1, n2⟩ := Um.mul_bd p1 p2 x1 x2
      obtain ⟨d1, d2⟩ := Um.mul_bd q1 q2 y1 y2
      have hzz := hbl.size
      have e1 : IntKind.i64.wrap (p * x) = p * x := IntWalk.i64_in _ (by omega)
      have e2 : IntKind.i64.wrap (q * y) = q * y := IntWalk.i64_in _ (by omega)
      go_wp2_with fail
      have B1a := B1.alloc (.cells #[.int .i64 x, .int .i64 y] 41)
      have Bx := Cs.new wr _ #[.int .i64 x, .int .i64 y] 41 rfl
      have c1 := B1a.c
      have c2 := Bx.c
      go_quiet (fail)
      clear e1 e2
      go_wp2_with fail
      refine (common_any _ _ _ (by omega) (by omega) (by omega) (by omega)).mono ?_
      rintro e w1 ⟨rfl, hb1⟩
      obtain ⟨g1, g2⟩ := Um.mulR_bd p1 q1 x1 y1
      have hm1 : Hid ((mulR p q x y).1 = p * x / (Int.gcd (p * x) (q * y) : Int)) := rfl
      have hm2 : Hid ((mulR p q x y).2 = q * y / (Int.gcd (p * x) (q * y) : Int)) := rfl
      generalize (Int.gcd (p * x) (q * y) : Int) = g at *
      have B1b := (B1a.drewN _).keep hb1
      have f1 : (p * x).tdiv g = p * x / g := Int.tdiv_eq_ediv_of_nonneg (by omega)
      have f2 : (q * y).tdiv g = q * y / g := Int.tdiv_eq_ediv_of_nonneg (by omega)
      have l1 : 0 ≤ p * x / g := Int.ediv_nonneg (by omega) (by omega)
      have l2 : 0 ≤ q * y / g := Int.ediv_nonneg (by omega) (by omega)
      have l3 : p * x / g ≤ p * x := Int.ediv_le_self _ (by omega)
      have l4 : q * y / g ≤ q * y := Int.ediv_le_self _ (by omega)
      have e1 : IntKind.i64.wrap (p * x / g) = p * x / g := IntWalk.i64_in _ (by omega)
      have e2 : IntKind.i64.wrap (q * y / g) = q * y / g := IntWalk.i64_in _ (by omega)
      have g0 : (g == 0) = false := by simp; omega
      have c1 := B1b.c
      have c2 := B1b.f
      go_wp2_with fail
      go_region
      go_wp2_with fail
      clear e1 e2 f1 f2 g0 c1 c2 l3 l4
      generalize p * x / g = p' at *
      generalize q * y / g = q' at *
      refine (isFraction_any _ _ _).mono ?_
      rintro e w2 ⟨rfl, hb2⟩
      have B1c : Cs w2 (w.heap.size + 1) #[.int .i64 p', .int .i64 q'] := (((B1b.set 0 (.int .i64 p') (by simp)).set 1 (.int .i64 q') (by simp)).drew).keep hb2
      have B0c := (((((B0.alloc (.cells #[.int .i64 x, .int .i64 y] 41)).drewN _).keep hb1).other (p := ⟨w.heap.size + 1, 0, none⟩) (by simp) (.int .i64 p')).other (p := ⟨w.heap.size + 1, 1, none⟩) (by simp) (.int .i64 q')).drew.keep hb2
      have hbw : Below w.heap.size w w2 := bstep (bset (bset (bstep (bdrewN (balloc hbl _) _) hb1) (by simp) _) (by simp) _).drew hb2
      have hpr : Hid (prodR 1 1 zs = if frac p' q' = true then prodR p' q' (zs.drop (k + 1)) else none) := by
        show _ = _
        rw [hprod.out, hdrop.out, prodR, hm1.out, hm2.out]
      cases hf : frac p' q' with
      | true =>
        obtain ⟨f1, f2, f3, f4⟩ := Um.frac_bd hf
        have Hf := Lib.hid hf
        clear hf
        go_wp2_with fail
        go_roundw
        case rel => exact ⟨k + 1, p', q', by omega, by go_num, f1, f2, f3, f4, by have := hpr.out; rw [if_pos Hf.out] at this; exact this, B0c, B1c, hbw⟩
        case measure => simp [intOf]; omega
      | false =>
        have Hf := Lib.hid hf
        clear hf
        have c1 := B0c.c
        have c2 := B0c.f
        go_wp2_with fail
        have hpn : prodR 1 1 zs = none := by have := hpr.out; rw [if_neg (by rw [Hf.out]; decide)] at this; exact this
        rw [hpn]
        exact bodyPost_ret (v := .tuple #[.agg #[.int .i64 0, .int .i64 0], .bool false]) (by simp [results, Tryz.results146, go_sem, c1, c2]) rfl ⟨rfl, bset (bset hbw (by simp) _) (by simp) _⟩
    · have : k = n := by omega
      subst this
      have c1 := B0.c
      have c2 := B0.f
      have c3 := B1.c
      have c4 := B1.f
      have hpr : Hid (prodR 1 1 zs = some (p, q)) := by
        show _ = _
        rw [hprod.out, List.drop_of_length_le (by have := Hz.out.1; omega)]; rfl
      go_wp2_with fail
      rw [hpr.out]
      exact bodyPost_ret (v := .tuple #[.agg #[.int .i64 p, .int .i64 q], .bool true]) (by simp [results, Tryz.results146, go_sem, c1, c2]) rfl ⟨rfl, bset (bset hbl (by simp) _) (by simp) _⟩

end Go.Proofs.YtminplfgadhnnaaGreatDoor
end

/- Walks of package unit: spans in slices; carry, carried, Carry. -/
section
namespace Go.Proofs.YtminplfgadhnnaaGreatDoor
open Go.RowKit Go.Shelf
set_option linter.unusedSimpArgs false
set_option linter.unusedVariables false
open Um (frac S4 spanB spanE prodR mulR mul4 frac4 carryL)

/-- a slice value that reads as a list of spans -/
def Spans (w : World) (A : Option Addr) (n : Nat) (zs : List S4) : Prop :=
  zs.length = n ∧ (0 < n → ∃ b off, A = some ⟨b, off, none⟩ ∧ b < w.heap.size ∧ ∀ i, i < n →
    w.cell? ⟨b, off + i * 4, none⟩ = some (.int .i64 (zs.getD i (0, 0, 0, 0)).1) ∧ w.cell? ⟨b, off + i * 4 + 1, none⟩ = some (.int .i64 (zs.getD i (0, 0, 0, 0)).2.1) ∧
    w.cell? ⟨b, off + i * 4 + 2, none⟩ = some (.int .i64 (zs.getD i (0, 0, 0, 0)).2.2.1) ∧ w.cell? ⟨b, off + i * 4 + 3, none⟩ = some (.int .i64 (zs.getD i (0, 0, 0, 0)).2.2.2))

theorem Spans.below {w w' : World} {A : Option Addr} {n : Nat} {zs : List S4} (h : Spans w A n zs) (hb : Below w.heap.size w w') : Spans w' A n zs := by
  refine ⟨h.1, fun hn => ?_⟩
  obtain ⟨b, off, rfl, hlt, hc⟩ := h.2 hn
  exact ⟨b, off, rfl, Nat.lt_of_lt_of_le hlt hb.size, fun i hi => ⟨(hb.cell (p := ⟨b, _, none⟩) hlt).trans (hc i hi).1, (hb.cell (p := ⟨b, _, none⟩) hlt).trans (hc i hi).2.1, (hb.cell (p := ⟨b, _, none⟩) hlt).trans (hc i hi).2.2.1, (hb.cell (p := ⟨b, _, none⟩) hlt).trans (hc i hi).2.2.2⟩⟩

/-- what is needed of one element, in a later world -/
theorem Spans.at_ {w wr : World} {A : Option Addr} {n k : Nat} {zs : List S4} (h : Spans w A n zs) (hb : Below w.heap.size w wr) (hk : k < n) :
    ∃ b off x y z u, A = some ⟨b, off, none⟩ ∧ zs[k]? = some (x, y, z, u) ∧ zs.drop k = (x, y, z, u) :: zs.drop (k + 1) ∧ wr.cell? ⟨b, off + k * 4, none⟩ = some (.int .i64 x) ∧ wr.cell? ⟨b, off + k * 4 + 1, none⟩ = some (.int .i64 y) ∧
      wr.cell? ⟨b, off + k * 4 + 2, none⟩ = some (.int .i64 z) ∧ wr.cell? ⟨b, off + k * 4 + 3, none⟩ = some (.int .i64 u) := by
  obtain ⟨b, off, rfl, hlt, hc⟩ := h.2 (by omega)
  have hl : k < zs.length := by rw [h.1]; exact hk
  have hget : zs.getD k (0, 0, 0, 0) = zs[k] := by rw [List.getD_eq_getElem?_getD, List.getElem?_eq_getElem hl]; rfl
  obtain ⟨c0, c1, c2, c3⟩ := hc k hk
  rw [hget] at c0 c1 c2 c3
  exact ⟨b, off, zs[k].1, zs[k].2.1, zs[k].2.2.1, zs[k].2.2.2, rfl, List.getElem?_eq_getElem hl, List.drop_eq_getElem_cons hl, (hb.cell (p := ⟨b, _, none⟩) hlt).trans c0, (hb.cell (p := ⟨b, _, none⟩) hlt).trans c1, (hb.cell (p := ⟨b, _, none⟩) hlt).trans c2, (hb.cell (p := ⟨b, _, none⟩) hlt).trans c3⟩

/-- what a predicate on spans that is handed on gives, whatever has been made since -/
def PredSpans (P : Program) (g : Nat) (lb : Array Value) (p : S4 → Bool) (zs : List S4) (w : World) : Prop :=
  ∀ x, x ∈ zs → ∀ W, Below w.heap.size w W → Calls P g (#[.agg #[.int .i64 x.1, .int .i64 x.2.1, .int .i64 x.2.2.1, .int .i64 x.2.2.2]] ++ lb) W fun e W' => e = .returned (.bool (p x)) ∧ Below w.heap.size w W'

set_option maxHeartbeats 400000 in
theorem indexSpans_any (A : Option Addr) (n c g : Nat) (zs : List S4) (lb : Array Value) (p : S4 → Bool) (w : World) (eg : ∀ args w, (callFunc g args).run Tryz.prog w = .ok (.enter g args) w)
    (hz : Spans w A n zs) (hn : n ≤ 9223372036854775807) (hp : PredSpans Tryz.prog g lb p zs w) :
    Calls Tryz.prog 145 #[.slice A n c, .func (.func g) #[] lb] w fun e w' => e = .returned (.int .i64 (Um.idx p zs)) ∧ Below w.heap.size w w' := by
  have Hz := Lib.hid hz
  have Hp := Lib.hid hp
  clear hp hz
  go_enter Tryz.func145, Tryz.ntmps145
  go_wp2
  go_loopw [5, 8] (fun _ i wr => ∃ k : Nat, k ≤ n ∧ i = .int .i64 k ∧ Hid (∀ i y, i < k → zs[i]? = some y → p y = false) ∧ Below w.heap.size w wr) (fun _ i _ => n - (intOf i).toNat)
  case atStart => exact ⟨0, Nat.zero_le _, rfl, fun i y hi => by omega, Below.refl _ _⟩
  case round =>
    obtain ⟨k, hk, rfl, hpre, hbl⟩ := hrel
    by_cases hlt : k < n
    · obtain ⟨b, off, x, y, z, u, rfl, hget, _, c0, c1, c2, c3⟩ := Hz.out.at_ hbl hlt
      have Hget := Lib.hid hget
      have hcall := Hp.out (x, y, z, u) (List.mem_of_getElem? hget) wr hbl
      clear hget
      cases hq : p (x, y, z, u) with
      | true =>
        rw [hq] at hcall
        have Hq := Lib.hid hq
        clear hq
        go_wp2_with (go_at_fn g; refine hcall.mono ?_; rintro e w' ⟨rfl, hb'⟩)
        go_ret
        exact ⟨ret_int (Um.idx_at p k zs (x, y, z, u) hpre.out Hget.out Hq.out).symm, hb'⟩
      | false =>
        rw [hq] at hcall
        have Hq := Lib.hid hq
        clear hq
        go_wp2_with (go_at_fn g; refine hcall.mono ?_; rintro e w' ⟨rfl, hb'⟩)
        go_roundw
        case rel =>
          refine ⟨k + 1, by omega, by go_num, fun i v hi hy => ?_, hb'⟩
          by_cases hik : i < k
          · exact hpre.out i v hik hy
          · have : i = k := by omega
            subst this
            have := Hget.out
            rw [hy] at this
            injection this with this
            rw [this]; exact Hq.out
        case measure => simp [intOf]; omega
    · go_wp2
      go_ret
      refine ⟨ret_int (Um.idx_none p zs (fun y hy => ?_)).symm, hbl⟩
      obtain ⟨i, hi, hiy⟩ := List.mem_iff_getElem.1 hy
      exact hpre.out i y (by have := Hz.out.1; omega) (by rw [List.getElem?_eq_getElem hi, hiy])

set_option maxHeartbeats 400000 in
theorem containsSpans_any (A : Option Addr) (n c g : Nat) (zs : List S4) (lb : Array Value) (p : S4 → Bool) (w : World) (eg : ∀ args w, (callFunc g args).run Tryz.prog w = .ok (.enter g args) w)
    (hz : Spans w A n zs) (hn : n ≤ 9223372036854775807) (hp : PredSpans Tryz.prog g lb p zs w) :
    Calls Tryz.prog 98 #[.slice A n c, .func (.func g) #[] lb] w fun e w' => e = .returned (.bool (zs.any p)) ∧ Below w.heap.size w w' := by
  have h1 := indexSpans_any A n c g zs lb p w eg hz hn hp
  have h2 := Um.idx_any p zs
  have H2 := Lib.hid h2
  clear h2 hz hp eg
  generalize zs.any p = r at *
  generalize Um.idx p zs = ix at *
  go_enter Tryz.func98, Tryz.ntmps98
  go_wp2_with (go_at_call 145; refine h1.mono ?_; rintro e w' ⟨rfl, hb'⟩)
  go_ret
  exact ⟨ret_bool H2.out, hb'⟩

set_option maxHeartbeats 400000 in
theorem badSpanC_any (a b c d : Int) (w : World) :
    Calls Tryz.prog 99 #[.agg #[.int .i64 a, .int .i64 b, .int .i64 c, .int .i64 d]] w fun e w' => e = .returned (.bool (!spanB (a, b, c, d))) ∧ Below w.heap.size w w' := by
  cases hs : spanB (a, b, c, d) with
  | true =>
    have h1 := fun W => checkSpan_ok a b c d W hs
    clear hs
    go_enter Tryz.func99, Tryz.ntmps99
    go_wp2_with fail
    refine (h1 _).mono ?_
    rintro e w1 ⟨rfl, hb1⟩
    go_wp2_with fail
    go_ret
    exact ⟨rfl, bstep (balloc (Below.refl _ _) _) hb1⟩
  | false =>
    have h1 := fun W => checkSpan_bad a b c d W hs
    clear hs
    go_enter Tryz.func99, Tryz.ntmps99
    go_wp2_with fail
    refine (h1 _).mono ?_
    rintro e w1 ⟨rfl, hb1⟩
    go_wp2_with fail
    go_ret
    exact ⟨rfl, bstep (balloc (Below.refl _ _) _) hb1⟩

theorem Rats.new2 (w : World) (H : Nat) (a b c d : Int) (t : TypeId) (hH : w.heap.size = H) : Rats (w.alloc (.cells #[.int .i64 a, .int .i64 b, .int .i64 c, .int .i64 d] t)) (some ⟨H, 0, none⟩) 2 [(a, b), (c, d)] := by
  subst hH
  refine ⟨rfl, fun _ => ⟨w.heap.size, 0, rfl, by simp, fun i hi => ?_⟩⟩
  have : i = 0 ∨ i = 1 := by omega
  rcases this with rfl | rfl <;> simp

/-- what a value is carried to by a decree -/
def RetC (r1 r2 : Option (Int × Int)) : Ending := .returned (.tuple #[.agg #[.int .i64 (r1.getD (0, 0)).1, .int .i64 (r1.getD (0, 0)).2, .int .i64 (r2.getD (0, 0)).1, .int .i64 (r2.getD (0, 0)).2], .bool (r1.isSome && r2.isSome)])

set_option maxHeartbeats 1000000 in
theorem carry_any (a b c d a' b' c' d' : Int) (w : World) (h1 : frac a b = true) (h2 : frac c d = true) (h3 : frac a' b' = true) (h4 : frac c' d' = true) :
    Calls Tryz.prog 100 #[.agg #[.int .i64 a, .int .i64 b, .int .i64 c, .int .i64 d], .agg #[.int .i64 a', .int .i64 b', .int .i64 c', .int .i64 d']] w
      fun e w' => e = RetC (prodR 1 1 [(a, b), (a', b')]) (prodR 1 1 [(c, d), (c', d')]) ∧ Below w.heap.size w w' := by
  have k1 := fun W A (hz : Rats W A 2 [(a, b), (a', b')]) => product_any A 2 2 [(a, b), (a', b')] W hz (by omega) (by
    intro x hx; simp at hx; rcases hx with rfl | rfl
    · exact Um.frac_bd h1
    · exact Um.frac_bd h3)
  have k2 := fun W A (hz : Rats W A 2 [(c, d), (c', d')]) => product_any A 2 2 [(c, d), (c', d')] W hz (by omega) (by
    intro x hx; simp at hx; rcases hx with rfl | rfl
    · exact Um.frac_bd h2
    · exact Um.frac_bd h4)
  clear h1 h2 h3 h4
  generalize prodR 1 1 [(a, b), (a', b')] = r1 at *
  generalize prodR 1 1 [(c, d), (c', d')] = r2 at *
  unfold RetR at k1 k2
  unfold RetC
  generalize (r1.getD (0, 0)).1 = x1 at *
  generalize (r1.getD (0, 0)).2 = y1 at *
  generalize (r2.getD (0, 0)).1 = x2 at *
  generalize (r2.getD (0, 0)).2 = y2 at *
  generalize r1.isSome = o1 at *
  generalize r2.isSome = o2 at *
  cases o1 with
  | true =>
    go_enter Tryz.func100, Tryz.ntmps100
    go_wp2_with fail
    refine (k1 _ _ (Rats.new2 (((w.alloc _).alloc _).alloc _) _ a b a' b' _ (by simp))).mono ?_
    rintro e w1 ⟨rfl, hb1⟩
    have B0 : Cs w1 (w.heap.size) #[.int .i64 a, .int .i64 b, .int .i64 c, .int .i64 d] := Cs.keep (by repeat (first | with_reducible assumption | (with_reducible refine Cs.new _ _ _ _ ?_; first | rfl | (simp; done)) | with_reducible refine Cs.alloc ?_ _ | with_reducible refine Cs.drewN ?_ _ | with_reducible refine Cs.drew ?_ | with_reducible refine Cs.set4 ?_ _ _ _ _ | (with_reducible refine Cs.other4 ?_ ?_ _ _ _ _; rotate_left; focus (first | assumption | omega | (simp; done) | (simp; omega))) | with_reducible refine Cs.set2 ?_ _ _ | (with_reducible refine Cs.other2 ?_ ?_ _ _; rotate_left; focus (first | assumption | omega | (simp; done) | (simp; omega))) | (with_reducible refine Cs.other ?_ ?_ _; rotate_left; focus (first | assumption | omega | (simp; done) | (simp; omega))) | with_reducible refine Cs.keep ?_ (by assumption) | assumption)) hb1
    have B1 : Cs w1 (w.heap.size + 1) #[.int .i64 a', .int .i64 b', .int .i64 c', .int .i64 d'] := Cs.keep (by repeat (first | with_reducible assumption | (with_reducible refine Cs.new _ _ _ _ ?_; first | rfl | (simp; done)) | with_reducible refine Cs.alloc ?_ _ | with_reducible refine Cs.drewN ?_ _ | with_reducible refine Cs.drew ?_ | with_reducible refine Cs.set4 ?_ _ _ _ _ | (with_reducible refine Cs.other4 ?_ ?_ _ _ _ _; rotate_left; focus (first | assumption | omega | (simp; done) | (simp; omega))) | with_reducible refine Cs.set2 ?_ _ _ | (with_reducible refine Cs.other2 ?_ ?_ _ _; rotate_left; focus (first | assumption | omega | (simp; done) | (simp; omega))) | (with_reducible refine Cs.other ?_ ?_ _; rotate_left; focus (first | assumption | omega | (simp; done) | (simp; omega))) | with_reducible refine Cs.keep ?_ (by assumption) | assumption)) hb1
    have B2 : Cs w1 (w.heap.size + 2) #[.int .i64 0, .int .i64 0, .int .i64 0, .int .i64 0] := Cs.keep (by repeat (first | with_reducible assumption | (with_reducible refine Cs.new _ _ _ _ ?_; first | rfl | (simp; done)) | with_reducible refine Cs.alloc ?_ _ | with_reducible refine Cs.drewN ?_ _ | with_reducible refine Cs.drew ?_ | with_reducible refine Cs.set4 ?_ _ _ _ _ | (with_reducible refine Cs.other4 ?_ ?_ _ _ _ _; rotate_left; focus (first | assumption | omega | (simp; done) | (simp; omega))) | with_reducible refine Cs.set2 ?_ _ _ | (with_reducible refine Cs.other2 ?_ ?_ _ _; rotate_left; focus (first | assumption | omega | (simp; done) | (simp; omega))) | (with_reducible refine Cs.other ?_ ?_ _; rotate_left; focus (first | assumption | omega | (simp; done) | (simp; omega))) | with_reducible refine Cs.keep ?_ (by assumption) | assumption)) hb1
    have cB0 := B0.c
    have fB0 := B0.f
    have lB0 := B0.lt
    have cB1 := B1.c
    have fB1 := B1.f
    have lB1 := B1.lt
    go_wp2_with fail
    clear cB0 fB0 lB0 cB1 fB1 lB1
    refine (k2 _ _ (Rats.new2 (w1.alloc _) _ c d c' d' _ (by simp))).mono ?_
    rintro e w2 ⟨rfl, hb2⟩
    have B2' : Cs w2 (w.heap.size + 2) #[.int .i64 0, .int .i64 0, .int .i64 0, .int .i64 0] := (((B2.alloc (.cells #[.int .i64 x1, .int .i64 y1] 41)).alloc (.cells #[.int .i64 c, .int .i64 d, .int .i64 c', .int .i64 d'] 41))).keep hb2
    have B3 : Cs w2 (w1.heap.size) #[.int .i64 x1, .int .i64 y1] := Cs.keep (by repeat (first | with_reducible assumption | (with_reducible refine Cs.new _ _ _ _ ?_; first | rfl | (simp; done)) | with_reducible refine Cs.alloc ?_ _ | with_reducible refine Cs.drewN ?_ _ | with_reducible refine Cs.drew ?_ | with_reducible refine Cs.set4 ?_ _ _ _ _ | (with_reducible refine Cs.other4 ?_ ?_ _ _ _ _; rotate_left; focus (first | assumption | omega | (simp; done) | (simp; omega))) | with_reducible refine Cs.set2 ?_ _ _ | (with_reducible refine Cs.other2 ?_ ?_ _ _; rotate_left; focus (first | assumption | omega | (simp; done) | (simp; omega))) | (with_reducible refine Cs.other ?_ ?_ _; rotate_left; focus (first | assumption | omega | (simp; done) | (simp; omega))) | with_reducible refine Cs.keep ?_ (by assumption) | assumption)) hb2
    have cB2' := B2'.c
    have fB2' := B2'.f
    have lB2' := B2'.lt
    have cB3 := B3.c
    have fB3 := B3.f
    have lB3 := B3.lt
    go_wp2_with fail
    exact bodyPost_ret (v := .tuple #[.agg #[.int .i64 x1, .int .i64 y1, .int .i64 x2, .int .i64 y2], .bool o2]) (by simp [results, Tryz.results100, go_sem, cB2', fB2', lB2']) rfl ⟨rfl, (by repeat (first | with_reducible exact Below.refl _ _ | with_reducible assumption | with_reducible refine balloc ?_ _ | with_reducible refine bdrewN ?_ _ | with_reducible refine Below.drew ?_ | (with_reducible refine bset ?_ ?_ _; rotate_left; focus (first | assumption | omega | (simp; done) | (simp; omega))) | with_reducible refine bstep ?_ (by assumption) | assumption))⟩
  | false =>
    go_enter Tryz.func100, Tryz.ntmps100
    go_wp2_with fail
    refine (k1 _ _ (Rats.new2 (((w.alloc _).alloc _).alloc _) _ a b a' b' _ (by simp))).mono ?_
    rintro e w1 ⟨rfl, hb1⟩
    have B0 : Cs w1 (w.heap.size) #[.int .i64 a, .int .i64 b, .int .i64 c, .int .i64 d] := Cs.keep (by repeat (first | with_reducible assumption | (with_reducible refine Cs.new _ _ _ _ ?_; first | rfl | (simp; done)) | with_reducible refine Cs.alloc ?_ _ | with_reducible refine Cs.drewN ?_ _ | with_reducible refine Cs.drew ?_ | with_reducible refine Cs.set4 ?_ _ _ _ _ | (with_reducible refine Cs.other4 ?_ ?_ _ _ _ _; rotate_left; focus (first | assumption | omega | (simp; done) | (simp; omega))) | with_reducible refine Cs.set2 ?_ _ _ | (with_reducible refine Cs.other2 ?_ ?_ _ _; rotate_left; focus (first | assumption | omega | (simp; done) | (simp; omega))) | (with_reducible refine Cs.other ?_ ?_ _; rotate_left; focus (first | assumption | omega | (simp; done) | (simp; omega))) | with_reducible refine Cs.keep ?_ (by assumption) | assumption)) hb1
    have B1 : Cs w1 (w.heap.size + 1) #[.int .i64 a', .int .i64 b', .int .i64 c', .int .i64 d'] := Cs.keep (by repeat (first | with_reducible assumption | (with_reducible refine Cs.new _ _ _ _ ?_; first | rfl | (simp; done)) | with_reducible refine Cs.alloc ?_ _ | with_reducible refine Cs.drewN ?_ _ | with_reducible refine Cs.drew ?_ | with_reducible refine Cs.set4 ?_ _ _ _ _ | (with_reducible refine Cs.other4 ?_ ?_ _ _ _ _; rotate_left; focus (first | assumption | omega | (simp; done) | (simp; omega))) | with_reducible refine Cs.set2 ?_ _ _ | (with_reducible refine Cs.other2 ?_ ?_ _ _; rotate_left; focus (first | assumption | omega | (simp; done) | (simp; omega))) | (with_reducible refine Cs.other ?_ ?_ _; rotate_left; focus (first | assumption | omega | (simp; done) | (simp; omega))) | with_reducible refine Cs.keep ?_ (by assumption) | assumption)) hb1
    have B2 : Cs w1 (w.heap.size + 2) #[.int .i64 0, .int .i64 0, .int .i64 0, .int .i64 0] := Cs.keep (by repeat (first | with_reducible assumption | (with_reducible refine Cs.new _ _ _ _ ?_; first | rfl | (simp; done)) | with_reducible refine Cs.alloc ?_ _ | with_reducible refine Cs.drewN ?_ _ | with_reducible refine Cs.drew ?_ | with_reducible refine Cs.set4 ?_ _ _ _ _ | (with_reducible refine Cs.other4 ?_ ?_ _ _ _ _; rotate_left; focus (first | assumption | omega | (simp; done) | (simp; omega))) | with_reducible refine Cs.set2 ?_ _ _ | (with_reducible refine Cs.other2 ?_ ?_ _ _; rotate_left; focus (first | assumption | omega | (simp; done) | (simp; omega))) | (with_reducible refine Cs.other ?_ ?_ _; rotate_left; focus (first | assumption | omega | (simp; done) | (simp; omega))) | with_reducible refine Cs.keep ?_ (by assumption) | assumption)) hb1
    have cB0 := B0.c
    have fB0 := B0.f
    have lB0 := B0.lt
    have cB1 := B1.c
    have fB1 := B1.f
    have lB1 := B1.lt
    go_wp2_with fail
    clear cB0 fB0 lB0 cB1 fB1 lB1
    refine (k2 _ _ (Rats.new2 (w1.alloc _) _ c d c' d' _ (by simp))).mono ?_
    rintro e w2 ⟨rfl, hb2⟩
    have B2' : Cs w2 (w.heap.size + 2) #[.int .i64 0, .int .i64 0, .int .i64 0, .int .i64 0] := (((B2.alloc (.cells #[.int .i64 x1, .int .i64 y1] 41)).alloc (.cells #[.int .i64 c, .int .i64 d, .int .i64 c', .int .i64 d'] 41))).keep hb2
    have B3 : Cs w2 (w1.heap.size) #[.int .i64 x1, .int .i64 y1] := Cs.keep (by repeat (first | with_reducible assumption | (with_reducible refine Cs.new _ _ _ _ ?_; first | rfl | (simp; done)) | with_reducible refine Cs.alloc ?_ _ | with_reducible refine Cs.drewN ?_ _ | with_reducible refine Cs.drew ?_ | with_reducible refine Cs.set4 ?_ _ _ _ _ | (with_reducible refine Cs.other4 ?_ ?_ _ _ _ _; rotate_left; focus (first | assumption | omega | (simp; done) | (simp; omega))) | with_reducible refine Cs.set2 ?_ _ _ | (with_reducible refine Cs.other2 ?_ ?_ _ _; rotate_left; focus (first | assumption | omega | (simp; done) | (simp; omega))) | (with_reducible refine Cs.other ?_ ?_ _; rotate_left; focus (first | assumption | omega | (simp; done) | (simp; omega))) | with_reducible refine Cs.keep ?_ (by assumption) | assumption)) hb2
    have cB2' := B2'.c
    have fB2' := B2'.f
    have lB2' := B2'.lt
    have cB3 := B3.c
    have fB3 := B3.f
    have lB3 := B3.lt
    go_wp2_with fail
    exact bodyPost_ret (v := .tuple #[.agg #[.int .i64 x1, .int .i64 y1, .int .i64 x2, .int .i64 y2], .bool false]) (by simp [results, Tryz.results100, go_sem, cB2', fB2', lB2']) rfl ⟨rfl, (by repeat (first | with_reducible exact Below.refl _ _ | with_reducible assumption | with_reducible refine balloc ?_ _ | with_reducible refine bdrewN ?_ _ | with_reducible refine Below.drew ?_ | (with_reducible refine bset ?_ ?_ _; rotate_left; focus (first | assumption | omega | (simp; done) | (simp; omega))) | with_reducible refine bstep ?_ (by assumption) | assumption))⟩

theorem carry_ok (s t : S4) (w : World) (h1 : frac4 s = true) (h2 : frac4 t = true) (h : frac4 (mul4 s t) = true) :
    Calls Tryz.prog 100 #[.agg #[.int .i64 s.1, .int .i64 s.2.1, .int .i64 s.2.2.1, .int .i64 s.2.2.2], .agg #[.int .i64 t.1, .int .i64 t.2.1, .int .i64 t.2.2.1, .int .i64 t.2.2.2]] w
      fun e w' => e = .returned (.tuple #[.agg #[.int .i64 (mul4 s t).1, .int .i64 (mul4 s t).2.1, .int .i64 (mul4 s t).2.2.1, .int .i64 (mul4 s t).2.2.2], .bool true]) ∧ Below w.heap.size w w' := by
  obtain ⟨s1, s2⟩ := (Um.frac4_iff s).1 h1
  obtain ⟨t1, t2⟩ := (Um.frac4_iff t).1 h2
  obtain ⟨m1, m2⟩ := (Um.frac4_iff _).1 h
  have m1' : frac (mulR s.1 s.2.1 t.1 t.2.1).1 (mulR s.1 s.2.1 t.1 t.2.1).2 = true := m1
  have m2' : frac (mulR s.2.2.1 s.2.2.2 t.2.2.1 t.2.2.2).1 (mulR s.2.2.1 s.2.2.2 t.2.2.1 t.2.2.2).2 = true := m2
  have k := carry_any s.1 s.2.1 s.2.2.1 s.2.2.2 t.1 t.2.1 t.2.2.1 t.2.2.2 w s1 s2 t1 t2
  rw [Um.prodR_two s1, Um.prodR_two s2, if_pos m1', if_pos m2'] at k
  exact k

theorem carry_no (s t : S4) (w : World) (h1 : frac4 s = true) (h2 : frac4 t = true) (h : frac4 (mul4 s t) = false) :
    Calls Tryz.prog 100 #[.agg #[.int .i64 s.1, .int .i64 s.2.1, .int .i64 s.2.2.1, .int .i64 s.2.2.2], .agg #[.int .i64 t.1, .int .i64 t.2.1, .int .i64 t.2.2.1, .int .i64 t.2.2.2]] w
      fun e w' => ∃ x y z u : Int, e = .returned (.tuple #[.agg #[.int .i64 x, .int .i64 y, .int .i64 z, .int .i64 u], .bool false]) ∧ Below w.heap.size w w' := by
  obtain ⟨s1, s2⟩ := (Um.frac4_iff s).1 h1
  obtain ⟨t1, t2⟩ := (Um.frac4_iff t).1 h2
  have k := carry_any s.1 s.2.1 s.2.2.1 s.2.2.2 t.1 t.2.1 t.2.2.1 t.2.2.2 w s1 s2 t1 t2
  have hb : ((prodR 1 1 [(s.1, s.2.1), (t.1, t.2.1)]).isSome && (prodR 1 1 [(s.2.2.1, s.2.2.2), (t.2.2.1, t.2.2.2)]).isSome) = false := ?_
  · refine k.mono fun e w' hk => ?_
    rw [RetC, hb] at hk
    exact ⟨_, _, _, _, hk.1, hk.2⟩
  rw [Um.prodR_two s1, Um.prodR_two s2]
  have h' : ¬ (frac (mul4 s t).1 (mul4 s t).2.1 = true ∧ frac (mul4 s t).2.2.1 (mul4 s t).2.2.2 = true) := by
    rw [← Um.frac4_iff, h]; decide
  by_cases m1 : frac (mulR s.1 s.2.1 t.1 t.2.1).1 (mulR s.1 s.2.1 t.1 t.2.1).2 = true
  · have m2 : ¬ frac (mulR s.2.2.1 s.2.2.2 t.2.2.1 t.2.2.2).1 (mulR s.2.2.1 s.2.2.2 t.2.2.1 t.2.2.2).2 = true := fun m2 => h' ⟨m1, m2⟩
    rw [if_pos m1, if_neg m2]; rfl
  · rw [if_neg m1]; rfl

end Go.Proofs.YtminplfgadhnnaaGreatDoor
end
