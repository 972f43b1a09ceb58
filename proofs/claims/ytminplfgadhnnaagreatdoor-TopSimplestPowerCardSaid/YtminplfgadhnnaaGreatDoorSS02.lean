/- UA1 UA2 UA3 UA4 UA5 UA6 UA7 RA3 RA4 RA5 RA6 RA7 URange EBase UApp UA8 -/
import Derived.Test.YtminplfgadhnnaaGreatDoorSS01
import Derived.RegionTactic
import Derived.BigRegion
import Derived.Laws.Rows
import Derived.Deep.RegionWith
import Derived.Deep.RegionHeld3
import Derived.Deep.RegionLaw
import Derived.RangeFuncFrom
import Derived.RangeFuncNested
import Derived.RangeFuncCalls
import Derived.RangeFuncLeaves
import Derived.OwnWalkIn
import Derived.TacticsInMore
import Derived.LoopNIn
import Derived.LoopIn
import Derived.ArgAppend
import Derived.Deep.RegionLawGrows
import Derived.Deep.AppendLies
import Derived.Deep.DeepCutAuto
/- Walks of the small functions of package unit: less, common, within. -/
section
namespace Go.Proofs.YtminplfgadhnnaaGreatDoor
open Go.RowKit Go.Shelf

set_option maxHeartbeats 400000 in
theorem less_any (a b c d : Int) (w : World) (ha : 0 ≤ a) (hb : 0 ≤ b) (hc : 0 ≤ c) (hd : 0 ≤ d) (hA : a ≤ 2000000000) (hB : b ≤ 2000000000) (hC : c ≤ 2000000000) (hD : d ≤ 2000000000) :
    Calls Tryz.prog 58 #[.agg #[.int .i64 a, .int .i64 b], .agg #[.int .i64 c, .int .i64 d]] w fun e w' => e = .returned (.bool (decide (a * d < c * b))) ∧ Below w.heap.size w w' := by
  have h1 : 0 ≤ a * d := Int.mul_nonneg ha hd
  have h2 : 0 ≤ c * b := Int.mul_nonneg hc hb
  have h3 : a * d ≤ 4000000000000000000 := Int.le_trans (Int.mul_le_mul hA hD hd (by omega)) (by omega)
  have h4 : c * b ≤ 4000000000000000000 := Int.le_trans (Int.mul_le_mul hC hB hb (by omega)) (by omega)
  go_enter Tryz.func58, Tryz.ntmps58
  go_wp2
  go_ret
  exact ⟨rfl, ((Below.refl _ _).alloc (Nat.le_refl _) _).alloc (by simp) _⟩

set_option maxHeartbeats 400000 in
theorem common_any (a b : Int) (w : World) (ha : 0 ≤ a) (hb : 0 ≤ b) (hA : a ≤ 9223372036854775807) (hB : b ≤ 9223372036854775807) :
    Calls Tryz.prog 147 #[.int .i64 a, .int .i64 b] w fun e w' => e = .returned (.int .i64 (Int.gcd a b)) ∧ Below w.heap.size w w' := by
  go_enter Tryz.func147, Tryz.ntmps147
  go_wp2
  go_loopw [0, 1] (fun x y wr => ∃ p q : Int, 0 ≤ p ∧ 0 ≤ q ∧ p ≤ 9223372036854775807 ∧ q ≤ 9223372036854775807 ∧ x = .int .i64 p ∧ y = .int .i64 q ∧ Hid (Int.gcd p q = Int.gcd a b) ∧ Below w.heap.size w wr) (fun _ y _ => (intOf y).toNat)
  case atStart => exact ⟨a, b, ha, hb, hA, hB, rfl, rfl, rfl, Below.refl _ _⟩
  case round =>
    obtain ⟨p, q, hp, hq, hP, hQ, rfl, rfl, hg, hbl⟩ := hrel
    by_cases h0 : q = 0
    · subst h0
      go_wp2
      go_ret
      refine ⟨?_, hbl⟩
      have := hg.out
      rw [← this]
      simp
      omega
    · have hm0 := Int.emod_nonneg p (b := q) h0
      have hm1 := Int.emod_lt_of_pos p (b := q) (by omega)
      have h1 : 1 ≤ q := by omega
      have hgc : Hid (Int.gcd q (p % q) = Int.gcd a b) := by
        rw [← hg.out]; show Int.gcd q (p % q) = Int.gcd p q
        exact Um.gcd_step p q hp (by omega)
      clear h0
      go_wp2
      go_quiet (fail)
      go_wp2
      go_roundw
      case rel => exact ⟨q, p % q, by omega, by omega, by omega, by omega, rfl, rfl, hgc, by first | exact hbl.drew | exact bdrewN hbl _⟩
      case measure => simp [intOf]; omega

/-- what a predicate on numbers that is handed on gives, whatever has been made since -/
def PredInts (P : Program) (g : Nat) (lb : Array Value) (p : Int → Bool) (zs : List Int) (w : World) : Prop :=
  ∀ x, x ∈ zs → ∀ W, Below w.heap.size w W → Calls P g (#[.int .i64 x] ++ lb) W fun e W' => e = .returned (.bool (p x)) ∧ Below w.heap.size w W'

set_option maxHeartbeats 400000 in
theorem indexInts_any (A : Option Addr) (n c g : Nat) (zs : List Int) (lb : Array Value) (p : Int → Bool) (w : World) (eg : ∀ args w, (callFunc g args).run Tryz.prog w = .ok (.enter g args) w)
    (hz : Ints w A n zs) (hn : n ≤ 9223372036854775807) (hp : PredInts Tryz.prog g lb p zs w) :
    Calls Tryz.prog 151 #[.slice A n c, .func (.func g) #[] lb] w fun e w' => e = .returned (.int .i64 (Um.idx p zs)) ∧ Below w.heap.size w w' := by
  obtain ⟨hl, hcell⟩ := hz
  have Hcell := Lib.hid hcell
  have Hp := Lib.hid hp
  have Hl := Lib.hid hl
  clear hcell hp hl
  go_enter Tryz.func151, Tryz.ntmps151
  go_wp2
  go_loopw [5, 8] (fun _ i wr => ∃ k : Nat, k ≤ n ∧ i = .int .i64 k ∧ Hid (∀ i y, i < k → zs[i]? = some y → p y = false) ∧ Below w.heap.size w wr) (fun _ i _ => n - (intOf i).toNat)
  case atStart => exact ⟨0, Nat.zero_le _, rfl, fun i y hi => by omega, Below.refl _ _⟩
  case round =>
    obtain ⟨k, hk, rfl, hpre, hbl⟩ := hrel
    by_cases hlt : k < n
    · obtain ⟨b, off, rfl, hb, hc⟩ := Hcell.out (by omega)
      have hx : wr.cell? ⟨b, off + k, none⟩ = some (.int .i64 (zs.getD k 0)) := (hbl.cell (p := ⟨b, off + k, none⟩) hb).trans (hc k hlt)
      have hget : zs[k]? = some (zs.getD k 0) := by
        rw [List.getD_eq_getElem?_getD, List.getElem?_eq_getElem (by have := Hl.out; omega)]; rfl
      have Hget := Lib.hid hget
      have hcall := Hp.out (zs.getD k 0) (List.mem_of_getElem? hget) wr hbl
      clear hc hget
      generalize zs.getD k 0 = x at *
      cases hq : p x with
      | true =>
        rw [hq] at hcall
        have Hq := Lib.hid hq
        clear hq
        go_wp2_with (go_at_fn g; refine hcall.mono ?_; rintro e w' ⟨rfl, hb'⟩)
        go_ret
        exact ⟨ret_int (Um.idx_at p k zs x hpre.out Hget.out Hq.out).symm, hb'⟩
      | false =>
        rw [hq] at hcall
        have Hq := Lib.hid hq
        clear hq
        go_wp2_with (go_at_fn g; refine hcall.mono ?_; rintro e w' ⟨rfl, hb'⟩)
        go_roundw
        case rel =>
          refine ⟨k + 1, by omega, by go_num, fun i y hi hy => ?_, hb'⟩
          by_cases hik : i < k
          · exact hpre.out i y hik hy
          · have : i = k := by omega
            subst this
            have := Hget.out
            rw [hy] at this
            injection this with this
            rw [this]; exact Hq.out
        case measure => simp [intOf]; omega
    · go_wp2
      go_ret
      refine ⟨ret_int (Um.idx_none p zs (fun y hy => ?_)).symm, hbl⟩
      obtain ⟨i, hi, hiy⟩ := List.mem_iff_getElem.1 hy
      exact hpre.out i y (by have := Hl.out; omega) (by rw [List.getElem?_eq_getElem hi, hiy])

set_option maxHeartbeats 400000 in
theorem containsInts_any (A : Option Addr) (n c g : Nat) (zs : List Int) (lb : Array Value) (p : Int → Bool) (w : World) (eg : ∀ args w, (callFunc g args).run Tryz.prog w = .ok (.enter g args) w)
    (hz : Ints w A n zs) (hn : n ≤ 9223372036854775807) (hp : PredInts Tryz.prog g lb p zs w) :
    Calls Tryz.prog 105 #[.slice A n c, .func (.func g) #[] lb] w fun e w' => e = .returned (.bool (zs.any p)) ∧ Below w.heap.size w w' := by
  have h1 := indexInts_any A n c g zs lb p w eg hz hn hp
  have h2 := Um.idx_any p zs
  have H2 := Lib.hid h2
  clear h2 hz hp eg
  generalize zs.any p = r at *
  generalize Um.idx p zs = ix at *
  go_enter Tryz.func105, Tryz.ntmps105
  go_wp2_with (go_at_call 151; refine h1.mono ?_; rintro e w' ⟨rfl, hb'⟩)
  go_ret
  exact ⟨ret_bool H2.out, hb'⟩

/-- a number is not from lo to hi -/
def out (lo hi n : Int) : Bool := decide (n < lo) || decide (hi < n)

set_option maxHeartbeats 400000 in
theorem withinC_any (lo hi n : Int) (b1 b2 : Nat) (w : World) (h1 : w.cell? ⟨b1, 0, none⟩ = some (.int .i64 lo)) (h2 : w.cell? ⟨b2, 0, none⟩ = some (.int .i64 hi)) :
    Calls Tryz.prog 154 #[.int .i64 n, .pointer (some ⟨b1, 0, none⟩), .pointer (some ⟨b2, 0, none⟩)] w fun e w' => e = .returned (.bool (out lo hi n)) ∧ Below w.heap.size w w' := by
  unfold out
  by_cases hn : n < lo
  · go_enter Tryz.func154, Tryz.ntmps154
    go_wp2
    go_ret
    exact ⟨ret_bool (by simp [hn]), Below.refl _ _⟩
  · have hn' : decide (n < lo) = false := by simp; omega
    have Hn := Lib.hid hn'
    clear hn'
    go_enter Tryz.func154, Tryz.ntmps154
    go_wp2
    go_ret
    exact ⟨ret_bool (by rw [Hn.out]; simp), Below.refl _ _⟩

set_option maxHeartbeats 400000 in
theorem within_any (lo hi : Int) (A : Option Addr) (n c : Nat) (zs : List Int) (w : World) (hz : Ints w A n zs) (hn : n ≤ 9223372036854775807) :
    Calls Tryz.prog 115 #[.int .i64 lo, .int .i64 hi, .slice A n c] w fun e w' => e = .returned (.bool (zs.all fun x => !out lo hi x)) ∧ Below w.heap.size w w' := by
  have hw2 : Below w.heap.size w ((w.alloc (.cells #[.int .i64 lo] 2)).alloc (.cells #[.int .i64 hi] 2)) := ((Below.refl _ _).alloc (Nat.le_refl _) _).alloc (by simp) _
  have hsz : ((w.alloc (.cells #[.int .i64 lo] 2)).alloc (.cells #[.int .i64 hi] 2)).heap.size = w.heap.size + 2 := by simp
  have h1 := containsInts_any A n c 154 zs #[.pointer (some ⟨w.heap.size, 0, none⟩), .pointer (some ⟨w.heap.size + 1, 0, none⟩)] (out lo hi) _
    (enters_of Tryz.func154 (by kernel_rfl) rfl) (hz.below hw2) hn (fun x _ W hW => (withinC_any lo hi x w.heap.size (w.heap.size + 1) W
      ((hW.cell (p := ⟨w.heap.size, 0, none⟩) (by rw [hsz]; simp)).trans (by simp)) ((hW.cell (p := ⟨w.heap.size + 1, 0, none⟩) (by rw [hsz]; simp)).trans (by simp))).mono fun e W' ⟨he, hb⟩ => ⟨he, hW.trans (hb.mono hW.size)⟩)
  have hany : Hid ((!zs.any (out lo hi)) = zs.all fun x => !out lo hi x) := by show _ = _; rw [List.not_any_eq_all_not]
  clear hz hsz
  generalize (zs.all fun x => !out lo hi x) = r at *
  generalize zs.any (out lo hi) = r' at *
  go_enter Tryz.func115, Tryz.ntmps115
  go_wp2_with (go_at_call 105; refine h1.mono ?_; rintro e w' ⟨rfl, hb'⟩)
  go_ret
  exact ⟨ret_bool (by first | rfl | exact hany.out), hw2.trans (hb'.mono (by simp; omega))⟩

end Go.Proofs.YtminplfgadhnnaaGreatDoor
end

/- Walks of package unit: isFraction, turned, CheckSpan. -/
section
namespace Go.Proofs.YtminplfgadhnnaaGreatDoor
open Go.RowKit Go.Shelf
set_option linter.unusedSimpArgs false
set_option linter.unusedVariables false
open Um (frac S4 spanB spanE)
set_option maxHeartbeats 400000 in
theorem isFraction_any (n d : Int) (w : World) :
    Calls Tryz.prog 101 #[.agg #[.int .i64 n, .int .i64 d]] w fun e w' => e = .returned (.bool (frac n d)) ∧ Below w.heap.size w w' := by
  have h1 := fun W hz => within_any 1 1000000000 (some ⟨w.heap.size + 1, 0, none⟩) 2 2 [n, d] W hz (by omega)
  by_cases hin : 1 ≤ n ∧ n ≤ 1000000000 ∧ 1 ≤ d ∧ d ≤ 1000000000
  · have hv : ([n, d].all fun x => !out 1 1000000000 x) = true := by simp [out]; omega
    rw [hv] at h1
    obtain ⟨b1, b2, b3, b4⟩ := hin
    have hfin : Hid (((Int.gcd n d : Int) == 1) = frac n d) := by show _ = _; rw [Bool.eq_iff_iff]; simp [frac, b1, b2, b3, b4]; omega
    have h2 := fun W => common_any n d W (by omega) (by omega) (by omega) (by omega)
    clear hv
    go_enter Tryz.func101, Tryz.ntmps101
    go_wp2_with fail
    refine (h1 _ (Ints.new (w.alloc _) _ [n, d] _ (by simp))).mono ?_
    rintro e w1 ⟨rfl, hb1⟩
    have B0 := ((Cs.new w _ #[.int .i64 n, .int .i64 d] 41 rfl).alloc _).keep hb1
    have c0 := B0.c
    go_wp2_with fail
    refine (h2 _).mono ?_
    rintro e w2 ⟨rfl, hb2⟩
    go_wp2_with fail
    go_ret
    exact ⟨ret_bool hfin.out, bstep (bstep (balloc (balloc (Below.refl _ _) _) _) hb1) hb2⟩
  · have hv : ([n, d].all fun x => !out 1 1000000000 x) = false := by
      simp only [out, List.all_cons, List.all_nil]
      by_cases a1 : n < 1 <;> by_cases a2 : 1000000000 < n <;> by_cases a3 : d < 1 <;> by_cases a4 : 1000000000 < d <;> simp [a1, a2, a3, a4]
      omega
    rw [hv] at h1
    have hfin : Hid (false = frac n d) := by show _ = _; simp [frac]; omega
    clear hv hin
    go_enter Tryz.func101, Tryz.ntmps101
    go_wp2_with fail
    refine (h1 _ (Ints.new (w.alloc _) _ [n, d] _ (by simp))).mono ?_
    rintro e w1 ⟨rfl, hb1⟩
    go_wp2_with fail
    go_ret
    exact ⟨ret_bool hfin.out, bstep (balloc (balloc (Below.refl _ _) _) _) hb1⟩




set_option maxHeartbeats 400000 in
theorem turned_any (n d : Int) (w : World) :
    Calls Tryz.prog 103 #[.agg #[.int .i64 n, .int .i64 d]] w fun e w' => e = .returned (.agg #[.int .i64 d, .int .i64 n]) ∧ Below w.heap.size w w' := by
  go_enter Tryz.func103, Tryz.ntmps103
  go_wp2_with fail
  exact bodyPost_ret (v := .agg #[.int .i64 d, .int .i64 n]) (by simp [results, Tryz.results103, go_sem]) rfl ⟨rfl, balloc (balloc (Below.refl _ _) _) _⟩

set_option maxHeartbeats 1000000 in
theorem checkSpan_any (a b c d : Int) (w : World) :
    Calls Tryz.prog 44 #[.agg #[.int .i64 a, .int .i64 b, .int .i64 c, .int .i64 d]] w fun e w' => e = .returned (.int .i64 (spanE (a, b, c, d))) ∧ Below w.heap.size w w' := by
  have h1 := fun W => isFraction_any a b W
  have h2 := fun W => isFraction_any c d W
  cases hf1 : frac a b with
  | false =>
    have hfin : Hid (2 = spanE (a, b, c, d)) := by show _ = _; simp [spanE, spanB, hf1]
    rw [hf1] at h1
    clear hf1 h2
    go_enter Tryz.func44, Tryz.ntmps44
    go_wp2_with fail
    refine (h1 _).mono ?_
    rintro e w1 ⟨rfl, hb1⟩
    go_wp2_with fail
    go_ret
    exact ⟨ret_int hfin.out, bstep (balloc (Below.refl _ _) _) hb1⟩
  | true =>
    cases hf2 : frac c d with
    | false =>
      have hfin : Hid (2 = spanE (a, b, c, d)) := by show _ = _; simp [spanE, spanB, hf1, hf2]
      rw [hf1] at h1
      rw [hf2] at h2
      clear hf1 hf2
      go_enter Tryz.func44, Tryz.ntmps44
      go_wp2_with fail
      refine (h1 _).mono ?_
      rintro e w1 ⟨rfl, hb1⟩
      have B0 := (Cs.new w _ #[.int .i64 a, .int .i64 b, .int .i64 c, .int .i64 d] 43 rfl).keep hb1
      have c0 := B0.c
      go_wp2_with fail
      refine (h2 _).mono ?_
      rintro e w2 ⟨rfl, hb2⟩
      go_wp2_with fail
      go_ret
      exact ⟨ret_int hfin.out, bstep (bstep (balloc (Below.refl _ _) _) hb1) hb2⟩
    | true =>
      obtain ⟨a1, a2, b1, b2⟩ := Um.frac_bd hf1
      obtain ⟨c1, c2, d1, d2⟩ := Um.frac_bd hf2
      have h3 := fun W => less_any c d a b W (by omega) (by omega) (by omega) (by omega) (by omega) (by omega) (by omega) (by omega)
      cases hl : decide (c * b < a * d) with
      | true =>
        have hfin : Hid (2 = spanE (a, b, c, d)) := by
          show _ = _
          have : ¬ a * d ≤ c * b := by simp at hl; omega
          simp [spanE, spanB, hf1, hf2, this]
        rw [hf1] at h1
        rw [hf2] at h2
        rw [hl] at h3
        clear hf1 hf2 hl
        go_enter Tryz.func44, Tryz.ntmps44
        go_wp2_with fail
        refine (h1 _).mono ?_
        rintro e w1 ⟨rfl, hb1⟩
        have B0 := (Cs.new w _ #[.int .i64 a, .int .i64 b, .int .i64 c, .int .i64 d] 43 rfl).keep hb1
        have c0 := B0.c
        go_wp2_with fail
        refine (h2 _).mono ?_
        rintro e w2 ⟨rfl, hb2⟩
        have c0' := (B0.keep hb2).c
        clear c0
        go_wp2_with fail
        refine (h3 _).mono ?_
        rintro e w3 ⟨rfl, hb3⟩
        go_wp2_with fail
        go_ret
        exact ⟨ret_int hfin.out, bstep (bstep (bstep (balloc (Below.refl _ _) _) hb1) hb2) hb3⟩
      | false =>
        have hfin : Hid (0 = spanE (a, b, c, d)) := by
          show _ = _
          have : a * d ≤ c * b := by simp at hl; omega
          simp [spanE, spanB, hf1, hf2, this]
        rw [hf1] at h1
        rw [hf2] at h2
        rw [hl] at h3
        clear hf1 hf2 hl
        go_enter Tryz.func44, Tryz.ntmps44
        go_wp2_with fail
        refine (h1 _).mono ?_
        rintro e w1 ⟨rfl, hb1⟩
        have B0 := (Cs.new w _ #[.int .i64 a, .int .i64 b, .int .i64 c, .int .i64 d] 43 rfl).keep hb1
        have c0 := B0.c
        go_wp2_with fail
        refine (h2 _).mono ?_
        rintro e w2 ⟨rfl, hb2⟩
        have c0' := (B0.keep hb2).c
        clear c0
        go_wp2_with fail
        refine (h3 _).mono ?_
        rintro e w3 ⟨rfl, hb3⟩
        go_wp2_with fail
        go_ret
        exact ⟨ret_int hfin.out, bstep (bstep (bstep (balloc (Below.refl _ _) _) hb1) hb2) hb3⟩

theorem checkSpan_ok (a b c d : Int) (w : World) (h : spanB (a, b, c, d) = true) :
    Calls Tryz.prog 44 #[.agg #[.int .i64 a, .int .i64 b, .int .i64 c, .int .i64 d]] w fun e w' => e = .returned (.int .i64 0) ∧ Below w.heap.size w w' := by
  have := checkSpan_any a b c d w
  rwa [spanE, if_pos h] at this
end Go.Proofs.YtminplfgadhnnaaGreatDoor
end

/- Walks of package unit: product. -/
section
namespace Go.Proofs.YtminplfgadhnnaaGreatDoor
open Go.RowKit Go.Shelf
set_option linter.unusedSimpArgs false
set_option linter.unusedVariables false
open Um (frac S4 spanB spanE prodR mulR)

/-- a slice value that reads as a list of fractions -/
def Rats (w : World) (A : Option Addr) (n : Nat) (zs : List (Int × Int)) : Prop :=
  zs.length = n ∧ (0 < n → ∃ b off, A = some ⟨b, off, none⟩ ∧ b < w.heap.size ∧ ∀ i, i < n → w.cell? ⟨b, off + i * 2, none⟩ = some (.int .i64 (zs.getD i (0, 0)).1) ∧ w.cell? ⟨b, off + i * 2 + 1, none⟩ = some (.int .i64 (zs.getD i (0, 0)).2))

theorem Rats.below {w w' : World} {A : Option Addr} {n : Nat} {zs : List (Int × Int)} (h : Rats w A n zs) (hb : Below w.heap.size w w') : Rats w' A n zs := by
  refine ⟨h.1, fun hn => ?_⟩
  obtain ⟨b, off, rfl, hlt, hc⟩ := h.2 hn
  exact ⟨b, off, rfl, Nat.lt_of_lt_of_le hlt hb.size, fun i hi => ⟨(hb.cell (p := ⟨b, _, none⟩) hlt).trans (hc i hi).1, (hb.cell (p := ⟨b, _, none⟩) hlt).trans (hc i hi).2⟩⟩

end Go.Proofs.YtminplfgadhnnaaGreatDoor
end

/- Walks of package unit: spans in slices; carry, carried, Carry. -/
section
namespace Go.Proofs.YtminplfgadhnnaaGreatDoor
open Go.RowKit Go.Shelf
set_option linter.unusedSimpArgs false
set_option linter.unusedVariables false
open Um (frac S4 spanB spanE prodR mulR mul4 frac4 carryL)

/-- a slice value that reads as a list of spans -/
def Spans (w : World) (A : Option Addr) (n : Nat) (zs : List S4) : Prop :=
  zs.length = n ∧ (0 < n → ∃ b off, A = some ⟨b, off, none⟩ ∧ b < w.heap.size ∧ ∀ i, i < n →
    w.cell? ⟨b, off + i * 4, none⟩ = some (.int .i64 (zs.getD i (0, 0, 0, 0)).1) ∧ w.cell? ⟨b, off + i * 4 + 1, none⟩ = some (.int .i64 (zs.getD i (0, 0, 0, 0)).2.1) ∧
    w.cell? ⟨b, off + i * 4 + 2, none⟩ = some (.int .i64 (zs.getD i (0, 0, 0, 0)).2.2.1) ∧ w.cell? ⟨b, off + i * 4 + 3, none⟩ = some (.int .i64 (zs.getD i (0, 0, 0, 0)).2.2.2))

theorem Spans.below {w w' : World} {A : Option Addr} {n : Nat} {zs : List S4} (h : Spans w A n zs) (hb : Below w.heap.size w w') : Spans w' A n zs := by
  refine ⟨h.1, fun hn => ?_⟩
  obtain ⟨b, off, rfl, hlt, hc⟩ := h.2 hn
  exact ⟨b, off, rfl, Nat.lt_of_lt_of_le hlt hb.size, fun i hi => ⟨(hb.cell (p := ⟨b, _, none⟩) hlt).trans (hc i hi).1, (hb.cell (p := ⟨b, _, none⟩) hlt).trans (hc i hi).2.1, (hb.cell (p := ⟨b, _, none⟩) hlt).trans (hc i hi).2.2.1, (hb.cell (p := ⟨b, _, none⟩) hlt).trans (hc i hi).2.2.2⟩⟩

theorem Rats.new2 (w : World) (H : Nat) (a b c d : Int) (t : TypeId) (hH : w.heap.size = H) : Rats (w.alloc (.cells #[.int .i64 a, .int .i64 b, .int .i64 c, .int .i64 d] t)) (some ⟨H, 0, none⟩) 2 [(a, b), (c, d)] := by
  subst hH
  refine ⟨rfl, fun _ => ⟨w.heap.size, 0, rfl, by simp, fun i hi => ?_⟩⟩
  have : i = 0 ∨ i = 1 := by omega
  rcases this with rfl | rfl <;> simp

end Go.Proofs.YtminplfgadhnnaaGreatDoor
end

/- Walks of package unit: carried, Carry. -/
section
namespace Go.Proofs.YtminplfgadhnnaaGreatDoor
open Go.RowKit Go.Shelf
set_option linter.unusedSimpArgs false
set_option linter.unusedVariables false
open Um (frac S4 spanB spanE prodR mulR mul4 frac4 carryL)

end Go.Proofs.YtminplfgadhnnaaGreatDoor
end

/- Walks of package unit: carried, Carry. -/
section
namespace Go.Proofs.YtminplfgadhnnaaGreatDoor
open Go.RowKit Go.Shelf
set_option linter.unusedSimpArgs false
set_option linter.unusedVariables false
open Um (frac S4 spanB spanE prodR mulR mul4 frac4 carryL)

end Go.Proofs.YtminplfgadhnnaaGreatDoor
end

/- Walks of package unit: Carry; what Back changes. -/
section
namespace Go.Proofs.YtminplfgadhnnaaGreatDoor
open Go.RowKit Go.Shelf
set_option linter.unusedSimpArgs false
set_option linter.unusedVariables false
open Um (frac S4 spanB spanE prodR mulR mul4 frac4 carryL turn4)

end Go.Proofs.YtminplfgadhnnaaGreatDoor
end

/- Walks of the reference of units: products. -/
section
namespace Go.Proofs.YtminplfgadhnnaaGreatDoor
open Go.RowKit Go.Shelf
set_option linter.unusedSimpArgs false
set_option linter.unusedVariables false
open Um (frac S4 spanB spanE prodR mulR mul4 frac4 carryL turn4)

end Go.Proofs.YtminplfgadhnnaaGreatDoor
end

/- Walks of the reference of layer 1: the errors of decrees; a fraction in a span. -/
section
namespace Go.Proofs.YtminplfgadhnnaaGreatDoor
open Go.RowKit Go.Shelf
set_option linter.unusedSimpArgs false
set_option linter.unusedVariables false
open Um (frac S4 spanB spanE)

/-- In: is a fraction in a span? -/
def inB (n d : Int) (s : S4) : Bool := decide (s.1 * d ≤ n * s.2.1) && decide (n * s.2.2.2 ≤ s.2.2.1 * d)

set_option maxHeartbeats 1000000 in
theorem rIn_any (n d a b c e : Int) (w : World) (h1 : 0 ≤ n) (h2 : 0 ≤ d) (h3 : 0 ≤ a) (h4 : 0 ≤ b) (h5 : 0 ≤ c) (h6 : 0 ≤ e) (H1 : n ≤ 2000000000) (H2 : d ≤ 2000000000) (H3 : a ≤ 2000000000) (H4 : b ≤ 2000000000) (H5 : c ≤ 2000000000) (H6 : e ≤ 2000000000) :
    Calls Tryz.prog 16 #[.agg #[.int .i64 n, .int .i64 d], .agg #[.int .i64 a, .int .i64 b, .int .i64 c, .int .i64 e]] w fun ed w' => ed = .returned (.bool (inB n d (a, b, c, e))) ∧ Below w.heap.size w w' := by
  have k1 := fun W => rless_any n d a b W h1 h2 h3 h4 H1 H2 H3 H4
  have k2 := fun W => rless_any c e n d W h5 h6 h1 h2 H5 H6 H1 H2
  have e1 : decide (a * d ≤ n * b) = !decide (n * b < a * d) := by rw [Bool.eq_iff_iff]; simp
  have e2 : decide (n * e ≤ c * d) = !decide (c * d < n * e) := by rw [Bool.eq_iff_iff]; simp
  unfold inB
  simp only
  rw [e1, e2]
  clear e1 e2
  generalize decide (n * b < a * d) = p at *
  generalize decide (c * d < n * e) = q at *
  cases p with
  | true =>
    go_enter Tryz.func16, Tryz.ntmps16
    go_wp2_with fail
    refine (k1 _).mono ?_
    rintro e w1 ⟨rfl, hb1⟩
    replace hbw : Below w.heap.size w w1 := (by repeat (first | with_reducible exact Below.refl _ _ | with_reducible assumption | with_reducible refine balloc ?_ _ | with_reducible refine bdrewN ?_ _ | with_reducible refine Below.drew ?_ | (with_reducible refine bset ?_ ?_ _; rotate_left; focus (first | assumption | omega | (simp; done) | (simp; omega))) | with_reducible refine bstep ?_ (by assumption) | assumption))
    clear hb1
    go_wp2_with fail
    go_ret
    exact ⟨by simp, (by repeat (first | with_reducible exact Below.refl _ _ | with_reducible assumption | with_reducible refine balloc ?_ _ | with_reducible refine bdrewN ?_ _ | with_reducible refine Below.drew ?_ | (with_reducible refine bset ?_ ?_ _; rotate_left; focus (first | assumption | omega | (simp; done) | (simp; omega))) | with_reducible refine bstep ?_ (by assumption) | assumption))⟩
  | false =>
    go_enter Tryz.func16, Tryz.ntmps16
    go_wp2_with fail
    refine (k1 _).mono ?_
    rintro e w1 ⟨rfl, hb1⟩
    replace B0 : Cs w1 (w.heap.size) #[.int .i64 n, .int .i64 d] := Cs.keep (by repeat (first | with_reducible assumption | (with_reducible refine Cs.new _ _ _ _ ?_; first | rfl | (simp; done)) | with_reducible refine Cs.alloc ?_ _ | with_reducible refine Cs.drewN ?_ _ | with_reducible refine Cs.drew ?_ | with_reducible refine Cs.set4 ?_ _ _ _ _ | (with_reducible refine Cs.other4 ?_ ?_ _ _ _ _; rotate_left; focus (first | assumption | omega | (simp; done) | (simp; omega))) | with_reducible refine Cs.set2 ?_ _ _ | (with_reducible refine Cs.other2 ?_ ?_ _ _; rotate_left; focus (first | assumption | omega | (simp; done) | (simp; omega))) | (with_reducible refine Cs.other ?_ ?_ _; rotate_left; focus (first | assumption | omega | (simp; done) | (simp; omega))) | with_reducible refine Cs.keep ?_ (by assumption) | assumption)) hb1
    replace B1 : Cs w1 (w.heap.size + 1) #[.int .i64 a, .int .i64 b, .int .i64 c, .int .i64 e] := Cs.keep (by repeat (first | with_reducible assumption | (with_reducible refine Cs.new _ _ _ _ ?_; first | rfl | (simp; done)) | with_reducible refine Cs.alloc ?_ _ | with_reducible refine Cs.drewN ?_ _ | with_reducible refine Cs.drew ?_ | with_reducible refine Cs.set4 ?_ _ _ _ _ | (with_reducible refine Cs.other4 ?_ ?_ _ _ _ _; rotate_left; focus (first | assumption | omega | (simp; done) | (simp; omega))) | with_reducible refine Cs.set2 ?_ _ _ | (with_reducible refine Cs.other2 ?_ ?_ _ _; rotate_left; focus (first | assumption | omega | (simp; done) | (simp; omega))) | (with_reducible refine Cs.other ?_ ?_ _; rotate_left; focus (first | assumption | omega | (simp; done) | (simp; omega))) | with_reducible refine Cs.keep ?_ (by assumption) | assumption)) hb1
    replace hbw : Below w.heap.size w w1 := (by repeat (first | with_reducible exact Below.refl _ _ | with_reducible assumption | with_reducible refine balloc ?_ _ | with_reducible refine bdrewN ?_ _ | with_reducible refine Below.drew ?_ | (with_reducible refine bset ?_ ?_ _; rotate_left; focus (first | assumption | omega | (simp; done) | (simp; omega))) | with_reducible refine bstep ?_ (by assumption) | assumption))
    replace cB0 := B0.c
    replace fB0 := B0.f
    replace lB0 := B0.lt
    replace cB1 := B1.c
    replace fB1 := B1.f
    replace lB1 := B1.lt
    clear hb1
    go_wp2_with fail
    refine (k2 _).mono ?_
    rintro e w2 ⟨rfl, hb2⟩
    try clear cB0 fB0 lB0
    try clear B0
    try clear cB1 fB1 lB1
    try clear B1
    replace hbw : Below w.heap.size w w2 := (by repeat (first | with_reducible exact Below.refl _ _ | with_reducible assumption | with_reducible refine balloc ?_ _ | with_reducible refine bdrewN ?_ _ | with_reducible refine Below.drew ?_ | (with_reducible refine bset ?_ ?_ _; rotate_left; focus (first | assumption | omega | (simp; done) | (simp; omega))) | with_reducible refine bstep ?_ (by assumption) | assumption))
    clear hb2
    go_wp2_with fail
    go_ret
    exact ⟨by simp, (by repeat (first | with_reducible exact Below.refl _ _ | with_reducible assumption | with_reducible refine balloc ?_ _ | with_reducible refine bdrewN ?_ _ | with_reducible refine Below.drew ?_ | (with_reducible refine bset ?_ ?_ _; rotate_left; focus (first | assumption | omega | (simp; done) | (simp; omega))) | with_reducible refine bstep ?_ (by assumption) | assumption))⟩

end Go.Proofs.YtminplfgadhnnaaGreatDoor
end

/- Walks of the reference of layer 1: Carry. -/
section
namespace Go.Proofs.YtminplfgadhnnaaGreatDoor
open Go.RowKit Go.Shelf
set_option linter.unusedSimpArgs false
set_option linter.unusedVariables false
open Um (frac S4 spanB spanE mul4 frac4 carryL turn4)

end Go.Proofs.YtminplfgadhnnaaGreatDoor
end

/- Walks of the reference of layer 1: Back. -/
section
namespace Go.Proofs.YtminplfgadhnnaaGreatDoor
open Go.RowKit Go.Shelf
set_option linter.unusedSimpArgs false
set_option linter.unusedVariables false
open Um (frac S4 spanB spanE mul4 frac4 carryL turn4)

end Go.Proofs.YtminplfgadhnnaaGreatDoor
end

/- Walks of the reference of layer 1: Found. -/
section
namespace Go.Proofs.YtminplfgadhnnaaGreatDoor
open Go.RowKit Go.Shelf
set_option linter.unusedSimpArgs false
set_option linter.unusedVariables false
open Um (frac S4 spanB spanE Simp)

end Go.Proofs.YtminplfgadhnnaaGreatDoor
end

/- A range over a function whose iterator has blocks of its own and yields a known list: the caller's law. -/
section
namespace Go.Proofs.YtminplfgadhnnaaGreatDoor
open Go.RowKit Go.Shelf
set_option linter.unusedSimpArgs false
set_option linter.unusedVariables false

/-- a step that turns blocks of O alone, and lays new ones -/
structure Turns (O : Nat → Prop) (W W' : World) : Prop where
  os : W'.os = W.os
  tape : W'.tape = W.tape
  output : W'.output = W.output
  size : W.heap.size ≤ W'.heap.size
  block : ∀ i, i < W.heap.size → ¬ O i → W'.heap[i]? = W.heap[i]?

theorem Turns.of_below {O : Nat → Prop} {W W' : World} (h : Below W.heap.size W W') : Turns O W W' := ⟨h.os, h.tape, h.output, h.size, fun i hi _ => h.block i hi⟩
theorem Turns.refl (O : Nat → Prop) (W : World) : Turns O W W := ⟨rfl, rfl, rfl, Nat.le_refl _, fun _ _ _ => rfl⟩
theorem Turns.trans {O : Nat → Prop} {A B C : World} (h : Turns O A B) (k : Turns O B C) : Turns O A C :=
  ⟨k.os.trans h.os, k.tape.trans h.tape, k.output.trans h.output, Nat.le_trans h.size k.size, fun i hi ho => (k.block i (Nat.lt_of_lt_of_le hi h.size) ho).trans (h.block i hi ho)⟩
theorem Turns.mono {O O' : Nat → Prop} {W W' : World} (h : Turns O W W') (hO : ∀ i, O i → O' i) : Turns O' W W' := ⟨h.os, h.tape, h.output, h.size, fun i hi ho => h.block i hi (fun k => ho (hO i k))⟩
theorem Turns.putObj {O : Nat → Prop} {W : World} {l : Nat} (o : Obj) (hl : O l) : Turns O W (W.putObj l o) :=
  ⟨rfl, rfl, rfl, by simp, fun i _ ho => World.putObj_heap_other (fun e => ho (e ▸ hl))⟩
theorem Turns.setCell {O : Nat → Prop} {W : World} {p : Addr} (v : Value) (hp : O p.block) : Turns O W (W.setCell p v) :=
  ⟨rfl, rfl, rfl, by simp [World.setCell], fun i _ ho => Below.heap_setCell W p v i (fun e => ho (e ▸ hp))⟩
theorem Turns.below {O : Nat → Prop} {B : Nat} {A W W' : World} (h : Below B A W) (k : Turns O W W') (hO : ∀ i, O i → B ≤ i) (hB : B ≤ W.heap.size) : Below B A W' :=
  h.trans ⟨k.os, k.tape, k.output, k.size, fun i hi => k.block i (by omega) (fun ho => by have := hO i ho; omega)⟩

/-- what is said abides such steps -/
def Bears {β : Type} (O : Nat → Prop) (J : β → World → Prop) : Prop := ∀ s W W', J s W → Turns O W W' → J s W'

/-- the two blocks of a loop over a function are as they were -/
def Keeps2 (b : Nat) (W W' : World) : Prop := W.heap.size ≤ W'.heap.size ∧ W'.heap[b]? = W.heap[b]? ∧ W'.heap[b + 1]? = W.heap[b + 1]?
theorem Keeps2.of_turns {O : Nat → Prop} {b : Nat} {W W' : World} (h : Turns O W W') (h0 : ¬ O b) (h1 : ¬ O (b + 1)) (hb : b + 2 ≤ W.heap.size) : Keeps2 b W W' :=
  ⟨h.size, h.block _ (by omega) h0, h.block _ (by omega) h1⟩

/-- a function value yields the list xs0, one by one; it turns blocks of O alone (O's first number: the heap's size at its call) and lays new ones; behind all of it Fin holds -/
def SeqList {α : Type} (F : Fence) (n : Nat) (P : Program) (g : Nat) (lb : Array Value) (encs : α → Array Value) (O : Nat → Nat → Prop) (Kp : Nat → World → World → Prop) (xs0 : List α) (Fin : World → Prop) (w : World) : Prop :=
  ∀ (l : Nat) (J Jx : List α → World → Prop) (W : World), Below w.heap.size w W → Bears (O W.heap.size) J → Bears (O W.heap.size) Jx →
    (∀ pre x W1, (pre ++ [x]) <+: xs0 → J pre W1 → YieldAt F (n - 1) P l (encs x) W1 fun e W' =>
      (e = .returned (.bool true) ∧ J (pre ++ [x]) W' ∧ Kp W.heap.size W1 W') ∨ (e = .returned (.bool false) ∧ Jx (pre ++ [x]) W')) →
    J [] W →
    CallsIn F n P g (#[.func (.yield l) #[] #[]] ++ lb) W fun e W' => (∃ v, e = .returned v) ∧ ((Fin W' ∧ J xs0 W') ∨ (∃ pre, pre <+: xs0 ∧ Jx pre W'))

/-- how the body of a round may be left -/
def postRound {α : Type} (b : Nat) (Kp : World → World → Prop) (I : List α → World → Prop) (Ix : Code → List α → World → Prop) (xs : List α) (W : World) : Exit → Act → World → Prop
  | .normal, _, W' => Keeps2 b W W' ∧ Kp W W' ∧ I xs W'
  | .ret, _, W' => Keeps2 b W W' ∧ Ix .ret xs W'
  | .exit id, _, W' => Keeps2 b W W' ∧ Ix (.exit id) xs W'
  | _, _, _ => False

variable {F : Fence} {n : Nat} {P : Program}

theorem wpIn_rangeList {α : Type} {g : Operand} {ps : Array Tmp} {assign body : Code} {Q : Exit → Act → World → Prop} {a : Act} {w : World}
    (hro : F.round = none) (h1 : 1 ≤ n) {gf : Nat} {lb : Array Value} (hg : a.eval g = .func (.func gf) #[] lb) (hFg : F.fn gf) (eg : ∀ args w, (callFunc gf args).run P w = .ok (.enter gf args) w)
    {encs : α → Array Value} {O : Nat → Nat → Prop} {Kp : Nat → World → World → Prop} {xs0 : List α} {Fin : World → Prop} {w0 : World} (hseq : SeqList F (n - 1) P gf lb encs O Kp xs0 Fin w0)
    (hO : ∀ i, O (w.heap.size + 2) i → i ≠ w.heap.size ∧ i ≠ w.heap.size + 1) (hKt : ∀ {A B C : World}, Kp (w.heap.size + 2) A B → Kp (w.heap.size + 2) B C → Kp (w.heap.size + 2) A C)
    (hKb : ∀ (W : World) (o' : Obj), Kp (w.heap.size + 2) W (W.putObj (w.heap.size + 1) o')) (hFin : ∀ (W : World) (o' : Obj), Fin W → Fin (W.putObj (w.heap.size + 1) o'))
    (hb0 : Below w0.heap.size w0 w) (hps : ∀ x, (encs x).size = ps.size)
    (I : List α → World → Prop) (Ix : Code → List α → World → Prop) (hI : Bears (fun i => O (w.heap.size + 2) i ∨ i = w.heap.size + 1) I) (hIx : ∀ c, Bears (fun i => O (w.heap.size + 2) i ∨ i = w.heap.size + 1) (Ix c)) (h0 : I [] w)
    (Ax : List α → α → Act → World → Prop) (hAx : ∀ (pre : List α) (x : α) (a' : Act) (W : World) (o' : Obj), Ax pre x a' W → Ax pre x a' (W.putObj (w.heap.size + 1) o'))
    (hassign : ∀ (l : Nat) (pre : List α) (x : α) (W : World) (K : Act → World → Prop), (pre ++ [x]) <+: xs0 → I pre W → w.heap.size + 2 ≤ W.heap.size →
      (∀ a' W1, Keeps2 w.heap.size W W1 → Kp (w.heap.size + 2) W W1 → Ax pre x a' W1 → K a' W1) →
      assign.wpIn (F.inRound l) (n - 1 - 1) P (Exit.then K (fun _ _ _ => False)) { tmps := (ps.zip (encs x)).foldl (fun t (p, v) => t.setIfInBounds p v) a.tmps, defers := [] } W)
    (hbody : ∀ (l : Nat) (pre : List α) (x : α) (a' : Act) (W : World), (pre ++ [x]) <+: xs0 → Ax pre x a' W → w.heap.size + 2 ≤ W.heap.size →
      body.wpIn (F.inRound l) (n - 1 - 1) P (postRound w.heap.size (Kp (w.heap.size + 2)) I Ix (pre ++ [x]) W) a' W)
    (hdone : ∀ (W : World), Fin W → I xs0 W → W.heap[w.heap.size]? = some (.deferred (some [])) → Q .normal { a with defers := { target := .collected w.heap.size, args := #[] } :: a.defers } W)
    (hstop : ∀ (c : Code) (pre : List α) (W : World), pre <+: xs0 → Ix c pre W → W.heap[w.heap.size]? = some (.deferred (some [])) → c.wpIn F n P Q { a with defers := { target := .collected w.heap.size, args := #[] } :: a.defers } W) :
    (Code.rangeFunc g ps assign body).wpIn F n P Q a w := by
  refine wpIn_rangeFunc fun fn hfn => ?_
  rw [hro]
  -- the loop's record in each of its states
  obtain ⟨rec, hrec⟩ : ∃ rec : LoopState → Option Code → Loop, rec = fun st pe => { state := st, pending := pe, fn, tmps := a.tmps, params := ps, assign, body, defers := w.heap.size } := ⟨_, rfl⟩
  obtain ⟨W1, hW1⟩ : ∃ W1, (w.alloc (.deferred (some []))).alloc (.loop (rec .ready none)) = W1 := ⟨_, rfl⟩
  have hsz : W1.heap.size = w.heap.size + 2 := by rw [← hW1]; simp
  have hloop : W1.heap[w.heap.size + 1]? = some (.loop (rec .ready none)) := by
    rw [← hW1]
    have := World.alloc_heap_new (w.alloc (.deferred (some []))) (.loop (rec .ready none))
    rwa [World.size_alloc] at this
  have hdef : W1.heap[w.heap.size]? = some (.deferred (some [])) := by
    rw [← hW1]; exact (Below.heap_alloc _ _ _ (by simp)).trans (World.alloc_heap_new w _)
  have hbw : Below w.heap.size w W1 := by rw [← hW1]; exact balloc (balloc (Below.refl _ _) _) _
  have hIW : I [] W1 := hI [] w W1 h0 (Turns.of_below hbw)
  have rec_put : ∀ (W : World) (o : Obj), w.heap.size + 1 < W.heap.size → (W.putObj (w.heap.size + 1) o).heap[w.heap.size + 1]? = some o := fun W o h => World.putObj_heap_same h
  have def_put : ∀ (W : World) (o : Obj), (W.putObj (w.heap.size + 1) o).heap[w.heap.size]? = W.heap[w.heap.size]? := fun W o => World.putObj_heap_other (by omega)
  have I_put : ∀ s (W : World) (o : Obj), I s W → I s (W.putObj (w.heap.size + 1) o) := fun s W o h => hI s W _ h (Turns.putObj o (.inr rfl))
  have Ix_put : ∀ c s (W : World) (o : Obj), Ix c s W → Ix c s (W.putObj (w.heap.size + 1) o) := fun c s W o h => hIx c s W _ h (Turns.putObj o (.inr rfl))
  have hO' : ∀ i, O W1.heap.size i → i ≠ w.heap.size ∧ i ≠ w.heap.size + 1 := fun i hi => hO i (hsz ▸ hi)
  refine ⟨w.heap.size + 1, [{ target := .collected w.heap.size, args := #[] }], W1, { target := .fn (.func gf) lb, args := #[.func (.yield (w.heap.size + 1)) #[] #[]] }, W1, gf,
    #[.func (.yield (w.heap.size + 1)) #[] #[]] ++ lb, W1, ?_, ?_, ?_, ?_, fun _ => h1, ?_⟩
  · rw [← hW1, hrec]; exact run_enterLoop_outer _ _ _ _ _
  · simp only [resolve, hg]
    simp [go_sem]
  · intro f' hf'; simp [Target.leads] at hf'; subst hf'; exact hFg
  · simp [invoke, go_sem, eg]
  · have hcall := hseq (w.heap.size + 1)
      (fun pre W => I pre W ∧ W.heap[w.heap.size + 1]? = some (.loop (rec .ready none)) ∧ W.heap[w.heap.size]? = some (.deferred (some [])))
      (fun pre W => ∃ c, Ix c pre W ∧ W.heap[w.heap.size + 1]? = some (.loop (rec .done (some c))) ∧ W.heap[w.heap.size]? = some (.deferred (some [])))
      W1 (hb0.trans (hbw.mono hb0.size))
      (fun s A B hs ht => by
        have hlt : w.heap.size + 1 < A.heap.size := (Array.getElem?_eq_some_iff.1 hs.2.1).1
        exact ⟨hI s A B hs.1 (ht.mono fun i hi => .inl (hsz ▸ hi)), (ht.block _ hlt (fun ho => (hO' _ ho).2 rfl)).trans hs.2.1, (ht.block _ (by omega) (fun ho => (hO' _ ho).1 rfl)).trans hs.2.2⟩)
      (fun s A B hs ht => by
        obtain ⟨c, hc, hl, hk⟩ := hs
        have hlt : w.heap.size + 1 < A.heap.size := (Array.getElem?_eq_some_iff.1 hl).1
        exact ⟨c, hIx c s A B hc (ht.mono fun i hi => .inl (hsz ▸ hi)), (ht.block _ hlt (fun ho => (hO' _ ho).2 rfl)).trans hl, (ht.block _ (by omega) (fun ho => (hO' _ ho).1 rfl)).trans hk⟩)
      ?_ ⟨hIW, hloop, hdef⟩
    · refine hcall.mono ?_
      rintro e W2 ⟨⟨v, rfl⟩, (⟨hF2, hi, hl, hk⟩ | ⟨pre, hpre, c, hi, hl, hk⟩)⟩
      · refine ⟨none, _, by have := run_endLoop (P := P) hl (by rw [hrec]; simp); rw [hrec] at this; exact this, ?_⟩
        exact hdone _ (hFin _ _ hF2) (I_put _ _ _ hi) ((def_put _ _).trans hk)
      · refine ⟨some c, _, by have := run_endLoop (P := P) hl (by rw [hrec]; simp); rw [hrec] at this; exact this, ?_⟩
        exact hstop c pre _ hpre (Ix_put _ _ _ _ hi) ((def_put _ _).trans hk)
    · rintro pre x W hpx ⟨hi, hl, hk⟩
      have hlt : w.heap.size + 1 < W.heap.size := (Array.getElem?_eq_some_iff.1 hl).1
      have hy := run_yield (P := P) (args := encs x) hl (by rw [hrec]; exact hps x)
      rw [hrec] at hy
      refine ⟨fn, _, assign, body, hy, roundIn_of_wpIn hfn (hassign _ pre x W _ hpx hi (by omega) ?_)⟩
      intro a' Wa hka hkpa hax
      have hla : Wa.heap[w.heap.size + 1]? = some (.loop (rec .ready none)) := hka.2.2.trans hl
      have hka' : Wa.heap[w.heap.size]? = some (.deferred (some [])) := hka.2.1.trans hk
      have hlta : w.heap.size + 1 < Wa.heap.size := by have := hka.1; omega
      refine ⟨_, run_beginRound hla (by rw [hrec]), ?_⟩
      have hl2 := rec_put Wa (.loop { rec .ready none with state := .busy }) hlta
      have hk2 := (def_put Wa (.loop { rec .ready none with state := .busy })).trans hka'
      have hkp2 : Kp (w.heap.size + 2) W (Wa.putObj (w.heap.size + 1) (.loop { rec .ready none with state := .busy })) := hKt hkpa (hKb _ _)
      refine wpIn_mono (hbody _ pre x a' _ hpx (hAx _ _ _ _ _ hax) (by simp; omega)) ?_
      have fin : ∀ (jump : Option Code) (W3 : World), Keeps2 w.heap.size (Wa.putObj (w.heap.size + 1) (.loop { rec .ready none with state := .busy })) W3 →
          (Instr.endRound (w.heap.size + 1) jump).run P W3 = .ok (.bool jump.isNone) (W3.putObj (w.heap.size + 1) (.loop (rec (if jump.isNone then .ready else .done) jump))) ∧
          (W3.putObj (w.heap.size + 1) (.loop (rec (if jump.isNone then .ready else .done) jump))).heap[w.heap.size + 1]? = some (.loop (rec (if jump.isNone then .ready else .done) jump)) ∧
          (W3.putObj (w.heap.size + 1) (.loop (rec (if jump.isNone then .ready else .done) jump))).heap[w.heap.size]? = some (.deferred (some [])) := fun jump W3 hk3 => by
        have hl3 := hk3.2.2.trans hl2
        have hr := run_endRound (P := P) jump hl3
        rw [hrec] at hr ⊢
        exact ⟨hr, rec_put _ _ (Array.getElem?_eq_some_iff.1 hl3).1, (def_put _ _).trans (hk3.2.1.trans hk2)⟩
      rintro e a3 W3 hp
      cases e with
      | normal =>
        obtain ⟨hk3, hkp3, hi3⟩ := hp
        obtain ⟨hr, hl4, hk4⟩ := fin none W3 hk3
        exact ⟨_, _, hr, .inl ⟨rfl, ⟨I_put _ _ _ hi3, hl4, hk4⟩, by rw [hsz]; exact hKt (hKt hkp2 hkp3) (hKb _ _)⟩⟩
      | ret =>
        obtain ⟨hk3, hi3⟩ := hp
        obtain ⟨hr, hl4, hk4⟩ := fin (some .ret) W3 hk3
        exact ⟨_, _, hr, .inr ⟨rfl, .ret, Ix_put _ _ _ _ hi3, hl4, hk4⟩⟩
      | exit id =>
        obtain ⟨hk3, hi3⟩ := hp
        obtain ⟨hr, hl4, hk4⟩ := fin (some (.exit id)) W3 hk3
        exact ⟨_, _, hr, .inr ⟨rfl, .exit id, Ix_put _ _ _ _ hi3, hl4, hk4⟩⟩
      | goto t => exact hp.elim
      | panic ch => exact hp.elim
      | outgrown => exact hp.elim

end Go.Proofs.YtminplfgadhnnaaGreatDoor
end

/- Small words for lists of numbers. -/
section
namespace Go.Proofs.YtminplfgadhnnaaGreatDoor
open Go.RowKit Go.Shelf

theorem Ints.alloc {w : World} {A : Option Addr} {n : Nat} {zs : List Int} (h : Ints w A n zs) (o : Obj) : Ints (w.alloc o) A n zs := h.below (balloc (Below.refl _ _) o)
theorem Ints.drewN {w : World} {A : Option Addr} {n : Nat} {zs : List Int} (h : Ints w A n zs) (k : Nat) : Ints (w.drewN k) A n zs := h
theorem Ints.drew {w : World} {A : Option Addr} {n : Nat} {zs : List Int} (h : Ints w A n zs) : Ints w.drew A n zs := h
theorem Ints.new1 (w : World) (H : Nat) (x : Int) (t : TypeId) (hH : w.heap.size = H) : Ints (w.alloc (.cells #[.int .i64 x] t)) (some ⟨H, 0, none⟩) 1 [x] := Ints.new w H [x] t hH
theorem Ints.new2 (w : World) (H : Nat) (x y : Int) (t : TypeId) (hH : w.heap.size = H) : Ints (w.alloc (.cells #[.int .i64 x, .int .i64 y] t)) (some ⟨H, 0, none⟩) 2 [x, y] := Ints.new w H [x, y] t hH
theorem Ints.nil (w : World) (A : Option Addr) : Ints w A 0 [] := ⟨rfl, fun h => absurd h (by omega)⟩
end Go.Proofs.YtminplfgadhnnaaGreatDoor
end

/- Appends of numbers that must grow. -/
section
namespace Go.Proofs.YtminplfgadhnnaaGreatDoor
open Go.RowKit Go.Shelf
set_option linter.unusedSimpArgs false
set_option linter.unusedVariables false

theorem Ints.nil_u (w : World) (A : Option Addr) : Ints w A 0 [] := ⟨rfl, fun h => absurd h (by omega)⟩

theorem addr_add (b off j : Nat) : (⟨b, off, none⟩ : Addr).add j = ⟨b, off + j, none⟩ := by
  unfold Addr.add; split
  · rename_i h; simp [h]
  · rfl

theorem Ints.reads {w : World} {A : Option Addr} {n : Nat} {zs : List Int} (h : Ints w A n zs) : ∀ b, A = some b → ∀ j u, (zs.map (Value.int .i64))[j]? = some u → w.cell? (b.add j) = some u := by
  intro ad had j u hu
  have hj : j < zs.length := by
    have := List.getElem?_eq_some_iff.1 hu
    obtain ⟨h1, _⟩ := this
    simpa using h1
  obtain ⟨b, off, hA, _, hc⟩ := h.2 (by rw [← h.1]; omega)
  rw [had] at hA
  injection hA with hA
  subst hA
  rw [addr_add, hc j (by rw [← h.1]; exact hj)]
  rw [List.getElem?_map, List.getElem?_eq_getElem hj] at hu
  rw [List.getD_eq_getElem?_getD, List.getElem?_eq_getElem hj]
  simpa using hu

theorem Ints.of_own {w : World} {B : Nat} {g n cap : Nat} {zs : List Int} (h : w.ownsRow B 2 1 (.slice (some ⟨g, 0, none⟩) n cap) n (zs.map (Value.int .i64))) : Ints w (some ⟨g, 0, none⟩) n zs := by
  obtain ⟨hl, h2⟩ := h
  simp at hl
  refine ⟨hl, fun hn => ?_⟩
  rcases h2 with ⟨hv, h0⟩ | ⟨g', cap', cur, hv, hB, hh, hn1, hn2, hcs, htake⟩
  · omega
  · injection hv with hv1 hv2 hv3
    injection hv1 with hv1
    injection hv1 with hv1
    subst hv1
    have hlt : g < w.heap.size := by
      rcases Nat.lt_or_ge g w.heap.size with hlt | hge
      · exact hlt
      · rw [Array.getElem?_eq_none hge] at hh; cases hh
    refine ⟨g, 0, rfl, hlt, fun i hi => ?_⟩
    have h1 := cell_of_row w g (0 + i) cur 2 (0, 0) hh
    rw [h1]
    have h3 : (cur.toList.take (n * 1))[i]? = (zs.map (Value.int .i64))[i]? := by rw [htake]
    have hil : i < zs.length := by omega
    rw [List.getElem?_take_of_lt (by omega), List.getElem?_map, List.getElem?_eq_getElem hil] at h3
    rw [List.getD_eq_getElem?_getD, List.getElem?_eq_getElem hil, Nat.zero_add]
    simpa using h3

theorem int_info : (Tryz.prog.info? 2).map (fun i => (i.zero, i.size, i.bytes)) = some (some (.int .i64 0), 1, 8) := by kernel_rfl

/-- an append of numbers that must grow: what the new slice reads as -/
theorem after_grow {w w' : World} {n m : Nat} {xs ys : List Int} {v : Value} (hpos : 0 < n + m) (h : w'.ownsRow w.heap.size 2 1 v (n + m) (xs.map (Value.int .i64) ++ ys.map (Value.int .i64))) (hg : w.grownBy w' none) :
    ∃ g c, v = .slice (some ⟨g, 0, none⟩) (n + m) c ∧ Ints w' (some ⟨g, 0, none⟩) (n + m) (xs ++ ys) ∧ n + m ≤ c ∧ Below w.heap.size w w' := by
  rw [← List.map_append] at h
  obtain ⟨g, c, rfl, _, _⟩ := World.ownsRow.form h hpos
  refine ⟨g, c, rfl, Ints.of_own h, ?_, (Below.refl _ w).grown hg (Nat.le_refl _) (fun k hk => by cases hk)⟩
  rcases h.2 with ⟨hv, _⟩ | ⟨g', cap', cur, hv, _, _, hn1, _⟩
  · cases hv
  · injection hv with _ _ hv3; omega

theorem step_appI {ops : Array Oper} {o : Oper} {a : Act} {w : World} {K : Act → World → Prop} {Q : Exit → Act → World → Prop} {E : Prop}
    (hg : o.guard = none) (s x : Operand) (hop : o.op = Op.call { callee := Callee.builtin Builtin.append, args := #[s, x], argTypes := #[22, 22] })
    (ao : Option Addr) (n cap : Nat) (xs : List Int) (hs : a.eval s = .slice ao n cap) (hxs : Ints w ao n xs) (hnone : ao = none → n = 0 ∧ cap = 0)
    (ap : Option Addr) (m c : Nat) (ys : List Int) (hx : a.eval x = .slice ap m c) (hys : Ints w ap m ys) (hm : 0 < m) (hfull : cap < n + m) (b1 : n + m ≤ 100000)
    (hK : ∀ g c' w', Ints w' (some ⟨g, 0, none⟩) (n + m) (xs ++ ys) → n + m ≤ c' → Below w.heap.size w w' → K (a.put o.dst (.slice (some ⟨g, 0, none⟩) (n + m) c')) w') :
    if Region.wanted o (yielded ops a.tmps) = true then Oper.wp Tryz.prog o a w K Q else E := by
  obtain ⟨i0, hi0, hz0, hz1, hz2⟩ := info_parts int_info
  obtain ⟨b, off, rfl, _, _⟩ := hys.2 hm
  refine step_append_grows hg s x 22 hop 2 i0 (.int .i64 0) 1 8 Tryz.underlying22 hi0 hz0 hz1 hz2 rfl (by omega) ao n cap (xs.map (Value.int .i64)) hs hnone (by simp [hxs.1]) hxs.reads
    ⟨b, off, none⟩ m c (ys.map (Value.int .i64)) hx (by simp [hys.1]) (hys.reads _ rfl) (by intro u hu; obtain ⟨y, _, rfl⟩ := List.mem_map.1 hu; rfl) hfull (by unfold maxLen; omega) (by omega) ?_
  intro v' w' h1 h2
  obtain ⟨g, c', rfl, h3, h4, h5⟩ := after_grow (by omega) h1 h2
  exact hK g c' w' h3 h4 h5

end Go.Proofs.YtminplfgadhnnaaGreatDoor
end

/- The walk of package unit's isPath, Path, Follow's parts. -/
section
namespace Go.Proofs.YtminplfgadhnnaaGreatDoor
open Go.RowKit Go.Shelf
set_option linter.unusedSimpArgs false
set_option linter.unusedVariables false
open Um (frac S4 spanB spanE sp on)

set_option maxHeartbeats 1000000 in
theorem on_any (p q p' q' n : Int) (w : World) (h1 : 0 ≤ p) (h2 : 0 ≤ q) (h3 : 0 ≤ p') (h4 : 0 ≤ q') (H1 : p ≤ 1000000000) (H2 : q ≤ 1000000000) (H3 : p' ≤ 1000000000) (H4 : q' ≤ 1000000000) (hn : 0 ≤ n) (hN : n ≤ 1000000000) :
    Calls Tryz.prog 149 #[.agg #[.int .i64 p, .int .i64 q, .int .i64 p', .int .i64 q'], .int .i64 n] w fun e w' => e = .returned (.agg #[.int .i64 (on (p, q, p', q') n).1, .int .i64 (on (p, q, p', q') n).2.1, .int .i64 (on (p, q, p', q') n).2.2.1, .int .i64 (on (p, q, p', q') n).2.2.2]) ∧ Below w.heap.size w w' := by
  have m1 : 0 ≤ n * p := Int.mul_nonneg hn h1
  have m2 : n * p ≤ 1000000000 * 1000000000 := Int.mul_le_mul hN H1 h1 (by omega)
  have m3 : 0 ≤ n * q := Int.mul_nonneg hn h2
  have m4 : n * q ≤ 1000000000 * 1000000000 := Int.mul_le_mul hN H2 h2 (by omega)
  unfold on
  go_enter Tryz.func149, Tryz.ntmps149
  go_wp2_with fail
  exact bodyPost_ret (v := .agg #[.int .i64 (n * p + p'), .int .i64 (n * q + q'), .int .i64 p, .int .i64 q]) (by simp [results, Tryz.results149, go_sem]) rfl ⟨rfl, (by repeat (first | with_reducible exact Below.refl _ _ | with_reducible assumption | with_reducible refine balloc ?_ _ | with_reducible refine bdrewN ?_ _ | with_reducible refine Below.drew ?_ | (with_reducible refine bset ?_ ?_ _; rotate_left; focus (first | assumption | omega | (simp; done) | (simp; omega))) | with_reducible refine bstep ?_ (by assumption) | assumption))⟩

set_option maxHeartbeats 1000000 in
theorem now_any (p q p' q' : Int) (w : World) :
    Calls Tryz.prog 47 #[.agg #[.int .i64 p, .int .i64 q, .int .i64 p', .int .i64 q']] w fun e w' => e = .returned (.agg #[.int .i64 p, .int .i64 q]) ∧ Below w.heap.size w w' := by
  go_enter Tryz.func47, Tryz.ntmps47
  go_wp2_with fail
  exact bodyPost_ret (v := .agg #[.int .i64 p, .int .i64 q]) (by simp [results, Tryz.results47, go_sem]) rfl ⟨rfl, (by repeat (first | with_reducible exact Below.refl _ _ | with_reducible assumption | with_reducible refine balloc ?_ _ | with_reducible refine bdrewN ?_ _ | with_reducible refine Below.drew ?_ | (with_reducible refine bset ?_ ?_ _; rotate_left; focus (first | assumption | omega | (simp; done) | (simp; omega))) | with_reducible refine bstep ?_ (by assumption) | assumption))⟩

end Go.Proofs.YtminplfgadhnnaaGreatDoor
end
