/- EB3 EB4 EB5 -/
import Derived.Test.YtcmllkjgggcghaaEZ05
/- Walks of package eye: CheckTest, Whole. -/
section
namespace Go.Proofs.Ytcmllkjgggcghaa
open Go.RowKit Go.Shelf
set_option linter.unusedSimpArgs false
set_option linter.unusedVariables false

/-- whether plates are a test, as an error -/
def testE (zs : List Pl) : Int :=
  if zs.length = 0 ∨ 6 < zs.length then 6 else if zs.any fewP = true then 6 else if zs.any neP = true then 15 else if zs.any badP = true then 2 else 0

theorem few_le {zs : List Pl} (h : zs.any fewP = false) : ∀ p ∈ zs, 2 ≤ p.gn ∧ p.gn ≤ 4 := by
  intro p hp
  have := List.any_eq_false.1 h p hp
  unfold fewP at this
  simp at this
  omega
theorem ne_eq {zs : List Pl} (h : zs.any neP = false) : ∀ p ∈ zs, p.en = p.gn := by
  intro p hp
  have := List.any_eq_false.1 h p hp
  unfold neP at this
  simpa using this

set_option maxHeartbeats 1000000 in
theorem checkTest_any (A : Option Addr) (n c : Nat) (zs : List Pl) (w : World) (hz : Plates w A n zs) (hn : n ≤ 9223372036854775807) :
    Calls Try.prog 40 #[.slice A n c] w fun e w' => e = .returned (.int .i64 (testE zs)) ∧ Below w.heap.size w w' := by
  have hl := hz.1
  unfold testE
  rw [hl]
  by_cases h0 : n = 0 ∨ 6 < n
  · rw [if_pos h0]
    by_cases h1 : n = 0
    · subst h1
      clear hz h0
      go_enter Try.func40, Try.ntmps40
      go_wp2_with fail
      go_ret
      exact ⟨rfl, blA⟩
    · have h1i : ¬ (n : Int) = 0 := by omega
      have h1b : ((n : Int) == 0) = false := by simp; omega
      have h2i : (6 : Int) < (n : Int) := by omega
      clear hz h0
      go_enter Try.func40, Try.ntmps40
      go_wp2_with fail
      go_ret
      exact ⟨rfl, blA⟩
  · rw [if_neg h0]
    have h1i : ¬ (n : Int) = 0 := by omega
    have h1b : ((n : Int) == 0) = false := by simp; omega
    have h2i : ¬ (6 : Int) < (n : Int) := by omega
    have k1 := fun (W : World) (hb : Below w.heap.size w W) => containsPlates_any A n c 70 zs #[] fewP W (enters_of Try.func70 (by kernel_rfl) rfl) (hz.below hb) hn (fun x _ W' hW => (fewC_any x W').mono fun _ _ ⟨h1, h2⟩ => ⟨h1, hW.trans (h2.mono hW.size)⟩)
    have k2 := fun (W : World) (hb : Below w.heap.size w W) => containsPlates_any A n c 71 zs #[] neP W (enters_of Try.func71 (by kernel_rfl) rfl) (hz.below hb) hn (fun x _ W' hW => (neC_any x W').mono fun _ _ ⟨h1, h2⟩ => ⟨h1, hW.trans (h2.mono hW.size)⟩)
    cases f1 : zs.any fewP with
    | true =>
      rw [f1] at k1
      rw [if_pos rfl]
      clear f1 hz h0 k2
      go_enter Try.func40, Try.ntmps40
      go_wp2_with fail
      refine (k1 _ blA).mono ?_
      rintro _ w1 ⟨rfl, hb1⟩
      replace hbw : Below w.heap.size w w1 := blA
      clear hb1
      go_wp2_with fail
      go_ret
      exact ⟨rfl, blA⟩
    | false =>
      have hfew := few_le f1
      rw [f1] at k1
      rw [if_neg (by decide)]
      cases f2 : zs.any neP with
      | true =>
        rw [f2] at k2
        rw [if_pos rfl]
        clear f1 f2 hz h0 hfew
        go_enter Try.func40, Try.ntmps40
        go_wp2_with fail
        refine (k1 _ blA).mono ?_
        rintro _ w1 ⟨rfl, hb1⟩
        replace hbw : Below w.heap.size w w1 := blA
        clear hb1
        go_wp2_with fail
        refine (k2 _ blA).mono ?_
        rintro _ w2 ⟨rfl, hb2⟩
        replace hbw : Below w.heap.size w w2 := blA
        clear hb2
        go_wp2_with fail
        go_ret
        exact ⟨rfl, blA⟩
      | false =>
        have hne := ne_eq f2
        rw [f2] at k2
        rw [if_neg (by decide)]
        have k3 := fun (W : World) (hb : Below w.heap.size w W) => containsPlates_any A n c 67 zs #[] badP W (enters_of Try.func67 (by kernel_rfl) rfl) (hz.below hb) hn (fun x hx W' hW => (badC_any x W' (((hz.2.2 x hx).below hb).below hW) (hfew x hx).2 (by rw [hne x hx]; exact (hfew x hx).2)).mono fun _ _ ⟨h1, h2⟩ => ⟨h1, hW.trans (h2.mono hW.size)⟩)
        cases f3 : zs.any badP with
        | true =>
          rw [f3] at k3
          rw [if_pos rfl]
          clear f1 f2 f3 hz h0 hfew hne
          go_enter Try.func40, Try.ntmps40
          go_wp2_with fail
          refine (k1 _ blA).mono ?_
          rintro _ w1 ⟨rfl, hb1⟩
          replace hbw : Below w.heap.size w w1 := blA
          clear hb1
          go_wp2_with fail
          refine (k2 _ blA).mono ?_
          rintro _ w2 ⟨rfl, hb2⟩
          replace hbw : Below w.heap.size w w2 := blA
          clear hb2
          go_wp2_with fail
          refine (k3 _ blA).mono ?_
          rintro _ w3 ⟨rfl, hb3⟩
          replace hbw : Below w.heap.size w w3 := blA
          clear hb3
          go_wp2_with fail
          go_ret
          exact ⟨rfl, blA⟩
        | false =>
          rw [f3] at k3
          rw [if_neg (by decide)]
          clear f1 f2 f3 hz h0 hfew hne
          go_enter Try.func40, Try.ntmps40
          go_wp2_with fail
          refine (k1 _ blA).mono ?_
          rintro _ w1 ⟨rfl, hb1⟩
          replace hbw : Below w.heap.size w w1 := blA
          clear hb1
          go_wp2_with fail
          refine (k2 _ blA).mono ?_
          rintro _ w2 ⟨rfl, hb2⟩
          replace hbw : Below w.heap.size w w2 := blA
          clear hb2
          go_wp2_with fail
          refine (k3 _ blA).mono ?_
          rintro _ w3 ⟨rfl, hb3⟩
          replace hbw : Below w.heap.size w w3 := blA
          clear hb3
          go_wp2_with fail
          go_ret
          exact ⟨rfl, blA⟩

end Go.Proofs.Ytcmllkjgggcghaa
end

/- Walks of package eye: Whole, newTest. -/
section
namespace Go.Proofs.Ytcmllkjgggcghaa
open Go.RowKit Go.Shelf
set_option linter.unusedSimpArgs false
set_option linter.unusedVariables false

/-- a plate of a valid test -/
structure Good (p : Pl) : Prop where
  g2 : 2 ≤ p.gn
  g4 : p.gn ≤ 4
  en : p.en = p.gn
  gs0 : ∀ x ∈ p.gs, 0 ≤ x
  es0 : ∀ x ∈ p.es, 0 ≤ x
  s1 : 1 ≤ p.gs.sum
  s20 : p.gs.sum ≤ 20
  eq : p.gs.sum = p.es.sum

theorem good_of {p : Pl} (h1 : fewP p = false) (h2 : neP p = false) (h3 : badP p = false) : Good p := by
  unfold fewP at h1
  unfold neP at h2
  unfold badP at h3
  simp only [Bool.or_eq_false_iff, decide_eq_false_iff_not, Bool.not_eq_false'] at h1 h2 h3
  obtain ⟨⟨⟨b1, b2⟩, b3⟩, b4⟩ := h3
  obtain ⟨c1, _⟩ := okn_bd p.gs b1
  obtain ⟨c2, _⟩ := okn_bd p.es b2
  have c3 : 1 ≤ p.gs.sum ∧ p.gs.sum ≤ 20 := by simp [okn, out] at b3; omega
  exact ⟨by omega, by omega, by simpa using h2, c1, c2, c3.1, c3.2, by simpa using b4⟩

theorem testE_ok {zs : List Pl} (h : testE zs = 0) : 1 ≤ zs.length ∧ zs.length ≤ 6 ∧ ∀ p ∈ zs, Good p := by
  unfold testE at h
  split at h
  · exact absurd h (by decide)
  · rename_i h0
    split at h
    · exact absurd h (by decide)
    · rename_i h1
      split at h
      · exact absurd h (by decide)
      · rename_i h2
        split at h
        · exact absurd h (by decide)
        · rename_i h3
          refine ⟨by omega, by omega, fun p hp => ?_⟩
          have f := fun q (hq : ¬ zs.any q = true) => List.any_eq_false.1 (by simpa using hq : zs.any q = false) p hp
          exact good_of (by simpa using f _ h1) (by simpa using f _ h2) (by simpa using f _ h3)

theorem foldl_next {α β : Type} (f : β → α → β) (a : β) {l : List α} {k : Nat} {p : α} (h : l[k]? = some p) : (l.take (k + 1)).foldl f a = f ((l.take k).foldl f a) p := by
  rw [List.take_add_one, h, List.foldl_append]; rfl

/-- in how many parts the odds of a test are counted -/
def whole (zs : List Pl) : Int := zs.foldl (fun a p => a * p.gs.sum) 1
/-- how many outcomes a test has -/
def manyT (zs : List Pl) : Nat := zs.foldl (fun a p => a * p.gn) 1

theorem whole_next {zs : List Pl} {k : Nat} {p : Pl} (h : zs[k]? = some p) : whole (zs.take (k + 1)) = whole (zs.take k) * p.gs.sum := foldl_next _ _ h
theorem many_next {zs : List Pl} {k : Nat} {p : Pl} (h : zs[k]? = some p) : manyT (zs.take (k + 1)) = manyT (zs.take k) * p.gn := foldl_next _ _ h

theorem whole_bd {zs : List Pl} (hg : ∀ p ∈ zs, Good p) : ∀ k, k ≤ zs.length → 1 ≤ whole (zs.take k) ∧ whole (zs.take k) ≤ 20 ^ k
  | 0, _ => by simp [whole]
  | k + 1, hk => by
    have hl : k < zs.length := by omega
    have hget : zs[k]? = some zs[k] := List.getElem?_eq_getElem hl
    obtain ⟨h1, h2⟩ := whole_bd hg k (by omega)
    have g := hg zs[k] (List.getElem_mem hl)
    have s1 := g.s1
    have s2 := g.s20
    have e : whole (zs.take (k + 1)) = whole (zs.take k) * zs[k].gs.sum := foldl_next _ _ hget
    rw [e, Int.pow_succ]
    have m1 := Int.mul_le_mul h1 s1 (by omega) (by omega)
    have m2 := Int.mul_le_mul h2 s2 (by omega) (Int.le_trans (by omega) h2)
    omega
theorem many_bd {zs : List Pl} (hg : ∀ p ∈ zs, Good p) : ∀ k, k ≤ zs.length → 1 ≤ manyT (zs.take k) ∧ manyT (zs.take k) ≤ 4 ^ k
  | 0, _ => by simp [manyT]
  | k + 1, hk => by
    have hl : k < zs.length := by omega
    have hget : zs[k]? = some zs[k] := List.getElem?_eq_getElem hl
    obtain ⟨h1, h2⟩ := many_bd hg k (by omega)
    have g := hg zs[k] (List.getElem_mem hl)
    have s1 := g.g2
    have s2 := g.g4
    have e : manyT (zs.take (k + 1)) = manyT (zs.take k) * zs[k].gn := foldl_next _ _ hget
    rw [e, Nat.pow_succ]
    have m1 := Nat.mul_le_mul h1 s1
    have m2 := Nat.mul_le_mul h2 s2
    omega
theorem pow20 : ∀ k, k < 7 → (20 : Int) ^ k ≤ 64000000 := by decide
theorem pow4 : ∀ k, k < 7 → 4 ^ k ≤ 4096 := by decide

/-- a number and an error -/
def RetNE (r : Int × Int) : Ending := .returned (.tuple #[.int .i64 r.1, .int .i64 r.2])

set_option maxRecDepth 10000 in
set_option maxHeartbeats 1000000 in
theorem whole_any (A : Option Addr) (n c : Nat) (zs : List Pl) (w : World) (hz : Plates w A n zs) (hn : n ≤ 9223372036854775807) :
    Calls Try.prog 34 #[.slice A n c] w fun e w' => e = RetNE (if testE zs = 0 then (whole zs, 0) else (0, testE zs)) ∧ Below w.heap.size w w' := by
  have k1 := fun (W : World) (hb : Below w.heap.size w W) => checkTest_any A n c zs W (hz.below hb) hn
  unfold RetNE
  by_cases ht : testE zs = 0
  · rw [if_pos ht]
    rw [ht] at k1
    obtain ⟨t1, t2, hg⟩ := testE_ok ht
    have hl := hz.1
    have Hz := Lib.hid hz
    have Hg := Lib.hid hg
    have HW := Lib.hid (fun k hk => whole_bd hg k hk)
    generalize hR : whole zs = R at *
    have HR := Lib.hid hR
    clear hz hg ht hR
    have n6 : n ≤ 6 := by omega
    go_enter Try.func34, Try.ntmps34
    go_wp2_with fail
    refine (k1 _ blA).mono ?_
    rintro _ w1 ⟨rfl, hb1⟩
    replace hbw : Below w.heap.size w w1 := blA
    clear hb1
    clear k1
    go_wp2_with fail
    go_loopw [5, 15] (fun s5 s15 wx => ∃ (k : Nat) (x : Int) (W : World), k ≤ n ∧ s15 = .int .i64 k ∧ s5 = .int .i64 x ∧ Hid (W = wx) ∧ Hid (x = whole (zs.take k)) ∧ Below w.heap.size w W) (fun _ s15 _ => n - (intOf s15).toNat)
    case atStart => exact ⟨0, 1, _, Nat.zero_le _, rfl, rfl, Lib.hid rfl, Lib.hid (by simp [whole]), hbw⟩
    case round =>
      clear hbw
      obtain ⟨k, x, W, hk, rfl, rfl, HWx, Hx, hbw⟩ := hrel
      obtain rfl := HWx.out
      clear HWx
      by_cases hkn : k < n
      · have hkI : (k : Int) < (n : Int) := by omega
        obtain ⟨b, off, p, rfl, hget, c0, c1⟩ := Hz.out.at_ hbw hkn
        have hmem := List.mem_of_getElem? hget
        have g := Hg.out p hmem
        have hok := Hz.out.2.2 p hmem
        have g4 := g.g4
        have s1 := g.s1
        have s20 := g.s20
        have kt := fun (V : World) (hb : Below w.heap.size w V) => total_any p.gA p.gn p.gc p.gs V (hok.1.below hb) (by omega) g.gs0 (by omega) _ rfl
        have Hx2 : Hid (x * p.gs.sum = whole (zs.take (k + 1))) := Lib.hid (by rw [Hx.out]; exact (whole_next hget).symm)
        have hb2 := HW.out (k + 1) (by omega)
        have hp20 := pow20 (k + 1) (by omega)
        have f1 : IntKind.i64.wrap (x * p.gs.sum) = x * p.gs.sum := by rw [Hx2.out]; exact IntWalk.i64_in _ ⟨by omega, by omega⟩
        clear hget hmem g hok hb2 hp20 Hx
        obtain ⟨gA, gn, gc, gs, eA, en, ec, es⟩ := p
        dsimp only at *
        generalize gs.sum = s at *
        go_wp2_with fail
        refine (kt _ blA).mono ?_
        rintro _ w2 ⟨rfl, hb2⟩
        replace hbw : Below w.heap.size w w2 := blA
        clear hb2
        go_wp2_with fail
        go_roundw
        case rel => exact ⟨k + 1, x * s, _, by omega, by go_num, rfl, Lib.hid rfl, Hx2, hbw⟩
        case measure => simp [intOf]; omega
      · obtain rfl : k = n := by omega
        have hf : x = R := by rw [Hx.out, ← HR.out, List.take_of_length_le (by omega)]
        subst hf
        clear Hx HR
        go_wp2_with fail
        go_ret2
        exact ⟨rfl, blA⟩
  · rw [if_neg ht]
    have h0 : (testE zs == 0) = false := by simp [ht]
    have h1 : (testE zs != 0) = true := by simp [ht]
    generalize testE zs = e at *
    clear hz
    go_enter Try.func34, Try.ntmps34
    go_wp2_with fail
    refine (k1 _ blA).mono ?_
    rintro _ w1 ⟨rfl, hb1⟩
    replace hbw : Below w.heap.size w w1 := blA
    clear hb1
    go_wp2_with fail
    go_ret2
    exact ⟨rfl, blA⟩

end Go.Proofs.Ytcmllkjgggcghaa
end

/- Walks of package eye: newTest. -/
section
namespace Go.Proofs.Ytcmllkjgggcghaa
open Go.RowKit Go.Shelf
set_option linter.unusedSimpArgs false
set_option linter.unusedVariables false

/-- a new test is handed back -/
def RetTest (A : Option Addr) (n c : Nat) (zs : List Pl) (w : World) (e : Ending) (w' : World) : Prop :=
  ∃ g : Nat, e = .returned (.tuple #[.pointer (some ⟨g, 0, none⟩), .int .i64 0]) ∧ w.heap.size ≤ g ∧ Cs w' g #[.slice A n c, .int .i64 (manyT zs : Nat)] ∧ Below w.heap.size w w'

set_option maxHeartbeats 400000 in
theorem newTest_bad (A : Option Addr) (n c : Nat) (zs : List Pl) (w : World) (hz : Plates w A n zs) (hn : n ≤ 9223372036854775807) (ht : testE zs ≠ 0) :
    Calls Try.prog 47 #[.slice A n c] w fun e w' => e = .returned (.tuple #[.pointer none, .int .i64 (testE zs)]) ∧ Below w.heap.size w w' := by
  have k1 := fun (W : World) (hb : Below w.heap.size w W) => checkTest_any A n c zs W (hz.below hb) hn
  have h0 : (testE zs == 0) = false := by simp [ht]
  have h1 : (testE zs != 0) = true := by simp [ht]
  generalize testE zs = e at *
  clear hz
  go_enter Try.func47, Try.ntmps47
  go_wp2_with fail
  refine (k1 _ blA).mono ?_
  rintro _ w1 ⟨rfl, hb1⟩
  replace hbw : Below w.heap.size w w1 := blA
  clear hb1
  go_wp2_with fail
  go_ret2
  exact ⟨rfl, blA⟩

set_option maxRecDepth 10000 in
set_option maxHeartbeats 2000000 in
theorem newTest_ok (A : Option Addr) (n c : Nat) (zs : List Pl) (w : World) (hz : Plates w A n zs) (hn : n ≤ 9223372036854775807) (ht : testE zs = 0) :
    Calls Try.prog 47 #[.slice A n c] w (RetTest A n c zs w) := by
  have k1 := fun (W : World) (hb : Below w.heap.size w W) => checkTest_any A n c zs W (hz.below hb) hn
  rw [ht] at k1
  obtain ⟨t1, t2, hg⟩ := testE_ok ht
  have hl := hz.1
  have Hz := Lib.hid hz
  have Hg := Lib.hid hg
  have HM := Lib.hid (fun k hk => many_bd hg k hk)
  unfold RetTest
  generalize hR : manyT zs = R at *
  have HR := Lib.hid hR
  clear hz hg ht hR
  have n6 : n ≤ 6 := by omega
  go_enter Try.func47, Try.ntmps47
  go_wp2_with fail
  refine (k1 _ blA).mono ?_
  rintro _ w1 ⟨rfl, hb1⟩
  replace hbw : Below w.heap.size w w1 := blA
  clear hb1
  clear k1
  go_wp2_with fail
  have hw1 : w.heap.size ≤ w1.heap.size := hbw.size
  have Bt : Cs (w1.alloc (.cells #[.slice A n c, .int .i64 1] 110)) w1.heap.size #[.slice A n c, .int .i64 1] := csA
  replace hbw := balloc hbw (.cells #[.slice A n c, .int .i64 1] 110)
  generalize w1.alloc (.cells #[.slice A n c, .int .i64 1] 110) = w2 at *
  generalize w1.heap.size = g at *
  go_loopw [18] (fun s18 wx => ∃ (k m : Nat) (W : World), k ≤ n ∧ s18 = .int .i64 k ∧ Hid (W = wx) ∧ Hid (m = manyT (zs.take k)) ∧ Cs W g #[.slice A n c, .int .i64 (m : Nat)] ∧ Below w.heap.size w W) (fun s18 _ => n - (intOf s18).toNat)
  case atStart => exact ⟨0, 1, _, Nat.zero_le _, rfl, Lib.hid rfl, Lib.hid (by simp [manyT]), Bt, hbw⟩
  case round =>
    clear hbw Bt
    obtain ⟨k, m, W, hk, rfl, HWx, Hm, Bt, hbw⟩ := hrel
    obtain rfl := HWx.out
    clear HWx
    by_cases hkn : k < n
    · have hkI : (k : Int) < (n : Int) := by omega
      obtain ⟨b, off, p, rfl, hget, c0, c1⟩ := Hz.out.at_ hbw hkn
      have hmem := List.mem_of_getElem? hget
      have g4 := (Hg.out p hmem).g4
      have Hm2 : Hid (m * p.gn = manyT (zs.take (k + 1))) := Lib.hid (by rw [Hm.out]; exact (many_next hget).symm)
      have hb2 := HM.out (k + 1) (by omega)
      have hp4 := pow4 (k + 1) (by omega)
      have hle : m * p.gn ≤ 4096 := by rw [Hm2.out]; omega
      have f1 : IntKind.i64.wrap ((m : Int) * (p.gn : Int)) = ((m * p.gn : Nat) : Int) := by
        rw [← Int.natCast_mul]; exact IntWalk.i64_in _ (by omega)
      clear hget hmem hb2 hp4 Hm hle g4
      have hne : g ≠ W.heap.size := by have := Bt.lt; omega
      obtain ⟨gA, gn, gc, gs, eA, en, ec, es⟩ := p
      dsimp only at *
      have cBt := Bt.c
      have fBt := Bt.f
      have lBt := Bt.lt
      go_wp2_with fail
      have Bx : Cs (W.alloc (.cells #[.slice gA gn gc, .slice eA en ec] 73)) W.heap.size #[.slice gA gn gc, .slice eA en ec] := csA
      have Bt2 := Bt.alloc (.cells #[.slice gA gn gc, .slice eA en ec] 73)
      replace hbw := balloc hbw (.cells #[.slice gA gn gc, .slice eA en ec] 73)
      clear Bt cBt fBt lBt
      generalize W.alloc (.cells #[.slice gA gn gc, .slice eA en ec] 73) = W2 at *
      generalize W.heap.size = gx at *
      have cBx := Bx.c
      have fBx := Bx.f
      have lBx := Bx.lt
      have cBt2 := Bt2.c
      have fBt2 := Bt2.f
      have lBt2 := Bt2.lt
      go_region
      have Bt3 : Cs ((W2.setCell ⟨g, 1, none⟩ (.int .i64 ((m : Int) * (gn : Int)))).drew) g #[.slice (some ⟨b, off, none⟩) n c, .int .i64 ((m * gn : Nat) : Int)] := by
        rw [Int.natCast_mul]
        exact (Bt2.set 1 (.int .i64 ((m : Int) * (gn : Int))) (by simp)).drew
      have hbw3 : Below w.heap.size w ((W2.setCell ⟨g, 1, none⟩ (.int .i64 ((m : Int) * (gn : Int)))).drew) := (bset hbw (p := ⟨g, 1, none⟩) hw1 _).drew
      go_wp2_with fail
      go_roundw
      case rel => exact ⟨k + 1, m * gn, _, by omega, by go_num, Lib.hid rfl, Hm2, Bt3, hbw3⟩
      case measure => simp [intOf]; omega
    · obtain rfl : k = n := by omega
      have hf : m = R := by rw [Hm.out, ← HR.out, List.take_of_length_le (by omega)]
      subst hf
      clear Hm HR
      have cBt := Bt.c
      have fBt := Bt.f
      have lBt := Bt.lt
      go_wp2_with fail
      go_ret2
      exact ⟨g, rfl, hw1, Bt, blA⟩

end Go.Proofs.Ytcmllkjgggcghaa
end
