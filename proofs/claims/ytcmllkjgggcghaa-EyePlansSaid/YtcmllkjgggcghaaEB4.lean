/- Walks of package eye: Whole, newTest. -/
import Derived.Test.YtcmllkjgggcghaaEB3
namespace Go.Proofs.Ytcmllkjgggcghaa
open Go.RowKit Go.Shelf
set_option linter.unusedSimpArgs false
set_option linter.unusedVariables false

/-- a plate of a valid test -/
structure Good (p : Pl) : Prop where
  g2 : 2 ≤ p.gn
  g4 : p.gn ≤ 4
  en : p.en = p.gn
  gs0 : ∀ x ∈ p.gs, 0 ≤ x
  es0 : ∀ x ∈ p.es, 0 ≤ x
  s1 : 1 ≤ p.gs.sum
  s20 : p.gs.sum ≤ 20
  eq : p.gs.sum = p.es.sum

theorem good_of {p : Pl} (h1 : fewP p = false) (h2 : neP p = false) (h3 : badP p = false) : Good p := by
  unfold fewP at h1
  unfold neP at h2
  unfold badP at h3
  simp only [Bool.or_eq_false_iff, decide_eq_false_iff_not, Bool.not_eq_false'] at h1 h2 h3
  obtain ⟨⟨⟨b1, b2⟩, b3⟩, b4⟩ := h3
  obtain ⟨c1, _⟩ := okn_bd p.gs b1
  obtain ⟨c2, _⟩ := okn_bd p.es b2
  have c3 : 1 ≤ p.gs.sum ∧ p.gs.sum ≤ 20 := by simp [okn, out] at b3; omega
  exact ⟨by omega, by omega, by simpa using h2, c1, c2, c3.1, c3.2, by simpa using b4⟩

theorem testE_ok {zs : List Pl} (h : testE zs = 0) : 1 ≤ zs.length ∧ zs.length ≤ 6 ∧ ∀ p ∈ zs, Good p := by
  unfold testE at h
  split at h
  · exact absurd h (by decide)
  · rename_i h0
    split at h
    · exact absurd h (by decide)
    · rename_i h1
      split at h
      · exact absurd h (by decide)
      · rename_i h2
        split at h
        · exact absurd h (by decide)
        · rename_i h3
          refine ⟨by omega, by omega, fun p hp => ?_⟩
          have f := fun q (hq : ¬ zs.any q = true) => List.any_eq_false.1 (by simpa using hq : zs.any q = false) p hp
          exact good_of (by simpa using f _ h1) (by simpa using f _ h2) (by simpa using f _ h3)

theorem foldl_next {α β : Type} (f : β → α → β) (a : β) {l : List α} {k : Nat} {p : α} (h : l[k]? = some p) : (l.take (k + 1)).foldl f a = f ((l.take k).foldl f a) p := by
  rw [List.take_add_one, h, List.foldl_append]; rfl

/-- in how many parts the odds of a test are counted -/
def whole (zs : List Pl) : Int := zs.foldl (fun a p => a * p.gs.sum) 1
/-- how many outcomes a test has -/
def manyT (zs : List Pl) : Nat := zs.foldl (fun a p => a * p.gn) 1

theorem whole_next {zs : List Pl} {k : Nat} {p : Pl} (h : zs[k]? = some p) : whole (zs.take (k + 1)) = whole (zs.take k) * p.gs.sum := foldl_next _ _ h
theorem many_next {zs : List Pl} {k : Nat} {p : Pl} (h : zs[k]? = some p) : manyT (zs.take (k + 1)) = manyT (zs.take k) * p.gn := foldl_next _ _ h

theorem whole_bd {zs : List Pl} (hg : ∀ p ∈ zs, Good p) : ∀ k, k ≤ zs.length → 1 ≤ whole (zs.take k) ∧ whole (zs.take k) ≤ 20 ^ k
  | 0, _ => by simp [whole]
  | k + 1, hk => by
    have hl : k < zs.length := by omega
    have hget : zs[k]? = some zs[k] := List.getElem?_eq_getElem hl
    obtain ⟨h1, h2⟩ := whole_bd hg k (by omega)
    have g := hg zs[k] (List.getElem_mem hl)
    have s1 := g.s1
    have s2 := g.s20
    have e : whole (zs.take (k + 1)) = whole (zs.take k) * zs[k].gs.sum := foldl_next _ _ hget
    rw [e, Int.pow_succ]
    have m1 := Int.mul_le_mul h1 s1 (by omega) (by omega)
    have m2 := Int.mul_le_mul h2 s2 (by omega) (Int.le_trans (by omega) h2)
    omega
theorem many_bd {zs : List Pl} (hg : ∀ p ∈ zs, Good p) : ∀ k, k ≤ zs.length → 1 ≤ manyT (zs.take k) ∧ manyT (zs.take k) ≤ 4 ^ k
  | 0, _ => by simp [manyT]
  | k + 1, hk => by
    have hl : k < zs.length := by omega
    have hget : zs[k]? = some zs[k] := List.getElem?_eq_getElem hl
    obtain ⟨h1, h2⟩ := many_bd hg k (by omega)
    have g := hg zs[k] (List.getElem_mem hl)
    have s1 := g.g2
    have s2 := g.g4
    have e : manyT (zs.take (k + 1)) = manyT (zs.take k) * zs[k].gn := foldl_next _ _ hget
    rw [e, Nat.pow_succ]
    have m1 := Nat.mul_le_mul h1 s1
    have m2 := Nat.mul_le_mul h2 s2
    omega
theorem pow20 : ∀ k, k < 7 → (20 : Int) ^ k ≤ 64000000 := by decide
theorem pow4 : ∀ k, k < 7 → 4 ^ k ≤ 4096 := by decide

/-- a number and an error -/
def RetNE (r : Int × Int) : Ending := .returned (.tuple #[.int .i64 r.1, .int .i64 r.2])

set_option maxRecDepth 10000 in
set_option maxHeartbeats 1000000 in
theorem whole_any (A : Option Addr) (n c : Nat) (zs : List Pl) (w : World) (hz : Plates w A n zs) (hn : n ≤ 9223372036854775807) :
    Calls Try.prog 34 #[.slice A n c] w fun e w' => e = RetNE (if testE zs = 0 then (whole zs, 0) else (0, testE zs)) ∧ Below w.heap.size w w' := by
  have k1 := fun (W : World) (hb : Below w.heap.size w W) => checkTest_any A n c zs W (hz.below hb) hn
  unfold RetNE
  by_cases ht : testE zs = 0
  · rw [if_pos ht]
    rw [ht] at k1
    obtain ⟨t1, t2, hg⟩ := testE_ok ht
    have hl := hz.1
    have Hz := Lib.hid hz
    have Hg := Lib.hid hg
    have HW := Lib.hid (fun k hk => whole_bd hg k hk)
    generalize hR : whole zs = R at *
    have HR := Lib.hid hR
    clear hz hg ht hR
    have n6 : n ≤ 6 := by omega
    go_enter Try.func34, Try.ntmps34
    go_wp2_with fail
    refine (k1 _ (by repeat (first | with_reducible exact Below.refl _ _ | with_reducible assumption | with_reducible refine balloc ?_ _ | with_reducible refine bdrewN ?_ _ | with_reducible refine Below.drew ?_ | (with_reducible refine bset ?_ ?_ _; rotate_left; focus (first | assumption | omega | (simp; done) | (simp; omega))) | with_reducible refine bstep ?_ (by assumption) | assumption))).mono ?_
    rintro _ w1 ⟨rfl, hb1⟩
    replace hbw : Below w.heap.size w w1 := (by repeat (first | with_reducible exact Below.refl _ _ | with_reducible assumption | with_reducible refine balloc ?_ _ | with_reducible refine bdrewN ?_ _ | with_reducible refine Below.drew ?_ | (with_reducible refine bset ?_ ?_ _; rotate_left; focus (first | assumption | omega | (simp; done) | (simp; omega))) | with_reducible refine bstep ?_ (by assumption) | assumption))
    clear hb1
    clear k1
    go_wp2_with fail
    go_loopw [5, 15] (fun s5 s15 wx => ∃ (k : Nat) (x : Int) (W : World), k ≤ n ∧ s15 = .int .i64 k ∧ s5 = .int .i64 x ∧ Hid (W = wx) ∧ Hid (x = whole (zs.take k)) ∧ Below w.heap.size w W) (fun _ s15 _ => n - (intOf s15).toNat)
    case atStart => exact ⟨0, 1, _, Nat.zero_le _, rfl, rfl, Lib.hid rfl, Lib.hid (by simp [whole]), hbw⟩
    case round =>
      clear hbw
      obtain ⟨k, x, W, hk, rfl, rfl, HWx, Hx, hbw⟩ := hrel
      obtain rfl := HWx.out
      clear HWx
      by_cases hkn : k < n
      · have hkI : (k : Int) < (n : Int) := by omega
        obtain ⟨b, off, p, rfl, hget, c0, c1⟩ := Hz.out.at_ hbw hkn
        have hmem := List.mem_of_getElem? hget
        have g := Hg.out p hmem
        have hok := Hz.out.2.2 p hmem
        have g4 := g.g4
        have s1 := g.s1
        have s20 := g.s20
        have kt := fun (V : World) (hb : Below w.heap.size w V) => total_any p.gA p.gn p.gc p.gs V (hok.1.below hb) (by omega) g.gs0 (by omega) _ rfl
        have Hx2 : Hid (x * p.gs.sum = whole (zs.take (k + 1))) := Lib.hid (by rw [Hx.out]; exact (whole_next hget).symm)
        have hb2 := HW.out (k + 1) (by omega)
        have hp20 := pow20 (k + 1) (by omega)
        have f1 : IntKind.i64.wrap (x * p.gs.sum) = x * p.gs.sum := by rw [Hx2.out]; exact IntWalk.i64_in _ ⟨by omega, by omega⟩
        clear hget hmem g hok hb2 hp20 Hx
        obtain ⟨gA, gn, gc, gs, eA, en, ec, es⟩ := p
        dsimp only at *
        generalize gs.sum = s at *
        go_wp2_with fail
        refine (kt _ (by repeat (first | with_reducible exact Below.refl _ _ | with_reducible assumption | with_reducible refine balloc ?_ _ | with_reducible refine bdrewN ?_ _ | with_reducible refine Below.drew ?_ | (with_reducible refine bset ?_ ?_ _; rotate_left; focus (first | assumption | omega | (simp; done) | (simp; omega))) | with_reducible refine bstep ?_ (by assumption) | assumption))).mono ?_
        rintro _ w2 ⟨rfl, hb2⟩
        replace hbw : Below w.heap.size w w2 := (by repeat (first | with_reducible exact Below.refl _ _ | with_reducible assumption | with_reducible refine balloc ?_ _ | with_reducible refine bdrewN ?_ _ | with_reducible refine Below.drew ?_ | (with_reducible refine bset ?_ ?_ _; rotate_left; focus (first | assumption | omega | (simp; done) | (simp; omega))) | with_reducible refine bstep ?_ (by assumption) | assumption))
        clear hb2
        go_wp2_with fail
        go_roundw
        case rel => exact ⟨k + 1, x * s, _, by omega, by go_num, rfl, Lib.hid rfl, Hx2, hbw⟩
        case measure => simp [intOf]; omega
      · obtain rfl : k = n := by omega
        have hf : x = R := by rw [Hx.out, ← HR.out, List.take_of_length_le (by omega)]
        subst hf
        clear Hx HR
        go_wp2_with fail
        go_ret2
        exact ⟨rfl, (by repeat (first | with_reducible exact Below.refl _ _ | with_reducible assumption | with_reducible refine balloc ?_ _ | with_reducible refine bdrewN ?_ _ | with_reducible refine Below.drew ?_ | (with_reducible refine bset ?_ ?_ _; rotate_left; focus (first | assumption | omega | (simp; done) | (simp; omega))) | with_reducible refine bstep ?_ (by assumption) | assumption))⟩
  · rw [if_neg ht]
    have h0 : (testE zs == 0) = false := by simp [ht]
    have h1 : (testE zs != 0) = true := by simp [ht]
    generalize testE zs = e at *
    clear hz
    go_enter Try.func34, Try.ntmps34
    go_wp2_with fail
    refine (k1 _ (by repeat (first | with_reducible exact Below.refl _ _ | with_reducible assumption | with_reducible refine balloc ?_ _ | with_reducible refine bdrewN ?_ _ | with_reducible refine Below.drew ?_ | (with_reducible refine bset ?_ ?_ _; rotate_left; focus (first | assumption | omega | (simp; done) | (simp; omega))) | with_reducible refine bstep ?_ (by assumption) | assumption))).mono ?_
    rintro _ w1 ⟨rfl, hb1⟩
    replace hbw : Below w.heap.size w w1 := (by repeat (first | with_reducible exact Below.refl _ _ | with_reducible assumption | with_reducible refine balloc ?_ _ | with_reducible refine bdrewN ?_ _ | with_reducible refine Below.drew ?_ | (with_reducible refine bset ?_ ?_ _; rotate_left; focus (first | assumption | omega | (simp; done) | (simp; omega))) | with_reducible refine bstep ?_ (by assumption) | assumption))
    clear hb1
    go_wp2_with fail
    go_ret2
    exact ⟨rfl, (by repeat (first | with_reducible exact Below.refl _ _ | with_reducible assumption | with_reducible refine balloc ?_ _ | with_reducible refine bdrewN ?_ _ | with_reducible refine Below.drew ?_ | (with_reducible refine bset ?_ ?_ _; rotate_left; focus (first | assumption | omega | (simp; done) | (simp; omega))) | with_reducible refine bstep ?_ (by assumption) | assumption))⟩

end Go.Proofs.Ytcmllkjgggcghaa
