/- Walks of package eye: newTest. -/
import Derived.Test.YtcmllkjgggcghaaEB4
namespace Go.Proofs.Ytcmllkjgggcghaa
open Go.RowKit Go.Shelf
set_option linter.unusedSimpArgs false
set_option linter.unusedVariables false

/-- a new test is handed back -/
def RetTest (A : Option Addr) (n c : Nat) (zs : List Pl) (w : World) (e : Ending) (w' : World) : Prop :=
  ∃ g : Nat, e = .returned (.tuple #[.pointer (some ⟨g, 0, none⟩), .int .i64 0]) ∧ w.heap.size ≤ g ∧ Cs w' g #[.slice A n c, .int .i64 (manyT zs : Nat)] ∧ Below w.heap.size w w'

set_option maxHeartbeats 400000 in
theorem newTest_bad (A : Option Addr) (n c : Nat) (zs : List Pl) (w : World) (hz : Plates w A n zs) (hn : n ≤ 9223372036854775807) (ht : testE zs ≠ 0) :
    Calls Try.prog 47 #[.slice A n c] w fun e w' => e = .returned (.tuple #[.pointer none, .int .i64 (testE zs)]) ∧ Below w.heap.size w w' := by
  have k1 := fun (W : World) (hb : Below w.heap.size w W) => checkTest_any A n c zs W (hz.below hb) hn
  have h0 : (testE zs == 0) = false := by simp [ht]
  have h1 : (testE zs != 0) = true := by simp [ht]
  generalize testE zs = e at *
  clear hz
  go_enter Try.func47, Try.ntmps47
  go_wp2_with fail
  refine (k1 _ (by repeat (first | with_reducible exact Below.refl _ _ | with_reducible assumption | with_reducible refine balloc ?_ _ | with_reducible refine bdrewN ?_ _ | with_reducible refine Below.drew ?_ | (with_reducible refine bset ?_ ?_ _; rotate_left; focus (first | assumption | omega | (simp; done) | (simp; omega))) | with_reducible refine bstep ?_ (by assumption) | assumption))).mono ?_
  rintro _ w1 ⟨rfl, hb1⟩
  replace hbw : Below w.heap.size w w1 := (by repeat (first | with_reducible exact Below.refl _ _ | with_reducible assumption | with_reducible refine balloc ?_ _ | with_reducible refine bdrewN ?_ _ | with_reducible refine Below.drew ?_ | (with_reducible refine bset ?_ ?_ _; rotate_left; focus (first | assumption | omega | (simp; done) | (simp; omega))) | with_reducible refine bstep ?_ (by assumption) | assumption))
  clear hb1
  go_wp2_with fail
  go_ret2
  exact ⟨rfl, (by repeat (first | with_reducible exact Below.refl _ _ | with_reducible assumption | with_reducible refine balloc ?_ _ | with_reducible refine bdrewN ?_ _ | with_reducible refine Below.drew ?_ | (with_reducible refine bset ?_ ?_ _; rotate_left; focus (first | assumption | omega | (simp; done) | (simp; omega))) | with_reducible refine bstep ?_ (by assumption) | assumption))⟩

set_option maxRecDepth 10000 in
set_option maxHeartbeats 2000000 in
theorem newTest_ok (A : Option Addr) (n c : Nat) (zs : List Pl) (w : World) (hz : Plates w A n zs) (hn : n ≤ 9223372036854775807) (ht : testE zs = 0) :
    Calls Try.prog 47 #[.slice A n c] w (RetTest A n c zs w) := by
  have k1 := fun (W : World) (hb : Below w.heap.size w W) => checkTest_any A n c zs W (hz.below hb) hn
  rw [ht] at k1
  obtain ⟨t1, t2, hg⟩ := testE_ok ht
  have hl := hz.1
  have Hz := Lib.hid hz
  have Hg := Lib.hid hg
  have HM := Lib.hid (fun k hk => many_bd hg k hk)
  unfold RetTest
  generalize hR : manyT zs = R at *
  have HR := Lib.hid hR
  clear hz hg ht hR
  have n6 : n ≤ 6 := by omega
  go_enter Try.func47, Try.ntmps47
  go_wp2_with fail
  refine (k1 _ (by repeat (first | with_reducible exact Below.refl _ _ | with_reducible assumption | with_reducible refine balloc ?_ _ | with_reducible refine bdrewN ?_ _ | with_reducible refine Below.drew ?_ | (with_reducible refine bset ?_ ?_ _; rotate_left; focus (first | assumption | omega | (simp; done) | (simp; omega))) | with_reducible refine bstep ?_ (by assumption) | assumption))).mono ?_
  rintro _ w1 ⟨rfl, hb1⟩
  replace hbw : Below w.heap.size w w1 := (by repeat (first | with_reducible exact Below.refl _ _ | with_reducible assumption | with_reducible refine balloc ?_ _ | with_reducible refine bdrewN ?_ _ | with_reducible refine Below.drew ?_ | (with_reducible refine bset ?_ ?_ _; rotate_left; focus (first | assumption | omega | (simp; done) | (simp; omega))) | with_reducible refine bstep ?_ (by assumption) | assumption))
  clear hb1
  clear k1
  go_wp2_with fail
  have hw1 : w.heap.size ≤ w1.heap.size := hbw.size
  have Bt : Cs (w1.alloc (.cells #[.slice A n c, .int .i64 1] 110)) w1.heap.size #[.slice A n c, .int .i64 1] := (by repeat (first | with_reducible assumption | (with_reducible refine Cs.new _ _ _ _ ?_; first | rfl | (simp; done)) | with_reducible refine Cs.alloc ?_ _ | with_reducible refine Cs.drewN ?_ _ | with_reducible refine Cs.drew ?_ | with_reducible refine Cs.set4 ?_ _ _ _ _ | (with_reducible refine Cs.other4 ?_ ?_ _ _ _ _; rotate_left; focus (first | assumption | omega | (simp; done) | (simp; omega))) | with_reducible refine Cs.set2 ?_ _ _ | (with_reducible refine Cs.other2 ?_ ?_ _ _; rotate_left; focus (first | assumption | omega | (simp; done) | (simp; omega))) | (with_reducible refine Cs.other ?_ ?_ _; rotate_left; focus (first | assumption | omega | (simp; done) | (simp; omega))) | with_reducible refine Cs.keep ?_ (by assumption) | assumption))
  replace hbw := balloc hbw (.cells #[.slice A n c, .int .i64 1] 110)
  generalize w1.alloc (.cells #[.slice A n c, .int .i64 1] 110) = w2 at *
  generalize w1.heap.size = g at *
  go_loopw [18] (fun s18 wx => ∃ (k m : Nat) (W : World), k ≤ n ∧ s18 = .int .i64 k ∧ Hid (W = wx) ∧ Hid (m = manyT (zs.take k)) ∧ Cs W g #[.slice A n c, .int .i64 (m : Nat)] ∧ Below w.heap.size w W) (fun s18 _ => n - (intOf s18).toNat)
  case atStart => exact ⟨0, 1, _, Nat.zero_le _, rfl, Lib.hid rfl, Lib.hid (by simp [manyT]), Bt, hbw⟩
  case round =>
    clear hbw Bt
    obtain ⟨k, m, W, hk, rfl, HWx, Hm, Bt, hbw⟩ := hrel
    obtain rfl := HWx.out
    clear HWx
    by_cases hkn : k < n
    · have hkI : (k : Int) < (n : Int) := by omega
      obtain ⟨b, off, p, rfl, hget, c0, c1⟩ := Hz.out.at_ hbw hkn
      have hmem := List.mem_of_getElem? hget
      have g4 := (Hg.out p hmem).g4
      have Hm2 : Hid (m * p.gn = manyT (zs.take (k + 1))) := Lib.hid (by rw [Hm.out]; exact (many_next hget).symm)
      have hb2 := HM.out (k + 1) (by omega)
      have hp4 := pow4 (k + 1) (by omega)
      have hle : m * p.gn ≤ 4096 := by rw [Hm2.out]; omega
      have f1 : IntKind.i64.wrap ((m : Int) * (p.gn : Int)) = ((m * p.gn : Nat) : Int) := by
        rw [← Int.natCast_mul]; exact IntWalk.i64_in _ (by omega)
      clear hget hmem hb2 hp4 Hm hle g4
      have hne : g ≠ W.heap.size := by have := Bt.lt; omega
      obtain ⟨gA, gn, gc, gs, eA, en, ec, es⟩ := p
      dsimp only at *
      have cBt := Bt.c
      have fBt := Bt.f
      have lBt := Bt.lt
      go_wp2_with fail
      have Bx : Cs (W.alloc (.cells #[.slice gA gn gc, .slice eA en ec] 73)) W.heap.size #[.slice gA gn gc, .slice eA en ec] := (by repeat (first | with_reducible assumption | (with_reducible refine Cs.new _ _ _ _ ?_; first | rfl | (simp; done)) | with_reducible refine Cs.alloc ?_ _ | with_reducible refine Cs.drewN ?_ _ | with_reducible refine Cs.drew ?_ | with_reducible refine Cs.set4 ?_ _ _ _ _ | (with_reducible refine Cs.other4 ?_ ?_ _ _ _ _; rotate_left; focus (first | assumption | omega | (simp; done) | (simp; omega))) | with_reducible refine Cs.set2 ?_ _ _ | (with_reducible refine Cs.other2 ?_ ?_ _ _; rotate_left; focus (first | assumption | omega | (simp; done) | (simp; omega))) | (with_reducible refine Cs.other ?_ ?_ _; rotate_left; focus (first | assumption | omega | (simp; done) | (simp; omega))) | with_reducible refine Cs.keep ?_ (by assumption) | assumption))
      have Bt2 := Bt.alloc (.cells #[.slice gA gn gc, .slice eA en ec] 73)
      replace hbw := balloc hbw (.cells #[.slice gA gn gc, .slice eA en ec] 73)
      clear Bt cBt fBt lBt
      generalize W.alloc (.cells #[.slice gA gn gc, .slice eA en ec] 73) = W2 at *
      generalize W.heap.size = gx at *
      have cBx := Bx.c
      have fBx := Bx.f
      have lBx := Bx.lt
      have cBt2 := Bt2.c
      have fBt2 := Bt2.f
      have lBt2 := Bt2.lt
      go_region
      have Bt3 : Cs ((W2.setCell ⟨g, 1, none⟩ (.int .i64 ((m : Int) * (gn : Int)))).drew) g #[.slice (some ⟨b, off, none⟩) n c, .int .i64 ((m * gn : Nat) : Int)] := by
        rw [Int.natCast_mul]
        exact (Bt2.set 1 (.int .i64 ((m : Int) * (gn : Int))) (by simp)).drew
      have hbw3 : Below w.heap.size w ((W2.setCell ⟨g, 1, none⟩ (.int .i64 ((m : Int) * (gn : Int)))).drew) := (bset hbw (p := ⟨g, 1, none⟩) hw1 _).drew
      go_wp2_with fail
      go_roundw
      case rel => exact ⟨k + 1, m * gn, _, by omega, by go_num, Lib.hid rfl, Hm2, Bt3, hbw3⟩
      case measure => simp [intOf]; omega
    · obtain rfl : k = n := by omega
      have hf : m = R := by rw [Hm.out, ← HR.out, List.take_of_length_le (by omega)]
      subst hf
      clear Hm HR
      have cBt := Bt.c
      have fBt := Bt.f
      have lBt := Bt.lt
      go_wp2_with fail
      go_ret2
      exact ⟨g, rfl, hw1, Bt, (by repeat (first | with_reducible exact Below.refl _ _ | with_reducible assumption | with_reducible refine balloc ?_ _ | with_reducible refine bdrewN ?_ _ | with_reducible refine Below.drew ?_ | (with_reducible refine bset ?_ ?_ _; rotate_left; focus (first | assumption | omega | (simp; done) | (simp; omega))) | with_reducible refine bstep ?_ (by assumption) | assumption))⟩

end Go.Proofs.Ytcmllkjgggcghaa
