/- EK01 EL01 -/
import Derived.Test.YtcmllkjgggcghaaEZ14
import Derived.Deep.RegionHeld3
import Derived.Test.YtcmllkjgggcghaaEZ15
import Derived.Test.YtcmllkjgggcghaaEZ18
import Derived.Test.YtcmllkjgggcghaaEZ17
/- The walk of EyeRegions: but for Works. -/
section
namespace Go.Proofs.Ytcmllkjgggcghaa
open Go.RowKit Go.Shelf
set_option linter.unusedSimpArgs false
set_option linter.unusedVariables false

theorem regionP_len {w : World} {A : Option Addr} {zs : List Pl} {n : Nat} (N D : Int) (hz : Plates w A n zs) : (regionP zs n N D).1.length ≤ 4096 := by
  unfold regionP
  by_cases ht : testE zs = 0
  · obtain ⟨t1, t2, hg⟩ := testE_ok ht
    have := many_le (n := n) hz.1 (by have := hz.1; omega) hg
    rw [if_neg (by simp [ht])]
    split
    · exact Nat.le_trans (regL_le ..) this
    · simp
  · rw [if_pos ht]; simp

set_option maxRecDepth 100000 in
set_option maxHeartbeats 4000000 in
theorem eyeRegions_walk (kw : ∀ w : World, Calls Try.prog 14 #[] w fun e w' => e = .returned (.bool true) ∧ Below w.heap.size w w') (A B : Option Addr) (n c Nn C : Nat) (zs : List Pl) (ks : List Int) (N D : Int) (w : World) (hz : Plates w A n zs) (hn : n ≤ 9223372036854775807) (hk : Ints w B Nn ks) (hN : Nn ≤ 9223372036854775807) :
    Calls Try.prog 3 #[.slice A n c, .slice B Nn C, .agg #[.int .i64 N, .int .i64 D]] w fun e w' => e = .returned (.bool true) ∧ Below w.heap.size w w' := by
  have kg := fun (W : World) (hb : Below w.heap.size w W) => great_any A n c zs 300 W (hz.below hb) hn
  have kr := fun (W : World) (hb : Below w.heap.size w W) => regionE_any A n c zs N D W (hz.below hb) hn
  have kq := fun (W : World) (hb : Below w.heap.size w W) => rregionE_any A n c zs N D W (hz.below hb) hn
  have k1 := fun (W : World) (hb : Below w.heap.size w W) => checkBest_any A B n c Nn C zs ks N D W (hz.below hb) hn (hk.below hb) hN _ rfl
  have k2 := fun (W : World) (hb : Below w.heap.size w W) => rcheckBest_any A B n c Nn C zs ks N D W (hz.below hb) hn (hk.below hb) hN
  have ki := fun A B n c c' xs W hx hy hn => ints_any A B n n c c' xs xs W hx hy hn hn true (by simp)
  have hlen := regionP_len N D hz
  generalize hr : regionP zs n N D = r at *
  obtain ⟨l, er⟩ := r
  generalize checkBestP zs n ks N D = cb at *
  unfold RetSome at kg
  unfold RetLE at kr kq
  unfold RetI at k1 k2
  dsimp only at kr kq hlen
  clear hr hz hk
  go_enter Try.func3, Try.ntmps3
  go_wp2_with fail
  refine (kg _ (by repeat (first | with_reducible exact Below.refl _ _ | with_reducible assumption | with_reducible refine balloc ?_ _ | with_reducible refine bdrewN ?_ _ | with_reducible refine Below.drew ?_ | (with_reducible refine bset ?_ ?_ _; rotate_left; focus (first | assumption | omega | (simp; done) | (simp; omega))) | with_reducible refine bstep ?_ (by assumption) | assumption))).mono ?_
  rintro _ w1 ⟨b, rfl, hb1⟩
  replace B0 : Cs w1 (w.heap.size) #[.int .i64 N, .int .i64 D] := Cs.keep (by repeat (first | with_reducible assumption | (with_reducible refine Cs.new _ _ _ _ ?_; first | rfl | (simp; done)) | with_reducible refine Cs.alloc ?_ _ | with_reducible refine Cs.drewN ?_ _ | with_reducible refine Cs.drew ?_ | with_reducible refine Cs.set4 ?_ _ _ _ _ | (with_reducible refine Cs.other4 ?_ ?_ _ _ _ _; rotate_left; focus (first | assumption | omega | (simp; done) | (simp; omega))) | with_reducible refine Cs.set2 ?_ _ _ | (with_reducible refine Cs.other2 ?_ ?_ _ _; rotate_left; focus (first | assumption | omega | (simp; done) | (simp; omega))) | (with_reducible refine Cs.other ?_ ?_ _; rotate_left; focus (first | assumption | omega | (simp; done) | (simp; omega))) | with_reducible refine Cs.keep ?_ (by assumption) | assumption)) hb1
  replace hbw : Below w.heap.size w w1 := (by repeat (first | with_reducible exact Below.refl _ _ | with_reducible assumption | with_reducible refine balloc ?_ _ | with_reducible refine bdrewN ?_ _ | with_reducible refine Below.drew ?_ | (with_reducible refine bset ?_ ?_ _; rotate_left; focus (first | assumption | omega | (simp; done) | (simp; omega))) | with_reducible refine bstep ?_ (by assumption) | assumption))
  replace cB0 := B0.c
  replace fB0 := B0.f
  replace lB0 := B0.lt
  clear hb1
  clear kg
  cases b with
  | true =>
    go_wp2_with fail
    refine (kw _).mono ?_
    rintro _ w2 ⟨rfl, hb2⟩
    go_wp2_with fail
    go_ret
    exact ⟨rfl, (by repeat (first | with_reducible exact Below.refl _ _ | with_reducible assumption | with_reducible refine balloc ?_ _ | with_reducible refine bdrewN ?_ _ | with_reducible refine Below.drew ?_ | (with_reducible refine bset ?_ ?_ _; rotate_left; focus (first | assumption | omega | (simp; done) | (simp; omega))) | with_reducible refine bstep ?_ (by assumption) | assumption))⟩
  | false =>
    by_cases h400 : (400 : Int) < (Nn : Int)
    · go_wp2_with fail
      refine (kw _).mono ?_
      rintro _ w2 ⟨rfl, hb2⟩
      go_wp2_with fail
      go_ret
      exact ⟨rfl, (by repeat (first | with_reducible exact Below.refl _ _ | with_reducible assumption | with_reducible refine balloc ?_ _ | with_reducible refine bdrewN ?_ _ | with_reducible refine Below.drew ?_ | (with_reducible refine bset ?_ ?_ _; rotate_left; focus (first | assumption | omega | (simp; done) | (simp; omega))) | with_reducible refine bstep ?_ (by assumption) | assumption))⟩
    · go_wp2_with fail
      refine (kr _ (by repeat (first | with_reducible exact Below.refl _ _ | with_reducible assumption | with_reducible refine balloc ?_ _ | with_reducible refine bdrewN ?_ _ | with_reducible refine Below.drew ?_ | (with_reducible refine bset ?_ ?_ _; rotate_left; focus (first | assumption | omega | (simp; done) | (simp; omega))) | with_reducible refine bstep ?_ (by assumption) | assumption))).mono ?_
      rintro _ w2 ⟨A2, n2, c2, rfl, h2, hb2⟩
      obtain rfl : l.length = n2 := h2.1
      replace B0 : Cs w2 (w.heap.size) #[.int .i64 N, .int .i64 D] := Cs.keep (by repeat (first | with_reducible assumption | (with_reducible refine Cs.new _ _ _ _ ?_; first | rfl | (simp; done)) | with_reducible refine Cs.alloc ?_ _ | with_reducible refine Cs.drewN ?_ _ | with_reducible refine Cs.drew ?_ | with_reducible refine Cs.set4 ?_ _ _ _ _ | (with_reducible refine Cs.other4 ?_ ?_ _ _ _ _; rotate_left; focus (first | assumption | omega | (simp; done) | (simp; omega))) | with_reducible refine Cs.set2 ?_ _ _ | (with_reducible refine Cs.other2 ?_ ?_ _ _; rotate_left; focus (first | assumption | omega | (simp; done) | (simp; omega))) | (with_reducible refine Cs.other ?_ ?_ _; rotate_left; focus (first | assumption | omega | (simp; done) | (simp; omega))) | with_reducible refine Cs.keep ?_ (by assumption) | assumption)) hb2
      replace hbw : Below w.heap.size w w2 := (by repeat (first | with_reducible exact Below.refl _ _ | with_reducible assumption | with_reducible refine balloc ?_ _ | with_reducible refine bdrewN ?_ _ | with_reducible refine Below.drew ?_ | (with_reducible refine bset ?_ ?_ _; rotate_left; focus (first | assumption | omega | (simp; done) | (simp; omega))) | with_reducible refine bstep ?_ (by assumption) | assumption))
      replace cB0 := B0.c
      replace fB0 := B0.f
      replace lB0 := B0.lt
      clear hb2
      clear kr
      go_wp2_with fail
      refine (kq _ (by repeat (first | with_reducible exact Below.refl _ _ | with_reducible assumption | with_reducible refine balloc ?_ _ | with_reducible refine bdrewN ?_ _ | with_reducible refine Below.drew ?_ | (with_reducible refine bset ?_ ?_ _; rotate_left; focus (first | assumption | omega | (simp; done) | (simp; omega))) | with_reducible refine bstep ?_ (by assumption) | assumption))).mono ?_
      rintro _ w3 ⟨A3, n3, c3, rfl, h3, hb3⟩
      obtain rfl : l.length = n3 := h3.1
      replace B0 : Cs w3 (w.heap.size) #[.int .i64 N, .int .i64 D] := Cs.keep (by repeat (first | with_reducible assumption | (with_reducible refine Cs.new _ _ _ _ ?_; first | rfl | (simp; done)) | with_reducible refine Cs.alloc ?_ _ | with_reducible refine Cs.drewN ?_ _ | with_reducible refine Cs.drew ?_ | with_reducible refine Cs.set4 ?_ _ _ _ _ | (with_reducible refine Cs.other4 ?_ ?_ _ _ _ _; rotate_left; focus (first | assumption | omega | (simp; done) | (simp; omega))) | with_reducible refine Cs.set2 ?_ _ _ | (with_reducible refine Cs.other2 ?_ ?_ _ _; rotate_left; focus (first | assumption | omega | (simp; done) | (simp; omega))) | (with_reducible refine Cs.other ?_ ?_ _; rotate_left; focus (first | assumption | omega | (simp; done) | (simp; omega))) | with_reducible refine Cs.keep ?_ (by assumption) | assumption)) hb3
      replace h2 : Ints w3 A2 l.length l := Ints.below (by repeat (first | with_reducible assumption | (with_reducible refine Ints.new1 _ _ _ _ ?_; first | rfl | (simp; done)) | (with_reducible refine Ints.new2 _ _ _ _ _ ?_; first | rfl | (simp; done)) | with_reducible refine Ints.alloc ?_ _ | with_reducible refine Ints.drewN ?_ _ | with_reducible refine Ints.drew ?_ | with_reducible refine Ints.below ?_ (by assumption) | assumption)) hb3
      replace hbw : Below w.heap.size w w3 := (by repeat (first | with_reducible exact Below.refl _ _ | with_reducible assumption | with_reducible refine balloc ?_ _ | with_reducible refine bdrewN ?_ _ | with_reducible refine Below.drew ?_ | (with_reducible refine bset ?_ ?_ _; rotate_left; focus (first | assumption | omega | (simp; done) | (simp; omega))) | with_reducible refine bstep ?_ (by assumption) | assumption))
      replace cB0 := B0.c
      replace fB0 := B0.f
      replace lB0 := B0.lt
      clear hb3
      clear kq
      go_wp2_with fail
      go_region_held3 (fun w' => w'.cell? ⟨w.heap.size, 0, none⟩ = some (.int .i64 N) ∧ w'.cell? ⟨w.heap.size, 1, none⟩ = some (.int .i64 D))
        (first | exact ⟨B0.c 0, B0.c 1⟩ | exact ⟨(Cs.alloc B0 _).c 0, (Cs.alloc B0 _).c 1⟩ | go_keep)
        (first | (go_at_call 17; refine (ki _ _ _ _ _ _ _ (Ints.below h2 (by repeat (first | with_reducible exact Below.refl _ _ | with_reducible assumption | with_reducible refine balloc ?_ _ | with_reducible refine bdrewN ?_ _ | with_reducible refine Below.drew ?_ | (with_reducible refine bset ?_ ?_ _; rotate_left; focus (first | assumption | omega | (simp; done) | (simp; omega))) | with_reducible refine bstep ?_ (by assumption) | assumption))) (Ints.below h3 (by repeat (first | with_reducible exact Below.refl _ _ | with_reducible assumption | with_reducible refine balloc ?_ _ | with_reducible refine bdrewN ?_ _ | with_reducible refine Below.drew ?_ | (with_reducible refine bset ?_ ?_ _; rotate_left; focus (first | assumption | omega | (simp; done) | (simp; omega))) | with_reducible refine bstep ?_ (by assumption) | assumption))) (by omega)).mono ?_; rintro e w4 ⟨rfl, hb4⟩; have B0 : Cs w4 (w.heap.size) #[.int .i64 N, .int .i64 D] := Cs.keep (by repeat (first | with_reducible assumption | (with_reducible refine Cs.new _ _ _ _ ?_; first | rfl | (simp; done)) | with_reducible refine Cs.alloc ?_ _ | with_reducible refine Cs.drewN ?_ _ | with_reducible refine Cs.drew ?_ | with_reducible refine Cs.set4 ?_ _ _ _ _ | (with_reducible refine Cs.other4 ?_ ?_ _ _ _ _; rotate_left; focus (first | assumption | omega | (simp; done) | (simp; omega))) | with_reducible refine Cs.set2 ?_ _ _ | (with_reducible refine Cs.other2 ?_ ?_ _ _; rotate_left; focus (first | assumption | omega | (simp; done) | (simp; omega))) | (with_reducible refine Cs.other ?_ ?_ _; rotate_left; focus (first | assumption | omega | (simp; done) | (simp; omega))) | with_reducible refine Cs.keep ?_ (by assumption) | assumption)) hb4; have h2 : Ints w4 A2 l.length l := Ints.below (by repeat (first | with_reducible assumption | (with_reducible refine Ints.new1 _ _ _ _ ?_; first | rfl | (simp; done)) | (with_reducible refine Ints.new2 _ _ _ _ _ ?_; first | rfl | (simp; done)) | with_reducible refine Ints.alloc ?_ _ | with_reducible refine Ints.drewN ?_ _ | with_reducible refine Ints.drew ?_ | with_reducible refine Ints.below ?_ (by assumption) | assumption)) hb4; have h3 : Ints w4 A3 l.length l := Ints.below (by repeat (first | with_reducible assumption | (with_reducible refine Ints.new1 _ _ _ _ ?_; first | rfl | (simp; done)) | (with_reducible refine Ints.new2 _ _ _ _ _ ?_; first | rfl | (simp; done)) | with_reducible refine Ints.alloc ?_ _ | with_reducible refine Ints.drewN ?_ _ | with_reducible refine Ints.drew ?_ | with_reducible refine Ints.below ?_ (by assumption) | assumption)) hb4; have hbw : Below w.heap.size w w4 := (by repeat (first | with_reducible exact Below.refl _ _ | with_reducible assumption | with_reducible refine balloc ?_ _ | with_reducible refine bdrewN ?_ _ | with_reducible refine Below.drew ?_ | (with_reducible refine bset ?_ ?_ _; rotate_left; focus (first | assumption | omega | (simp; done) | (simp; omega))) | with_reducible refine bstep ?_ (by assumption) | assumption)); clear hb4) | (go_at_call 18; refine (k1 _ (by repeat (first | with_reducible exact Below.refl _ _ | with_reducible assumption | with_reducible refine balloc ?_ _ | with_reducible refine bdrewN ?_ _ | with_reducible refine Below.drew ?_ | (with_reducible refine bset ?_ ?_ _; rotate_left; focus (first | assumption | omega | (simp; done) | (simp; omega))) | with_reducible refine bstep ?_ (by assumption) | assumption))).mono ?_; rintro e w4 ⟨rfl, hb4⟩; have B0 : Cs w4 (w.heap.size) #[.int .i64 N, .int .i64 D] := Cs.keep (by repeat (first | with_reducible assumption | (with_reducible refine Cs.new _ _ _ _ ?_; first | rfl | (simp; done)) | with_reducible refine Cs.alloc ?_ _ | with_reducible refine Cs.drewN ?_ _ | with_reducible refine Cs.drew ?_ | with_reducible refine Cs.set4 ?_ _ _ _ _ | (with_reducible refine Cs.other4 ?_ ?_ _ _ _ _; rotate_left; focus (first | assumption | omega | (simp; done) | (simp; omega))) | with_reducible refine Cs.set2 ?_ _ _ | (with_reducible refine Cs.other2 ?_ ?_ _ _; rotate_left; focus (first | assumption | omega | (simp; done) | (simp; omega))) | (with_reducible refine Cs.other ?_ ?_ _; rotate_left; focus (first | assumption | omega | (simp; done) | (simp; omega))) | with_reducible refine Cs.keep ?_ (by assumption) | assumption)) hb4; have h2 : Ints w4 A2 l.length l := Ints.below (by repeat (first | with_reducible assumption | (with_reducible refine Ints.new1 _ _ _ _ ?_; first | rfl | (simp; done)) | (with_reducible refine Ints.new2 _ _ _ _ _ ?_; first | rfl | (simp; done)) | with_reducible refine Ints.alloc ?_ _ | with_reducible refine Ints.drewN ?_ _ | with_reducible refine Ints.drew ?_ | with_reducible refine Ints.below ?_ (by assumption) | assumption)) hb4; have h3 : Ints w4 A3 l.length l := Ints.below (by repeat (first | with_reducible assumption | (with_reducible refine Ints.new1 _ _ _ _ ?_; first | rfl | (simp; done)) | (with_reducible refine Ints.new2 _ _ _ _ _ ?_; first | rfl | (simp; done)) | with_reducible refine Ints.alloc ?_ _ | with_reducible refine Ints.drewN ?_ _ | with_reducible refine Ints.drew ?_ | with_reducible refine Ints.below ?_ (by assumption) | assumption)) hb4; have hbw : Below w.heap.size w w4 := (by repeat (first | with_reducible exact Below.refl _ _ | with_reducible assumption | with_reducible refine balloc ?_ _ | with_reducible refine bdrewN ?_ _ | with_reducible refine Below.drew ?_ | (with_reducible refine bset ?_ ?_ _; rotate_left; focus (first | assumption | omega | (simp; done) | (simp; omega))) | with_reducible refine bstep ?_ (by assumption) | assumption)); clear hb4) | (go_at_call 19; refine (k2 _ (by repeat (first | with_reducible exact Below.refl _ _ | with_reducible assumption | with_reducible refine balloc ?_ _ | with_reducible refine bdrewN ?_ _ | with_reducible refine Below.drew ?_ | (with_reducible refine bset ?_ ?_ _; rotate_left; focus (first | assumption | omega | (simp; done) | (simp; omega))) | with_reducible refine bstep ?_ (by assumption) | assumption))).mono ?_; rintro e w4 ⟨rfl, hb4⟩; have B0 : Cs w4 (w.heap.size) #[.int .i64 N, .int .i64 D] := Cs.keep (by repeat (first | with_reducible assumption | (with_reducible refine Cs.new _ _ _ _ ?_; first | rfl | (simp; done)) | with_reducible refine Cs.alloc ?_ _ | with_reducible refine Cs.drewN ?_ _ | with_reducible refine Cs.drew ?_ | with_reducible refine Cs.set4 ?_ _ _ _ _ | (with_reducible refine Cs.other4 ?_ ?_ _ _ _ _; rotate_left; focus (first | assumption | omega | (simp; done) | (simp; omega))) | with_reducible refine Cs.set2 ?_ _ _ | (with_reducible refine Cs.other2 ?_ ?_ _ _; rotate_left; focus (first | assumption | omega | (simp; done) | (simp; omega))) | (with_reducible refine Cs.other ?_ ?_ _; rotate_left; focus (first | assumption | omega | (simp; done) | (simp; omega))) | with_reducible refine Cs.keep ?_ (by assumption) | assumption)) hb4; have h2 : Ints w4 A2 l.length l := Ints.below (by repeat (first | with_reducible assumption | (with_reducible refine Ints.new1 _ _ _ _ ?_; first | rfl | (simp; done)) | (with_reducible refine Ints.new2 _ _ _ _ _ ?_; first | rfl | (simp; done)) | with_reducible refine Ints.alloc ?_ _ | with_reducible refine Ints.drewN ?_ _ | with_reducible refine Ints.drew ?_ | with_reducible refine Ints.below ?_ (by assumption) | assumption)) hb4; have h3 : Ints w4 A3 l.length l := Ints.below (by repeat (first | with_reducible assumption | (with_reducible refine Ints.new1 _ _ _ _ ?_; first | rfl | (simp; done)) | (with_reducible refine Ints.new2 _ _ _ _ _ ?_; first | rfl | (simp; done)) | with_reducible refine Ints.alloc ?_ _ | with_reducible refine Ints.drewN ?_ _ | with_reducible refine Ints.drew ?_ | with_reducible refine Ints.below ?_ (by assumption) | assumption)) hb4; have hbw : Below w.heap.size w w4 := (by repeat (first | with_reducible exact Below.refl _ _ | with_reducible assumption | with_reducible refine balloc ?_ _ | with_reducible refine bdrewN ?_ _ | with_reducible refine Below.drew ?_ | (with_reducible refine bset ?_ ?_ _; rotate_left; focus (first | assumption | omega | (simp; done) | (simp; omega))) | with_reducible refine bstep ?_ (by assumption) | assumption)); clear hb4) | (go_at_call 14; refine (kw _).mono ?_; rintro e w4 ⟨rfl, hb4⟩; have B0 : Cs w4 (w.heap.size) #[.int .i64 N, .int .i64 D] := Cs.keep (by repeat (first | with_reducible assumption | (with_reducible refine Cs.new _ _ _ _ ?_; first | rfl | (simp; done)) | with_reducible refine Cs.alloc ?_ _ | with_reducible refine Cs.drewN ?_ _ | with_reducible refine Cs.drew ?_ | with_reducible refine Cs.set4 ?_ _ _ _ _ | (with_reducible refine Cs.other4 ?_ ?_ _ _ _ _; rotate_left; focus (first | assumption | omega | (simp; done) | (simp; omega))) | with_reducible refine Cs.set2 ?_ _ _ | (with_reducible refine Cs.other2 ?_ ?_ _ _; rotate_left; focus (first | assumption | omega | (simp; done) | (simp; omega))) | (with_reducible refine Cs.other ?_ ?_ _; rotate_left; focus (first | assumption | omega | (simp; done) | (simp; omega))) | with_reducible refine Cs.keep ?_ (by assumption) | assumption)) hb4; have h2 : Ints w4 A2 l.length l := Ints.below (by repeat (first | with_reducible assumption | (with_reducible refine Ints.new1 _ _ _ _ ?_; first | rfl | (simp; done)) | (with_reducible refine Ints.new2 _ _ _ _ _ ?_; first | rfl | (simp; done)) | with_reducible refine Ints.alloc ?_ _ | with_reducible refine Ints.drewN ?_ _ | with_reducible refine Ints.drew ?_ | with_reducible refine Ints.below ?_ (by assumption) | assumption)) hb4; have h3 : Ints w4 A3 l.length l := Ints.below (by repeat (first | with_reducible assumption | (with_reducible refine Ints.new1 _ _ _ _ ?_; first | rfl | (simp; done)) | (with_reducible refine Ints.new2 _ _ _ _ _ ?_; first | rfl | (simp; done)) | with_reducible refine Ints.alloc ?_ _ | with_reducible refine Ints.drewN ?_ _ | with_reducible refine Ints.drew ?_ | with_reducible refine Ints.below ?_ (by assumption) | assumption)) hb4; have hbw : Below w.heap.size w w4 := (by repeat (first | with_reducible exact Below.refl _ _ | with_reducible assumption | with_reducible refine balloc ?_ _ | with_reducible refine bdrewN ?_ _ | with_reducible refine Below.drew ?_ | (with_reducible refine bset ?_ ?_ _; rotate_left; focus (first | assumption | omega | (simp; done) | (simp; omega))) | with_reducible refine bstep ?_ (by assumption) | assumption)); clear hb4))
      go_wp2_with fail
      go_ret
      exact ⟨rfl, (by repeat (first | with_reducible exact Below.refl _ _ | with_reducible assumption | with_reducible refine balloc ?_ _ | with_reducible refine bdrewN ?_ _ | with_reducible refine Below.drew ?_ | (with_reducible refine bset ?_ ?_ _; rotate_left; focus (first | assumption | omega | (simp; done) | (simp; omega))) | with_reducible refine bstep ?_ (by assumption) | assumption))⟩

end Go.Proofs.Ytcmllkjgggcghaa
end

/- The walk of EyeRegions. -/
section
namespace Go.Proofs.Ytcmllkjgggcghaa
open Go.RowKit Go.Shelf

theorem eyeRegions_any (A B : Option Addr) (n c Nn C : Nat) (zs : List Pl) (ks : List Int) (N D : Int) (w : World) (hz : Plates w A n zs) (hn : n ≤ 9223372036854775807) (hk : Ints w B Nn ks) (hN : Nn ≤ 9223372036854775807) :
    Calls Try.prog 3 #[.slice A n c, .slice B Nn C, .agg #[.int .i64 N, .int .i64 D]] w fun e w' => e = .returned (.bool true) ∧ Below w.heap.size w w' :=
  eyeRegions_walk works_any A B n c Nn C zs ks N D w hz hn hk hN

end Go.Proofs.Ytcmllkjgggcghaa
end
