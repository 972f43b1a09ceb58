/- EK02 EL02 -/
import Derived.Test.YtcmllkjgggcghaaEZ16
import Derived.Test.YtcmllkjgggcghaaEZ18
import Derived.Test.YtcmllkjgggcghaaEZ07
import Derived.Test.YtcmllkjgggcghaaEZ17
/- The walk of EyeBests: but for Works. -/
section
namespace Go.Proofs.Ytcmllkjgggcghaa
open Go.RowKit Go.Shelf
set_option linter.unusedSimpArgs false
set_option linter.unusedVariables false

set_option maxRecDepth 100000 in
set_option maxHeartbeats 4000000 in
theorem eyeBests_walk (kw : ∀ w : World, Calls Try.prog 14 #[] w fun e w' => e = .returned (.bool true) ∧ Below w.heap.size w w')
    (A : Option Addr) (n c : Nat) (zs : List Pl) (most : Int) (w : World) (hz : Plates w A n zs) (hn : n ≤ 9223372036854775807) (hm : most ≤ 9223372036854775807) :
    Calls Try.prog 4 #[.slice A n c, .int .i64 most] w fun e w' => e = .returned (.bool true) ∧ Below w.heap.size w w' := by
  have kg := fun (W : World) (hb : Below w.heap.size w W) => great_any A n c zs 100 W (hz.below hb) hn
  obtain ⟨l, ⟨tp, tq⟩, er, hlen, k1, k2⟩ := best_fix A n c zs most w hz hn hm
  have ki := fun A B n c c' xs W hx hy hn => ints_any A B n n c c' xs xs W hx hy hn hn true (by simp)
  unfold RetSome at kg
  unfold RetLRE at k1 k2
  dsimp only at k1 k2
  clear hz
  go_enter Try.func4, Try.ntmps4
  go_wp2_with fail
  refine (kg _ (by repeat (first | with_reducible exact Below.refl _ _ | with_reducible assumption | with_reducible refine balloc ?_ _ | with_reducible refine bdrewN ?_ _ | with_reducible refine Below.drew ?_ | (with_reducible refine bset ?_ ?_ _; rotate_left; focus (first | assumption | omega | (simp; done) | (simp; omega))) | with_reducible refine bstep ?_ (by assumption) | assumption))).mono ?_
  rintro _ w1 ⟨b, rfl, hb1⟩
  replace hbw : Below w.heap.size w w1 := (by repeat (first | with_reducible exact Below.refl _ _ | with_reducible assumption | with_reducible refine balloc ?_ _ | with_reducible refine bdrewN ?_ _ | with_reducible refine Below.drew ?_ | (with_reducible refine bset ?_ ?_ _; rotate_left; focus (first | assumption | omega | (simp; done) | (simp; omega))) | with_reducible refine bstep ?_ (by assumption) | assumption))
  clear hb1
  clear kg
  cases b with
  | true =>
    go_wp2_with fail
    refine (kw _).mono ?_
    rintro _ w2 ⟨rfl, hb2⟩
    go_wp2_with fail
    go_ret
    exact ⟨rfl, (by repeat (first | with_reducible exact Below.refl _ _ | with_reducible assumption | with_reducible refine balloc ?_ _ | with_reducible refine bdrewN ?_ _ | with_reducible refine Below.drew ?_ | (with_reducible refine bset ?_ ?_ _; rotate_left; focus (first | assumption | omega | (simp; done) | (simp; omega))) | with_reducible refine bstep ?_ (by assumption) | assumption))⟩
  | false =>
    go_wp2_with fail
    refine (k1 _ (by repeat (first | with_reducible exact Below.refl _ _ | with_reducible assumption | with_reducible refine balloc ?_ _ | with_reducible refine bdrewN ?_ _ | with_reducible refine Below.drew ?_ | (with_reducible refine bset ?_ ?_ _; rotate_left; focus (first | assumption | omega | (simp; done) | (simp; omega))) | with_reducible refine bstep ?_ (by assumption) | assumption))).mono ?_
    rintro _ w2 ⟨A2, n2, c2, rfl, h2, hb2⟩
    obtain rfl : l.length = n2 := h2.1
    replace hbw : Below w.heap.size w w2 := (by repeat (first | with_reducible exact Below.refl _ _ | with_reducible assumption | with_reducible refine balloc ?_ _ | with_reducible refine bdrewN ?_ _ | with_reducible refine Below.drew ?_ | (with_reducible refine bset ?_ ?_ _; rotate_left; focus (first | assumption | omega | (simp; done) | (simp; omega))) | with_reducible refine bstep ?_ (by assumption) | assumption))
    clear hb2
    clear k1
    go_wp2_with fail
    refine (k2 _ (by repeat (first | with_reducible exact Below.refl _ _ | with_reducible assumption | with_reducible refine balloc ?_ _ | with_reducible refine bdrewN ?_ _ | with_reducible refine Below.drew ?_ | (with_reducible refine bset ?_ ?_ _; rotate_left; focus (first | assumption | omega | (simp; done) | (simp; omega))) | with_reducible refine bstep ?_ (by assumption) | assumption))).mono ?_
    rintro _ w3 ⟨A3, n3, c3, rfl, h3, hb3⟩
    obtain rfl : l.length = n3 := h3.1
    replace B2 : Cs w3 (w2.heap.size) #[.int .i64 tp, .int .i64 tq] := Cs.keep (by repeat (first | with_reducible assumption | (with_reducible refine Cs.new _ _ _ _ ?_; first | rfl | (simp; done)) | with_reducible refine Cs.alloc ?_ _ | with_reducible refine Cs.drewN ?_ _ | with_reducible refine Cs.drew ?_ | with_reducible refine Cs.set4 ?_ _ _ _ _ | (with_reducible refine Cs.other4 ?_ ?_ _ _ _ _; rotate_left; focus (first | assumption | omega | (simp; done) | (simp; omega))) | with_reducible refine Cs.set2 ?_ _ _ | (with_reducible refine Cs.other2 ?_ ?_ _ _; rotate_left; focus (first | assumption | omega | (simp; done) | (simp; omega))) | (with_reducible refine Cs.other ?_ ?_ _; rotate_left; focus (first | assumption | omega | (simp; done) | (simp; omega))) | with_reducible refine Cs.keep ?_ (by assumption) | assumption)) hb3
    replace h2 : Ints w3 A2 l.length l := Ints.below (by repeat (first | with_reducible assumption | (with_reducible refine Ints.new1 _ _ _ _ ?_; first | rfl | (simp; done)) | (with_reducible refine Ints.new2 _ _ _ _ _ ?_; first | rfl | (simp; done)) | with_reducible refine Ints.alloc ?_ _ | with_reducible refine Ints.drewN ?_ _ | with_reducible refine Ints.drew ?_ | with_reducible refine Ints.below ?_ (by assumption) | assumption)) hb3
    replace hbw : Below w.heap.size w w3 := (by repeat (first | with_reducible exact Below.refl _ _ | with_reducible assumption | with_reducible refine balloc ?_ _ | with_reducible refine bdrewN ?_ _ | with_reducible refine Below.drew ?_ | (with_reducible refine bset ?_ ?_ _; rotate_left; focus (first | assumption | omega | (simp; done) | (simp; omega))) | with_reducible refine bstep ?_ (by assumption) | assumption))
    replace cB2 := B2.c
    replace fB2 := B2.f
    replace lB2 := B2.lt
    clear hb3
    clear k2
    go_wp2_with fail
    refine (ki _ _ _ _ _ _ _ (Ints.below h2 (by repeat (first | with_reducible exact Below.refl _ _ | with_reducible assumption | with_reducible refine balloc ?_ _ | with_reducible refine bdrewN ?_ _ | with_reducible refine Below.drew ?_ | (with_reducible refine bset ?_ ?_ _; rotate_left; focus (first | assumption | omega | (simp; done) | (simp; omega))) | with_reducible refine bstep ?_ (by assumption) | assumption))) (Ints.below h3 (by repeat (first | with_reducible exact Below.refl _ _ | with_reducible assumption | with_reducible refine balloc ?_ _ | with_reducible refine bdrewN ?_ _ | with_reducible refine Below.drew ?_ | (with_reducible refine bset ?_ ?_ _; rotate_left; focus (first | assumption | omega | (simp; done) | (simp; omega))) | with_reducible refine bstep ?_ (by assumption) | assumption))) (by omega)).mono ?_
    rintro e w4 ⟨rfl, hb4⟩
    try clear h2
    try clear h3
    replace B2 : Cs w4 (w2.heap.size) #[.int .i64 tp, .int .i64 tq] := Cs.keep (by repeat (first | with_reducible assumption | (with_reducible refine Cs.new _ _ _ _ ?_; first | rfl | (simp; done)) | with_reducible refine Cs.alloc ?_ _ | with_reducible refine Cs.drewN ?_ _ | with_reducible refine Cs.drew ?_ | with_reducible refine Cs.set4 ?_ _ _ _ _ | (with_reducible refine Cs.other4 ?_ ?_ _ _ _ _; rotate_left; focus (first | assumption | omega | (simp; done) | (simp; omega))) | with_reducible refine Cs.set2 ?_ _ _ | (with_reducible refine Cs.other2 ?_ ?_ _ _; rotate_left; focus (first | assumption | omega | (simp; done) | (simp; omega))) | (with_reducible refine Cs.other ?_ ?_ _; rotate_left; focus (first | assumption | omega | (simp; done) | (simp; omega))) | with_reducible refine Cs.keep ?_ (by assumption) | assumption)) hb4
    replace B3 : Cs w4 (w3.heap.size) #[.int .i64 tp, .int .i64 tq] := Cs.keep (by repeat (first | with_reducible assumption | (with_reducible refine Cs.new _ _ _ _ ?_; first | rfl | (simp; done)) | with_reducible refine Cs.alloc ?_ _ | with_reducible refine Cs.drewN ?_ _ | with_reducible refine Cs.drew ?_ | with_reducible refine Cs.set4 ?_ _ _ _ _ | (with_reducible refine Cs.other4 ?_ ?_ _ _ _ _; rotate_left; focus (first | assumption | omega | (simp; done) | (simp; omega))) | with_reducible refine Cs.set2 ?_ _ _ | (with_reducible refine Cs.other2 ?_ ?_ _ _; rotate_left; focus (first | assumption | omega | (simp; done) | (simp; omega))) | (with_reducible refine Cs.other ?_ ?_ _; rotate_left; focus (first | assumption | omega | (simp; done) | (simp; omega))) | with_reducible refine Cs.keep ?_ (by assumption) | assumption)) hb4
    replace hbw : Below w.heap.size w w4 := (by repeat (first | with_reducible exact Below.refl _ _ | with_reducible assumption | with_reducible refine balloc ?_ _ | with_reducible refine bdrewN ?_ _ | with_reducible refine Below.drew ?_ | (with_reducible refine bset ?_ ?_ _; rotate_left; focus (first | assumption | omega | (simp; done) | (simp; omega))) | with_reducible refine bstep ?_ (by assumption) | assumption))
    replace cB2 := B2.c
    replace fB2 := B2.f
    replace lB2 := B2.lt
    replace cB3 := B3.c
    replace fB3 := B3.f
    replace lB3 := B3.lt
    clear hb4
    go_wp2_with fail
    refine (kw _).mono ?_
    rintro e w5 ⟨rfl, hb5⟩
    try clear h2
    try clear cB2 fB2 lB2
    try clear B2
    try clear h3
    try clear cB3 fB3 lB3
    try clear B3
    replace hbw : Below w.heap.size w w5 := (by repeat (first | with_reducible exact Below.refl _ _ | with_reducible assumption | with_reducible refine balloc ?_ _ | with_reducible refine bdrewN ?_ _ | with_reducible refine Below.drew ?_ | (with_reducible refine bset ?_ ?_ _; rotate_left; focus (first | assumption | omega | (simp; done) | (simp; omega))) | with_reducible refine bstep ?_ (by assumption) | assumption))
    clear hb5
    go_wp2_with fail
    go_ret
    exact ⟨rfl, (by repeat (first | with_reducible exact Below.refl _ _ | with_reducible assumption | with_reducible refine balloc ?_ _ | with_reducible refine bdrewN ?_ _ | with_reducible refine Below.drew ?_ | (with_reducible refine bset ?_ ?_ _; rotate_left; focus (first | assumption | omega | (simp; done) | (simp; omega))) | with_reducible refine bstep ?_ (by assumption) | assumption))⟩

end Go.Proofs.Ytcmllkjgggcghaa
end

/- The walk of EyeBests. -/
section
namespace Go.Proofs.Ytcmllkjgggcghaa
open Go.RowKit Go.Shelf

theorem eyeBests_any (A : Option Addr) (n c : Nat) (zs : List Pl) (most : Int) (w : World) (hz : Plates w A n zs) (hn : n ≤ 9223372036854775807) (hm : most ≤ 9223372036854775807) :
    Calls Try.prog 4 #[.slice A n c, .int .i64 most] w fun e w' => e = .returned (.bool true) ∧ Below w.heap.size w w' :=
  eyeBests_walk works_any A n c zs most w hz hn hm

end Go.Proofs.Ytcmllkjgggcghaa
end
