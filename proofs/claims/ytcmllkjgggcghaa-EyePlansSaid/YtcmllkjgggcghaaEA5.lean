/- The walk of package eye's Plan. -/
import Derived.Test.YtcmllkjgggcghaaEA4
import Derived.Deep.RegionHeld3
import Derived.Deep.DeepCutAuto
namespace Go.Proofs.Ytcmllkjgggcghaa
open Go.RowKit Go.Shelf
set_option linter.unusedSimpArgs false
set_option linter.unusedVariables false
open Em (isCh red cnt)

theorem total_same (A : Option Addr) (n c : Nat) (zs : List Int) (w : World) (hz : Ints w A n zs) (hn : n ≤ 9223372036854775807) (h0 : ∀ x ∈ zs, 0 ≤ x) (hs : zs.sum ≤ 9223372036854775807) (s : Int) (he : s = zs.sum) :
    Calls Try.prog 60 #[.slice A n c] w fun e w' => e = .returned (.int .i64 s) ∧ w' = w :=
  (total_exact A n c zs w hz hn h0 hs s he).mono fun _ _ ⟨h1, h2⟩ => ⟨h1, h2.symm⟩

/-- a plan and the error, as they are handed back -/
def RetPL (r : (Int × Int) × Int) : Ending := .returned (.tuple #[.agg #[.int .i64 r.1.1, .int .i64 r.1.2], .int .i64 r.2])

set_option maxRecDepth 10000 in
set_option maxHeartbeats 2000000 in
theorem plan_bad (gN gD sN sD oN oD iN iD : Int) (w : World) (h : ¬ (isCh gN gD 10 = true ∧ isCh sN sD 10 = true ∧ isCh oN oD 1000000 = true ∧ isCh iN iD 1000000 = true)) :
    Calls Try.prog 24 #[.agg #[.int .i64 gN, .int .i64 gD], .agg #[.int .i64 sN, .int .i64 sD], .agg #[.int .i64 oN, .int .i64 oD], .agg #[.int .i64 iN, .int .i64 iD]] w fun e w' => e = RetPL ((0, 0), 2) ∧ Below w.heap.size w w' := by
  unfold RetPL
  have k1 := fun W => isChance_any gN gD 10 W (by omega)
  have k2 := fun W => isChance_any sN sD 10 W (by omega)
  have k3 := fun W => isChance_any oN oD 1000000 W (by omega)
  have k4 := fun W => isChance_any iN iD 1000000 W (by omega)
  generalize isCh gN gD 10 = b1 at *
  generalize isCh sN sD 10 = b2 at *
  generalize isCh oN oD 1000000 = b3 at *
  generalize isCh iN iD 1000000 = b4 at *
  cases b1 with
  | false =>
    clear h
    go_enter Try.func24, Try.ntmps24
    go_wp2_with fail
    refine (k1 _).mono ?_
    rintro e w1 ⟨rfl, hb1⟩
    replace B4 : Cs w1 (w.heap.size + 1 + 1 + 1 + 1) #[.int .i64 0, .int .i64 0] := Cs.keep (by repeat (first | with_reducible assumption | (with_reducible refine Cs.new _ _ _ _ ?_; first | rfl | (simp; done)) | with_reducible refine Cs.alloc ?_ _ | with_reducible refine Cs.drewN ?_ _ | with_reducible refine Cs.drew ?_ | with_reducible refine Cs.set4 ?_ _ _ _ _ | (with_reducible refine Cs.other4 ?_ ?_ _ _ _ _; rotate_left; focus (first | assumption | omega | (simp; done) | (simp; omega))) | with_reducible refine Cs.set2 ?_ _ _ | (with_reducible refine Cs.other2 ?_ ?_ _ _; rotate_left; focus (first | assumption | omega | (simp; done) | (simp; omega))) | (with_reducible refine Cs.other ?_ ?_ _; rotate_left; focus (first | assumption | omega | (simp; done) | (simp; omega))) | with_reducible refine Cs.keep ?_ (by assumption) | assumption)) hb1
    replace hbw : Below w.heap.size w w1 := (by repeat (first | with_reducible exact Below.refl _ _ | with_reducible assumption | with_reducible refine balloc ?_ _ | with_reducible refine bdrewN ?_ _ | with_reducible refine Below.drew ?_ | (with_reducible refine bset ?_ ?_ _; rotate_left; focus (first | assumption | omega | (simp; done) | (simp; omega))) | with_reducible refine bstep ?_ (by assumption) | assumption))
    replace cB4 := B4.c
    replace fB4 := B4.f
    replace lB4 := B4.lt
    clear hb1
    go_wp2_with fail
    exact bodyPost_ret (v := .tuple #[.agg #[.int .i64 0, .int .i64 0], .int .i64 2]) (by simp [results, Try.results24, go_sem, cB4, fB4, lB4]) rfl ⟨rfl, (by repeat (first | with_reducible exact Below.refl _ _ | with_reducible assumption | with_reducible refine balloc ?_ _ | with_reducible refine bdrewN ?_ _ | with_reducible refine Below.drew ?_ | (with_reducible refine bset ?_ ?_ _; rotate_left; focus (first | assumption | omega | (simp; done) | (simp; omega))) | with_reducible refine bstep ?_ (by assumption) | assumption))⟩
  | true =>
    cases b2 with
    | false =>
      clear h
      go_enter Try.func24, Try.ntmps24
      go_wp2_with fail
      refine (k1 _).mono ?_
      rintro e w1 ⟨rfl, hb1⟩
      replace B1 : Cs w1 (w.heap.size + 1) #[.int .i64 sN, .int .i64 sD] := Cs.keep (by repeat (first | with_reducible assumption | (with_reducible refine Cs.new _ _ _ _ ?_; first | rfl | (simp; done)) | with_reducible refine Cs.alloc ?_ _ | with_reducible refine Cs.drewN ?_ _ | with_reducible refine Cs.drew ?_ | with_reducible refine Cs.set4 ?_ _ _ _ _ | (with_reducible refine Cs.other4 ?_ ?_ _ _ _ _; rotate_left; focus (first | assumption | omega | (simp; done) | (simp; omega))) | with_reducible refine Cs.set2 ?_ _ _ | (with_reducible refine Cs.other2 ?_ ?_ _ _; rotate_left; focus (first | assumption | omega | (simp; done) | (simp; omega))) | (with_reducible refine Cs.other ?_ ?_ _; rotate_left; focus (first | assumption | omega | (simp; done) | (simp; omega))) | with_reducible refine Cs.keep ?_ (by assumption) | assumption)) hb1
      replace B4 : Cs w1 (w.heap.size + 1 + 1 + 1 + 1) #[.int .i64 0, .int .i64 0] := Cs.keep (by repeat (first | with_reducible assumption | (with_reducible refine Cs.new _ _ _ _ ?_; first | rfl | (simp; done)) | with_reducible refine Cs.alloc ?_ _ | with_reducible refine Cs.drewN ?_ _ | with_reducible refine Cs.drew ?_ | with_reducible refine Cs.set4 ?_ _ _ _ _ | (with_reducible refine Cs.other4 ?_ ?_ _ _ _ _; rotate_left; focus (first | assumption | omega | (simp; done) | (simp; omega))) | with_reducible refine Cs.set2 ?_ _ _ | (with_reducible refine Cs.other2 ?_ ?_ _ _; rotate_left; focus (first | assumption | omega | (simp; done) | (simp; omega))) | (with_reducible refine Cs.other ?_ ?_ _; rotate_left; focus (first | assumption | omega | (simp; done) | (simp; omega))) | with_reducible refine Cs.keep ?_ (by assumption) | assumption)) hb1
      replace hbw : Below w.heap.size w w1 := (by repeat (first | with_reducible exact Below.refl _ _ | with_reducible assumption | with_reducible refine balloc ?_ _ | with_reducible refine bdrewN ?_ _ | with_reducible refine Below.drew ?_ | (with_reducible refine bset ?_ ?_ _; rotate_left; focus (first | assumption | omega | (simp; done) | (simp; omega))) | with_reducible refine bstep ?_ (by assumption) | assumption))
      replace cB1 := B1.c
      replace fB1 := B1.f
      replace lB1 := B1.lt
      replace cB4 := B4.c
      replace fB4 := B4.f
      replace lB4 := B4.lt
      clear hb1
      go_wp2_with fail
      refine (k2 _).mono ?_
      rintro e w2 ⟨rfl, hb2⟩
      try clear cB1 fB1 lB1
      try clear B1
      replace B4 : Cs w2 (w.heap.size + 1 + 1 + 1 + 1) #[.int .i64 0, .int .i64 0] := Cs.keep (by repeat (first | with_reducible assumption | (with_reducible refine Cs.new _ _ _ _ ?_; first | rfl | (simp; done)) | with_reducible refine Cs.alloc ?_ _ | with_reducible refine Cs.drewN ?_ _ | with_reducible refine Cs.drew ?_ | with_reducible refine Cs.set4 ?_ _ _ _ _ | (with_reducible refine Cs.other4 ?_ ?_ _ _ _ _; rotate_left; focus (first | assumption | omega | (simp; done) | (simp; omega))) | with_reducible refine Cs.set2 ?_ _ _ | (with_reducible refine Cs.other2 ?_ ?_ _ _; rotate_left; focus (first | assumption | omega | (simp; done) | (simp; omega))) | (with_reducible refine Cs.other ?_ ?_ _; rotate_left; focus (first | assumption | omega | (simp; done) | (simp; omega))) | with_reducible refine Cs.keep ?_ (by assumption) | assumption)) hb2
      replace hbw : Below w.heap.size w w2 := (by repeat (first | with_reducible exact Below.refl _ _ | with_reducible assumption | with_reducible refine balloc ?_ _ | with_reducible refine bdrewN ?_ _ | with_reducible refine Below.drew ?_ | (with_reducible refine bset ?_ ?_ _; rotate_left; focus (first | assumption | omega | (simp; done) | (simp; omega))) | with_reducible refine bstep ?_ (by assumption) | assumption))
      replace cB4 := B4.c
      replace fB4 := B4.f
      replace lB4 := B4.lt
      clear hb2
      go_wp2_with fail
      exact bodyPost_ret (v := .tuple #[.agg #[.int .i64 0, .int .i64 0], .int .i64 2]) (by simp [results, Try.results24, go_sem, cB4, fB4, lB4]) rfl ⟨rfl, (by repeat (first | with_reducible exact Below.refl _ _ | with_reducible assumption | with_reducible refine balloc ?_ _ | with_reducible refine bdrewN ?_ _ | with_reducible refine Below.drew ?_ | (with_reducible refine bset ?_ ?_ _; rotate_left; focus (first | assumption | omega | (simp; done) | (simp; omega))) | with_reducible refine bstep ?_ (by assumption) | assumption))⟩
    | true =>
      cases b3 with
      | false =>
        clear h
        go_enter Try.func24, Try.ntmps24
        go_wp2_with fail
        refine (k1 _).mono ?_
        rintro e w1 ⟨rfl, hb1⟩
        replace B1 : Cs w1 (w.heap.size + 1) #[.int .i64 sN, .int .i64 sD] := Cs.keep (by repeat (first | with_reducible assumption | (with_reducible refine Cs.new _ _ _ _ ?_; first | rfl | (simp; done)) | with_reducible refine Cs.alloc ?_ _ | with_reducible refine Cs.drewN ?_ _ | with_reducible refine Cs.drew ?_ | with_reducible refine Cs.set4 ?_ _ _ _ _ | (with_reducible refine Cs.other4 ?_ ?_ _ _ _ _; rotate_left; focus (first | assumption | omega | (simp; done) | (simp; omega))) | with_reducible refine Cs.set2 ?_ _ _ | (with_reducible refine Cs.other2 ?_ ?_ _ _; rotate_left; focus (first | assumption | omega | (simp; done) | (simp; omega))) | (with_reducible refine Cs.other ?_ ?_ _; rotate_left; focus (first | assumption | omega | (simp; done) | (simp; omega))) | with_reducible refine Cs.keep ?_ (by assumption) | assumption)) hb1
        replace B2 : Cs w1 (w.heap.size + 1 + 1) #[.int .i64 oN, .int .i64 oD] := Cs.keep (by repeat (first | with_reducible assumption | (with_reducible refine Cs.new _ _ _ _ ?_; first | rfl | (simp; done)) | with_reducible refine Cs.alloc ?_ _ | with_reducible refine Cs.drewN ?_ _ | with_reducible refine Cs.drew ?_ | with_reducible refine Cs.set4 ?_ _ _ _ _ | (with_reducible refine Cs.other4 ?_ ?_ _ _ _ _; rotate_left; focus (first | assumption | omega | (simp; done) | (simp; omega))) | with_reducible refine Cs.set2 ?_ _ _ | (with_reducible refine Cs.other2 ?_ ?_ _ _; rotate_left; focus (first | assumption | omega | (simp; done) | (simp; omega))) | (with_reducible refine Cs.other ?_ ?_ _; rotate_left; focus (first | assumption | omega | (simp; done) | (simp; omega))) | with_reducible refine Cs.keep ?_ (by assumption) | assumption)) hb1
        replace B4 : Cs w1 (w.heap.size + 1 + 1 + 1 + 1) #[.int .i64 0, .int .i64 0] := Cs.keep (by repeat (first | with_reducible assumption | (with_reducible refine Cs.new _ _ _ _ ?_; first | rfl | (simp; done)) | with_reducible refine Cs.alloc ?_ _ | with_reducible refine Cs.drewN ?_ _ | with_reducible refine Cs.drew ?_ | with_reducible refine Cs.set4 ?_ _ _ _ _ | (with_reducible refine Cs.other4 ?_ ?_ _ _ _ _; rotate_left; focus (first | assumption | omega | (simp; done) | (simp; omega))) | with_reducible refine Cs.set2 ?_ _ _ | (with_reducible refine Cs.other2 ?_ ?_ _ _; rotate_left; focus (first | assumption | omega | (simp; done) | (simp; omega))) | (with_reducible refine Cs.other ?_ ?_ _; rotate_left; focus (first | assumption | omega | (simp; done) | (simp; omega))) | with_reducible refine Cs.keep ?_ (by assumption) | assumption)) hb1
        replace hbw : Below w.heap.size w w1 := (by repeat (first | with_reducible exact Below.refl _ _ | with_reducible assumption | with_reducible refine balloc ?_ _ | with_reducible refine bdrewN ?_ _ | with_reducible refine Below.drew ?_ | (with_reducible refine bset ?_ ?_ _; rotate_left; focus (first | assumption | omega | (simp; done) | (simp; omega))) | with_reducible refine bstep ?_ (by assumption) | assumption))
        replace cB1 := B1.c
        replace fB1 := B1.f
        replace lB1 := B1.lt
        replace cB2 := B2.c
        replace fB2 := B2.f
        replace lB2 := B2.lt
        replace cB4 := B4.c
        replace fB4 := B4.f
        replace lB4 := B4.lt
        clear hb1
        go_wp2_with fail
        refine (k2 _).mono ?_
        rintro e w2 ⟨rfl, hb2⟩
        try clear cB1 fB1 lB1
        try clear B1
        replace B2 : Cs w2 (w.heap.size + 1 + 1) #[.int .i64 oN, .int .i64 oD] := Cs.keep (by repeat (first | with_reducible assumption | (with_reducible refine Cs.new _ _ _ _ ?_; first | rfl | (simp; done)) | with_reducible refine Cs.alloc ?_ _ | with_reducible refine Cs.drewN ?_ _ | with_reducible refine Cs.drew ?_ | with_reducible refine Cs.set4 ?_ _ _ _ _ | (with_reducible refine Cs.other4 ?_ ?_ _ _ _ _; rotate_left; focus (first | assumption | omega | (simp; done) | (simp; omega))) | with_reducible refine Cs.set2 ?_ _ _ | (with_reducible refine Cs.other2 ?_ ?_ _ _; rotate_left; focus (first | assumption | omega | (simp; done) | (simp; omega))) | (with_reducible refine Cs.other ?_ ?_ _; rotate_left; focus (first | assumption | omega | (simp; done) | (simp; omega))) | with_reducible refine Cs.keep ?_ (by assumption) | assumption)) hb2
        replace B4 : Cs w2 (w.heap.size + 1 + 1 + 1 + 1) #[.int .i64 0, .int .i64 0] := Cs.keep (by repeat (first | with_reducible assumption | (with_reducible refine Cs.new _ _ _ _ ?_; first | rfl | (simp; done)) | with_reducible refine Cs.alloc ?_ _ | with_reducible refine Cs.drewN ?_ _ | with_reducible refine Cs.drew ?_ | with_reducible refine Cs.set4 ?_ _ _ _ _ | (with_reducible refine Cs.other4 ?_ ?_ _ _ _ _; rotate_left; focus (first | assumption | omega | (simp; done) | (simp; omega))) | with_reducible refine Cs.set2 ?_ _ _ | (with_reducible refine Cs.other2 ?_ ?_ _ _; rotate_left; focus (first | assumption | omega | (simp; done) | (simp; omega))) | (with_reducible refine Cs.other ?_ ?_ _; rotate_left; focus (first | assumption | omega | (simp; done) | (simp; omega))) | with_reducible refine Cs.keep ?_ (by assumption) | assumption)) hb2
        replace hbw : Below w.heap.size w w2 := (by repeat (first | with_reducible exact Below.refl _ _ | with_reducible assumption | with_reducible refine balloc ?_ _ | with_reducible refine bdrewN ?_ _ | with_reducible refine Below.drew ?_ | (with_reducible refine bset ?_ ?_ _; rotate_left; focus (first | assumption | omega | (simp; done) | (simp; omega))) | with_reducible refine bstep ?_ (by assumption) | assumption))
        replace cB2 := B2.c
        replace fB2 := B2.f
        replace lB2 := B2.lt
        replace cB4 := B4.c
        replace fB4 := B4.f
        replace lB4 := B4.lt
        clear hb2
        go_wp2_with fail
        refine (k3 _).mono ?_
        rintro e w3 ⟨rfl, hb3⟩
        try clear cB1 fB1 lB1
        try clear B1
        try clear cB2 fB2 lB2
        try clear B2
        replace B4 : Cs w3 (w.heap.size + 1 + 1 + 1 + 1) #[.int .i64 0, .int .i64 0] := Cs.keep (by repeat (first | with_reducible assumption | (with_reducible refine Cs.new _ _ _ _ ?_; first | rfl | (simp; done)) | with_reducible refine Cs.alloc ?_ _ | with_reducible refine Cs.drewN ?_ _ | with_reducible refine Cs.drew ?_ | with_reducible refine Cs.set4 ?_ _ _ _ _ | (with_reducible refine Cs.other4 ?_ ?_ _ _ _ _; rotate_left; focus (first | assumption | omega | (simp; done) | (simp; omega))) | with_reducible refine Cs.set2 ?_ _ _ | (with_reducible refine Cs.other2 ?_ ?_ _ _; rotate_left; focus (first | assumption | omega | (simp; done) | (simp; omega))) | (with_reducible refine Cs.other ?_ ?_ _; rotate_left; focus (first | assumption | omega | (simp; done) | (simp; omega))) | with_reducible refine Cs.keep ?_ (by assumption) | assumption)) hb3
        replace hbw : Below w.heap.size w w3 := (by repeat (first | with_reducible exact Below.refl _ _ | with_reducible assumption | with_reducible refine balloc ?_ _ | with_reducible refine bdrewN ?_ _ | with_reducible refine Below.drew ?_ | (with_reducible refine bset ?_ ?_ _; rotate_left; focus (first | assumption | omega | (simp; done) | (simp; omega))) | with_reducible refine bstep ?_ (by assumption) | assumption))
        replace cB4 := B4.c
        replace fB4 := B4.f
        replace lB4 := B4.lt
        clear hb3
        go_wp2_with fail
        exact bodyPost_ret (v := .tuple #[.agg #[.int .i64 0, .int .i64 0], .int .i64 2]) (by simp [results, Try.results24, go_sem, cB4, fB4, lB4]) rfl ⟨rfl, (by repeat (first | with_reducible exact Below.refl _ _ | with_reducible assumption | with_reducible refine balloc ?_ _ | with_reducible refine bdrewN ?_ _ | with_reducible refine Below.drew ?_ | (with_reducible refine bset ?_ ?_ _; rotate_left; focus (first | assumption | omega | (simp; done) | (simp; omega))) | with_reducible refine bstep ?_ (by assumption) | assumption))⟩
      | true =>
        cases b4 with
        | true => exact absurd ⟨rfl, rfl, rfl, rfl⟩ h
        | false =>
          clear h
          go_enter Try.func24, Try.ntmps24
          go_wp2_with fail
          refine (k1 _).mono ?_
          rintro e w1 ⟨rfl, hb1⟩
          replace B1 : Cs w1 (w.heap.size + 1) #[.int .i64 sN, .int .i64 sD] := Cs.keep (by repeat (first | with_reducible assumption | (with_reducible refine Cs.new _ _ _ _ ?_; first | rfl | (simp; done)) | with_reducible refine Cs.alloc ?_ _ | with_reducible refine Cs.drewN ?_ _ | with_reducible refine Cs.drew ?_ | with_reducible refine Cs.set4 ?_ _ _ _ _ | (with_reducible refine Cs.other4 ?_ ?_ _ _ _ _; rotate_left; focus (first | assumption | omega | (simp; done) | (simp; omega))) | with_reducible refine Cs.set2 ?_ _ _ | (with_reducible refine Cs.other2 ?_ ?_ _ _; rotate_left; focus (first | assumption | omega | (simp; done) | (simp; omega))) | (with_reducible refine Cs.other ?_ ?_ _; rotate_left; focus (first | assumption | omega | (simp; done) | (simp; omega))) | with_reducible refine Cs.keep ?_ (by assumption) | assumption)) hb1
          replace B2 : Cs w1 (w.heap.size + 1 + 1) #[.int .i64 oN, .int .i64 oD] := Cs.keep (by repeat (first | with_reducible assumption | (with_reducible refine Cs.new _ _ _ _ ?_; first | rfl | (simp; done)) | with_reducible refine Cs.alloc ?_ _ | with_reducible refine Cs.drewN ?_ _ | with_reducible refine Cs.drew ?_ | with_reducible refine Cs.set4 ?_ _ _ _ _ | (with_reducible refine Cs.other4 ?_ ?_ _ _ _ _; rotate_left; focus (first | assumption | omega | (simp; done) | (simp; omega))) | with_reducible refine Cs.set2 ?_ _ _ | (with_reducible refine Cs.other2 ?_ ?_ _ _; rotate_left; focus (first | assumption | omega | (simp; done) | (simp; omega))) | (with_reducible refine Cs.other ?_ ?_ _; rotate_left; focus (first | assumption | omega | (simp; done) | (simp; omega))) | with_reducible refine Cs.keep ?_ (by assumption) | assumption)) hb1
          replace B3 : Cs w1 (w.heap.size + 1 + 1 + 1) #[.int .i64 iN, .int .i64 iD] := Cs.keep (by repeat (first | with_reducible assumption | (with_reducible refine Cs.new _ _ _ _ ?_; first | rfl | (simp; done)) | with_reducible refine Cs.alloc ?_ _ | with_reducible refine Cs.drewN ?_ _ | with_reducible refine Cs.drew ?_ | with_reducible refine Cs.set4 ?_ _ _ _ _ | (with_reducible refine Cs.other4 ?_ ?_ _ _ _ _; rotate_left; focus (first | assumption | omega | (simp; done) | (simp; omega))) | with_reducible refine Cs.set2 ?_ _ _ | (with_reducible refine Cs.other2 ?_ ?_ _ _; rotate_left; focus (first | assumption | omega | (simp; done) | (simp; omega))) | (with_reducible refine Cs.other ?_ ?_ _; rotate_left; focus (first | assumption | omega | (simp; done) | (simp; omega))) | with_reducible refine Cs.keep ?_ (by assumption) | assumption)) hb1
          replace B4 : Cs w1 (w.heap.size + 1 + 1 + 1 + 1) #[.int .i64 0, .int .i64 0] := Cs.keep (by repeat (first | with_reducible assumption | (with_reducible refine Cs.new _ _ _ _ ?_; first | rfl | (simp; done)) | with_reducible refine Cs.alloc ?_ _ | with_reducible refine Cs.drewN ?_ _ | with_reducible refine Cs.drew ?_ | with_reducible refine Cs.set4 ?_ _ _ _ _ | (with_reducible refine Cs.other4 ?_ ?_ _ _ _ _; rotate_left; focus (first | assumption | omega | (simp; done) | (simp; omega))) | with_reducible refine Cs.set2 ?_ _ _ | (with_reducible refine Cs.other2 ?_ ?_ _ _; rotate_left; focus (first | assumption | omega | (simp; done) | (simp; omega))) | (with_reducible refine Cs.other ?_ ?_ _; rotate_left; focus (first | assumption | omega | (simp; done) | (simp; omega))) | with_reducible refine Cs.keep ?_ (by assumption) | assumption)) hb1
          replace hbw : Below w.heap.size w w1 := (by repeat (first | with_reducible exact Below.refl _ _ | with_reducible assumption | with_reducible refine balloc ?_ _ | with_reducible refine bdrewN ?_ _ | with_reducible refine Below.drew ?_ | (with_reducible refine bset ?_ ?_ _; rotate_left; focus (first | assumption | omega | (simp; done) | (simp; omega))) | with_reducible refine bstep ?_ (by assumption) | assumption))
          replace cB1 := B1.c
          replace fB1 := B1.f
          replace lB1 := B1.lt
          replace cB2 := B2.c
          replace fB2 := B2.f
          replace lB2 := B2.lt
          replace cB3 := B3.c
          replace fB3 := B3.f
          replace lB3 := B3.lt
          replace cB4 := B4.c
          replace fB4 := B4.f
          replace lB4 := B4.lt
          clear hb1
          go_wp2_with fail
          refine (k2 _).mono ?_
          rintro e w2 ⟨rfl, hb2⟩
          try clear cB1 fB1 lB1
          try clear B1
          replace B2 : Cs w2 (w.heap.size + 1 + 1) #[.int .i64 oN, .int .i64 oD] := Cs.keep (by repeat (first | with_reducible assumption | (with_reducible refine Cs.new _ _ _ _ ?_; first | rfl | (simp; done)) | with_reducible refine Cs.alloc ?_ _ | with_reducible refine Cs.drewN ?_ _ | with_reducible refine Cs.drew ?_ | with_reducible refine Cs.set4 ?_ _ _ _ _ | (with_reducible refine Cs.other4 ?_ ?_ _ _ _ _; rotate_left; focus (first | assumption | omega | (simp; done) | (simp; omega))) | with_reducible refine Cs.set2 ?_ _ _ | (with_reducible refine Cs.other2 ?_ ?_ _ _; rotate_left; focus (first | assumption | omega | (simp; done) | (simp; omega))) | (with_reducible refine Cs.other ?_ ?_ _; rotate_left; focus (first | assumption | omega | (simp; done) | (simp; omega))) | with_reducible refine Cs.keep ?_ (by assumption) | assumption)) hb2
          replace B3 : Cs w2 (w.heap.size + 1 + 1 + 1) #[.int .i64 iN, .int .i64 iD] := Cs.keep (by repeat (first | with_reducible assumption | (with_reducible refine Cs.new _ _ _ _ ?_; first | rfl | (simp; done)) | with_reducible refine Cs.alloc ?_ _ | with_reducible refine Cs.drewN ?_ _ | with_reducible refine Cs.drew ?_ | with_reducible refine Cs.set4 ?_ _ _ _ _ | (with_reducible refine Cs.other4 ?_ ?_ _ _ _ _; rotate_left; focus (first | assumption | omega | (simp; done) | (simp; omega))) | with_reducible refine Cs.set2 ?_ _ _ | (with_reducible refine Cs.other2 ?_ ?_ _ _; rotate_left; focus (first | assumption | omega | (simp; done) | (simp; omega))) | (with_reducible refine Cs.other ?_ ?_ _; rotate_left; focus (first | assumption | omega | (simp; done) | (simp; omega))) | with_reducible refine Cs.keep ?_ (by assumption) | assumption)) hb2
          replace B4 : Cs w2 (w.heap.size + 1 + 1 + 1 + 1) #[.int .i64 0, .int .i64 0] := Cs.keep (by repeat (first | with_reducible assumption | (with_reducible refine Cs.new _ _ _ _ ?_; first | rfl | (simp; done)) | with_reducible refine Cs.alloc ?_ _ | with_reducible refine Cs.drewN ?_ _ | with_reducible refine Cs.drew ?_ | with_reducible refine Cs.set4 ?_ _ _ _ _ | (with_reducible refine Cs.other4 ?_ ?_ _ _ _ _; rotate_left; focus (first | assumption | omega | (simp; done) | (simp; omega))) | with_reducible refine Cs.set2 ?_ _ _ | (with_reducible refine Cs.other2 ?_ ?_ _ _; rotate_left; focus (first | assumption | omega | (simp; done) | (simp; omega))) | (with_reducible refine Cs.other ?_ ?_ _; rotate_left; focus (first | assumption | omega | (simp; done) | (simp; omega))) | with_reducible refine Cs.keep ?_ (by assumption) | assumption)) hb2
          replace hbw : Below w.heap.size w w2 := (by repeat (first | with_reducible exact Below.refl _ _ | with_reducible assumption | with_reducible refine balloc ?_ _ | with_reducible refine bdrewN ?_ _ | with_reducible refine Below.drew ?_ | (with_reducible refine bset ?_ ?_ _; rotate_left; focus (first | assumption | omega | (simp; done) | (simp; omega))) | with_reducible refine bstep ?_ (by assumption) | assumption))
          replace cB2 := B2.c
          replace fB2 := B2.f
          replace lB2 := B2.lt
          replace cB3 := B3.c
          replace fB3 := B3.f
          replace lB3 := B3.lt
          replace cB4 := B4.c
          replace fB4 := B4.f
          replace lB4 := B4.lt
          clear hb2
          go_wp2_with fail
          refine (k3 _).mono ?_
          rintro e w3 ⟨rfl, hb3⟩
          try clear cB1 fB1 lB1
          try clear B1
          try clear cB2 fB2 lB2
          try clear B2
          replace B3 : Cs w3 (w.heap.size + 1 + 1 + 1) #[.int .i64 iN, .int .i64 iD] := Cs.keep (by repeat (first | with_reducible assumption | (with_reducible refine Cs.new _ _ _ _ ?_; first | rfl | (simp; done)) | with_reducible refine Cs.alloc ?_ _ | with_reducible refine Cs.drewN ?_ _ | with_reducible refine Cs.drew ?_ | with_reducible refine Cs.set4 ?_ _ _ _ _ | (with_reducible refine Cs.other4 ?_ ?_ _ _ _ _; rotate_left; focus (first | assumption | omega | (simp; done) | (simp; omega))) | with_reducible refine Cs.set2 ?_ _ _ | (with_reducible refine Cs.other2 ?_ ?_ _ _; rotate_left; focus (first | assumption | omega | (simp; done) | (simp; omega))) | (with_reducible refine Cs.other ?_ ?_ _; rotate_left; focus (first | assumption | omega | (simp; done) | (simp; omega))) | with_reducible refine Cs.keep ?_ (by assumption) | assumption)) hb3
          replace B4 : Cs w3 (w.heap.size + 1 + 1 + 1 + 1) #[.int .i64 0, .int .i64 0] := Cs.keep (by repeat (first | with_reducible assumption | (with_reducible refine Cs.new _ _ _ _ ?_; first | rfl | (simp; done)) | with_reducible refine Cs.alloc ?_ _ | with_reducible refine Cs.drewN ?_ _ | with_reducible refine Cs.drew ?_ | with_reducible refine Cs.set4 ?_ _ _ _ _ | (with_reducible refine Cs.other4 ?_ ?_ _ _ _ _; rotate_left; focus (first | assumption | omega | (simp; done) | (simp; omega))) | with_reducible refine Cs.set2 ?_ _ _ | (with_reducible refine Cs.other2 ?_ ?_ _ _; rotate_left; focus (first | assumption | omega | (simp; done) | (simp; omega))) | (with_reducible refine Cs.other ?_ ?_ _; rotate_left; focus (first | assumption | omega | (simp; done) | (simp; omega))) | with_reducible refine Cs.keep ?_ (by assumption) | assumption)) hb3
          replace hbw : Below w.heap.size w w3 := (by repeat (first | with_reducible exact Below.refl _ _ | with_reducible assumption | with_reducible refine balloc ?_ _ | with_reducible refine bdrewN ?_ _ | with_reducible refine Below.drew ?_ | (with_reducible refine bset ?_ ?_ _; rotate_left; focus (first | assumption | omega | (simp; done) | (simp; omega))) | with_reducible refine bstep ?_ (by assumption) | assumption))
          replace cB3 := B3.c
          replace fB3 := B3.f
          replace lB3 := B3.lt
          replace cB4 := B4.c
          replace fB4 := B4.f
          replace lB4 := B4.lt
          clear hb3
          go_wp2_with fail
          refine (k4 _).mono ?_
          rintro e w4 ⟨rfl, hb4⟩
          try clear cB1 fB1 lB1
          try clear B1
          try clear cB2 fB2 lB2
          try clear B2
          try clear cB3 fB3 lB3
          try clear B3
          replace B4 : Cs w4 (w.heap.size + 1 + 1 + 1 + 1) #[.int .i64 0, .int .i64 0] := Cs.keep (by repeat (first | with_reducible assumption | (with_reducible refine Cs.new _ _ _ _ ?_; first | rfl | (simp; done)) | with_reducible refine Cs.alloc ?_ _ | with_reducible refine Cs.drewN ?_ _ | with_reducible refine Cs.drew ?_ | with_reducible refine Cs.set4 ?_ _ _ _ _ | (with_reducible refine Cs.other4 ?_ ?_ _ _ _ _; rotate_left; focus (first | assumption | omega | (simp; done) | (simp; omega))) | with_reducible refine Cs.set2 ?_ _ _ | (with_reducible refine Cs.other2 ?_ ?_ _ _; rotate_left; focus (first | assumption | omega | (simp; done) | (simp; omega))) | (with_reducible refine Cs.other ?_ ?_ _; rotate_left; focus (first | assumption | omega | (simp; done) | (simp; omega))) | with_reducible refine Cs.keep ?_ (by assumption) | assumption)) hb4
          replace hbw : Below w.heap.size w w4 := (by repeat (first | with_reducible exact Below.refl _ _ | with_reducible assumption | with_reducible refine balloc ?_ _ | with_reducible refine bdrewN ?_ _ | with_reducible refine Below.drew ?_ | (with_reducible refine bset ?_ ?_ _; rotate_left; focus (first | assumption | omega | (simp; done) | (simp; omega))) | with_reducible refine bstep ?_ (by assumption) | assumption))
          replace cB4 := B4.c
          replace fB4 := B4.f
          replace lB4 := B4.lt
          clear hb4
          go_wp2_with fail
          exact bodyPost_ret (v := .tuple #[.agg #[.int .i64 0, .int .i64 0], .int .i64 2]) (by simp [results, Try.results24, go_sem, cB4, fB4, lB4]) rfl ⟨rfl, (by repeat (first | with_reducible exact Below.refl _ _ | with_reducible assumption | with_reducible refine balloc ?_ _ | with_reducible refine bdrewN ?_ _ | with_reducible refine Below.drew ?_ | (with_reducible refine bset ?_ ?_ _; rotate_left; focus (first | assumption | omega | (simp; done) | (simp; omega))) | with_reducible refine bstep ?_ (by assumption) | assumption))⟩

/-- a plan keeps printed odds -/
def planQ (gN gD sN sD oN oD iN iD : Int) (n r : Nat) : Bool := Em.keeps gN (gD - gN) sN (sD - sN) oN oD iN iD n r
/-- the plan and the error of valid chances and odds -/
def planP (gN gD sN sD oN oD iN iD : Int) : (Int × Int) × Int :=
  match Em.planFrom (planQ gN gD sN sD oN oD iN iD) 1 12 with
  | some (n, r) => ((n, r), 0)
  | none => ((0, 0), 22)

set_option maxRecDepth 10000 in
set_option maxHeartbeats 8000000 in
theorem plan_ok (gN gD sN sD oN oD iN iD : Int) (w : World) (h1 : isCh gN gD 10 = true) (h2 : isCh sN sD 10 = true) (h3 : isCh oN oD 1000000 = true) (h4 : isCh iN iD 1000000 = true) :
    Calls Try.prog 24 #[.agg #[.int .i64 gN, .int .i64 gD], .agg #[.int .i64 sN, .int .i64 sD], .agg #[.int .i64 oN, .int .i64 oD], .agg #[.int .i64 iN, .int .i64 iD]] w fun e w' => e = RetPL (planP gN gD sN sD oN oD iN iD) ∧ Below w.heap.size w w' := by
  unfold RetPL
  have k1 := fun W => isChance_any gN gD 10 W (by omega)
  have k2 := fun W => isChance_any sN sD 10 W (by omega)
  have k3 := fun W => isChance_any oN oD 1000000 W (by omega)
  have k4 := fun W => isChance_any iN iD 1000000 W (by omega)
  rw [h1] at k1
  rw [h2] at k2
  rw [h3] at k3
  rw [h4] at k4
  obtain ⟨a1, a2, a3, a4, _⟩ : 1 ≤ gD ∧ gD ≤ 10 ∧ 0 ≤ gN ∧ gN ≤ gD ∧ Int.gcd gN gD = 1 := of_decide_eq_true h1
  obtain ⟨b1, b2, b3, b4, _⟩ : 1 ≤ sD ∧ sD ≤ 10 ∧ 0 ≤ sN ∧ sN ≤ sD ∧ Int.gcd sN sD = 1 := of_decide_eq_true h2
  obtain ⟨c1, c2, c3, c4, _⟩ : 1 ≤ oD ∧ oD ≤ 1000000 ∧ 0 ≤ oN ∧ oN ≤ oD ∧ Int.gcd oN oD = 1 := of_decide_eq_true h3
  obtain ⟨d1, d2, d3, d4, _⟩ : 1 ≤ iD ∧ iD ≤ 1000000 ∧ 0 ≤ iN ∧ iN ≤ iD ∧ Int.gcd iN iD = 1 := of_decide_eq_true h4
  generalize hR : planP gN gD sN sD oN oD iN iD = R
  have HR := Lib.hid hR
  clear h1 h2 h3 h4 hR
  go_enter Try.func24, Try.ntmps24
  go_wp2_with fail
  refine (k1 _).mono ?_
  rintro e w1 ⟨rfl, hb1⟩
  replace B0 : Cs w1 (w.heap.size) #[.int .i64 gN, .int .i64 gD] := Cs.keep (by repeat (first | with_reducible assumption | (with_reducible refine Cs.new _ _ _ _ ?_; first | rfl | (simp; done)) | with_reducible refine Cs.alloc ?_ _ | with_reducible refine Cs.drewN ?_ _ | with_reducible refine Cs.drew ?_ | with_reducible refine Cs.set4 ?_ _ _ _ _ | (with_reducible refine Cs.other4 ?_ ?_ _ _ _ _; rotate_left; focus (first | assumption | omega | (simp; done) | (simp; omega))) | with_reducible refine Cs.set2 ?_ _ _ | (with_reducible refine Cs.other2 ?_ ?_ _ _; rotate_left; focus (first | assumption | omega | (simp; done) | (simp; omega))) | (with_reducible refine Cs.other ?_ ?_ _; rotate_left; focus (first | assumption | omega | (simp; done) | (simp; omega))) | with_reducible refine Cs.keep ?_ (by assumption) | assumption)) hb1
  replace B1 : Cs w1 (w.heap.size + 1) #[.int .i64 sN, .int .i64 sD] := Cs.keep (by repeat (first | with_reducible assumption | (with_reducible refine Cs.new _ _ _ _ ?_; first | rfl | (simp; done)) | with_reducible refine Cs.alloc ?_ _ | with_reducible refine Cs.drewN ?_ _ | with_reducible refine Cs.drew ?_ | with_reducible refine Cs.set4 ?_ _ _ _ _ | (with_reducible refine Cs.other4 ?_ ?_ _ _ _ _; rotate_left; focus (first | assumption | omega | (simp; done) | (simp; omega))) | with_reducible refine Cs.set2 ?_ _ _ | (with_reducible refine Cs.other2 ?_ ?_ _ _; rotate_left; focus (first | assumption | omega | (simp; done) | (simp; omega))) | (with_reducible refine Cs.other ?_ ?_ _; rotate_left; focus (first | assumption | omega | (simp; done) | (simp; omega))) | with_reducible refine Cs.keep ?_ (by assumption) | assumption)) hb1
  replace B2 : Cs w1 (w.heap.size + 1 + 1) #[.int .i64 oN, .int .i64 oD] := Cs.keep (by repeat (first | with_reducible assumption | (with_reducible refine Cs.new _ _ _ _ ?_; first | rfl | (simp; done)) | with_reducible refine Cs.alloc ?_ _ | with_reducible refine Cs.drewN ?_ _ | with_reducible refine Cs.drew ?_ | with_reducible refine Cs.set4 ?_ _ _ _ _ | (with_reducible refine Cs.other4 ?_ ?_ _ _ _ _; rotate_left; focus (first | assumption | omega | (simp; done) | (simp; omega))) | with_reducible refine Cs.set2 ?_ _ _ | (with_reducible refine Cs.other2 ?_ ?_ _ _; rotate_left; focus (first | assumption | omega | (simp; done) | (simp; omega))) | (with_reducible refine Cs.other ?_ ?_ _; rotate_left; focus (first | assumption | omega | (simp; done) | (simp; omega))) | with_reducible refine Cs.keep ?_ (by assumption) | assumption)) hb1
  replace B3 : Cs w1 (w.heap.size + 1 + 1 + 1) #[.int .i64 iN, .int .i64 iD] := Cs.keep (by repeat (first | with_reducible assumption | (with_reducible refine Cs.new _ _ _ _ ?_; first | rfl | (simp; done)) | with_reducible refine Cs.alloc ?_ _ | with_reducible refine Cs.drewN ?_ _ | with_reducible refine Cs.drew ?_ | with_reducible refine Cs.set4 ?_ _ _ _ _ | (with_reducible refine Cs.other4 ?_ ?_ _ _ _ _; rotate_left; focus (first | assumption | omega | (simp; done) | (simp; omega))) | with_reducible refine Cs.set2 ?_ _ _ | (with_reducible refine Cs.other2 ?_ ?_ _ _; rotate_left; focus (first | assumption | omega | (simp; done) | (simp; omega))) | (with_reducible refine Cs.other ?_ ?_ _; rotate_left; focus (first | assumption | omega | (simp; done) | (simp; omega))) | with_reducible refine Cs.keep ?_ (by assumption) | assumption)) hb1
  replace B4 : Cs w1 (w.heap.size + 1 + 1 + 1 + 1) #[.int .i64 0, .int .i64 0] := Cs.keep (by repeat (first | with_reducible assumption | (with_reducible refine Cs.new _ _ _ _ ?_; first | rfl | (simp; done)) | with_reducible refine Cs.alloc ?_ _ | with_reducible refine Cs.drewN ?_ _ | with_reducible refine Cs.drew ?_ | with_reducible refine Cs.set4 ?_ _ _ _ _ | (with_reducible refine Cs.other4 ?_ ?_ _ _ _ _; rotate_left; focus (first | assumption | omega | (simp; done) | (simp; omega))) | with_reducible refine Cs.set2 ?_ _ _ | (with_reducible refine Cs.other2 ?_ ?_ _ _; rotate_left; focus (first | assumption | omega | (simp; done) | (simp; omega))) | (with_reducible refine Cs.other ?_ ?_ _; rotate_left; focus (first | assumption | omega | (simp; done) | (simp; omega))) | with_reducible refine Cs.keep ?_ (by assumption) | assumption)) hb1
  replace hbw : Below w.heap.size w w1 := (by repeat (first | with_reducible exact Below.refl _ _ | with_reducible assumption | with_reducible refine balloc ?_ _ | with_reducible refine bdrewN ?_ _ | with_reducible refine Below.drew ?_ | (with_reducible refine bset ?_ ?_ _; rotate_left; focus (first | assumption | omega | (simp; done) | (simp; omega))) | with_reducible refine bstep ?_ (by assumption) | assumption))
  replace cB0 := B0.c
  replace fB0 := B0.f
  replace lB0 := B0.lt
  replace cB1 := B1.c
  replace fB1 := B1.f
  replace lB1 := B1.lt
  replace cB2 := B2.c
  replace fB2 := B2.f
  replace lB2 := B2.lt
  replace cB3 := B3.c
  replace fB3 := B3.f
  replace lB3 := B3.lt
  replace cB4 := B4.c
  replace fB4 := B4.f
  replace lB4 := B4.lt
  clear hb1
  go_wp2_with fail
  refine (k2 _).mono ?_
  rintro e w2 ⟨rfl, hb2⟩
  replace B0 : Cs w2 (w.heap.size) #[.int .i64 gN, .int .i64 gD] := Cs.keep (by repeat (first | with_reducible assumption | (with_reducible refine Cs.new _ _ _ _ ?_; first | rfl | (simp; done)) | with_reducible refine Cs.alloc ?_ _ | with_reducible refine Cs.drewN ?_ _ | with_reducible refine Cs.drew ?_ | with_reducible refine Cs.set4 ?_ _ _ _ _ | (with_reducible refine Cs.other4 ?_ ?_ _ _ _ _; rotate_left; focus (first | assumption | omega | (simp; done) | (simp; omega))) | with_reducible refine Cs.set2 ?_ _ _ | (with_reducible refine Cs.other2 ?_ ?_ _ _; rotate_left; focus (first | assumption | omega | (simp; done) | (simp; omega))) | (with_reducible refine Cs.other ?_ ?_ _; rotate_left; focus (first | assumption | omega | (simp; done) | (simp; omega))) | with_reducible refine Cs.keep ?_ (by assumption) | assumption)) hb2
  replace B1 : Cs w2 (w.heap.size + 1) #[.int .i64 sN, .int .i64 sD] := Cs.keep (by repeat (first | with_reducible assumption | (with_reducible refine Cs.new _ _ _ _ ?_; first | rfl | (simp; done)) | with_reducible refine Cs.alloc ?_ _ | with_reducible refine Cs.drewN ?_ _ | with_reducible refine Cs.drew ?_ | with_reducible refine Cs.set4 ?_ _ _ _ _ | (with_reducible refine Cs.other4 ?_ ?_ _ _ _ _; rotate_left; focus (first | assumption | omega | (simp; done) | (simp; omega))) | with_reducible refine Cs.set2 ?_ _ _ | (with_reducible refine Cs.other2 ?_ ?_ _ _; rotate_left; focus (first | assumption | omega | (simp; done) | (simp; omega))) | (with_reducible refine Cs.other ?_ ?_ _; rotate_left; focus (first | assumption | omega | (simp; done) | (simp; omega))) | with_reducible refine Cs.keep ?_ (by assumption) | assumption)) hb2
  replace B2 : Cs w2 (w.heap.size + 1 + 1) #[.int .i64 oN, .int .i64 oD] := Cs.keep (by repeat (first | with_reducible assumption | (with_reducible refine Cs.new _ _ _ _ ?_; first | rfl | (simp; done)) | with_reducible refine Cs.alloc ?_ _ | with_reducible refine Cs.drewN ?_ _ | with_reducible refine Cs.drew ?_ | with_reducible refine Cs.set4 ?_ _ _ _ _ | (with_reducible refine Cs.other4 ?_ ?_ _ _ _ _; rotate_left; focus (first | assumption | omega | (simp; done) | (simp; omega))) | with_reducible refine Cs.set2 ?_ _ _ | (with_reducible refine Cs.other2 ?_ ?_ _ _; rotate_left; focus (first | assumption | omega | (simp; done) | (simp; omega))) | (with_reducible refine Cs.other ?_ ?_ _; rotate_left; focus (first | assumption | omega | (simp; done) | (simp; omega))) | with_reducible refine Cs.keep ?_ (by assumption) | assumption)) hb2
  replace B3 : Cs w2 (w.heap.size + 1 + 1 + 1) #[.int .i64 iN, .int .i64 iD] := Cs.keep (by repeat (first | with_reducible assumption | (with_reducible refine Cs.new _ _ _ _ ?_; first | rfl | (simp; done)) | with_reducible refine Cs.alloc ?_ _ | with_reducible refine Cs.drewN ?_ _ | with_reducible refine Cs.drew ?_ | with_reducible refine Cs.set4 ?_ _ _ _ _ | (with_reducible refine Cs.other4 ?_ ?_ _ _ _ _; rotate_left; focus (first | assumption | omega | (simp; done) | (simp; omega))) | with_reducible refine Cs.set2 ?_ _ _ | (with_reducible refine Cs.other2 ?_ ?_ _ _; rotate_left; focus (first | assumption | omega | (simp; done) | (simp; omega))) | (with_reducible refine Cs.other ?_ ?_ _; rotate_left; focus (first | assumption | omega | (simp; done) | (simp; omega))) | with_reducible refine Cs.keep ?_ (by assumption) | assumption)) hb2
  replace B4 : Cs w2 (w.heap.size + 1 + 1 + 1 + 1) #[.int .i64 0, .int .i64 0] := Cs.keep (by repeat (first | with_reducible assumption | (with_reducible refine Cs.new _ _ _ _ ?_; first | rfl | (simp; done)) | with_reducible refine Cs.alloc ?_ _ | with_reducible refine Cs.drewN ?_ _ | with_reducible refine Cs.drew ?_ | with_reducible refine Cs.set4 ?_ _ _ _ _ | (with_reducible refine Cs.other4 ?_ ?_ _ _ _ _; rotate_left; focus (first | assumption | omega | (simp; done) | (simp; omega))) | with_reducible refine Cs.set2 ?_ _ _ | (with_reducible refine Cs.other2 ?_ ?_ _ _; rotate_left; focus (first | assumption | omega | (simp; done) | (simp; omega))) | (with_reducible refine Cs.other ?_ ?_ _; rotate_left; focus (first | assumption | omega | (simp; done) | (simp; omega))) | with_reducible refine Cs.keep ?_ (by assumption) | assumption)) hb2
  replace hbw : Below w.heap.size w w2 := (by repeat (first | with_reducible exact Below.refl _ _ | with_reducible assumption | with_reducible refine balloc ?_ _ | with_reducible refine bdrewN ?_ _ | with_reducible refine Below.drew ?_ | (with_reducible refine bset ?_ ?_ _; rotate_left; focus (first | assumption | omega | (simp; done) | (simp; omega))) | with_reducible refine bstep ?_ (by assumption) | assumption))
  replace cB0 := B0.c
  replace fB0 := B0.f
  replace lB0 := B0.lt
  replace cB1 := B1.c
  replace fB1 := B1.f
  replace lB1 := B1.lt
  replace cB2 := B2.c
  replace fB2 := B2.f
  replace lB2 := B2.lt
  replace cB3 := B3.c
  replace fB3 := B3.f
  replace lB3 := B3.lt
  replace cB4 := B4.c
  replace fB4 := B4.f
  replace lB4 := B4.lt
  clear hb2
  go_wp2_with fail
  refine (k3 _).mono ?_
  rintro e w3 ⟨rfl, hb3⟩
  replace B0 : Cs w3 (w.heap.size) #[.int .i64 gN, .int .i64 gD] := Cs.keep (by repeat (first | with_reducible assumption | (with_reducible refine Cs.new _ _ _ _ ?_; first | rfl | (simp; done)) | with_reducible refine Cs.alloc ?_ _ | with_reducible refine Cs.drewN ?_ _ | with_reducible refine Cs.drew ?_ | with_reducible refine Cs.set4 ?_ _ _ _ _ | (with_reducible refine Cs.other4 ?_ ?_ _ _ _ _; rotate_left; focus (first | assumption | omega | (simp; done) | (simp; omega))) | with_reducible refine Cs.set2 ?_ _ _ | (with_reducible refine Cs.other2 ?_ ?_ _ _; rotate_left; focus (first | assumption | omega | (simp; done) | (simp; omega))) | (with_reducible refine Cs.other ?_ ?_ _; rotate_left; focus (first | assumption | omega | (simp; done) | (simp; omega))) | with_reducible refine Cs.keep ?_ (by assumption) | assumption)) hb3
  replace B1 : Cs w3 (w.heap.size + 1) #[.int .i64 sN, .int .i64 sD] := Cs.keep (by repeat (first | with_reducible assumption | (with_reducible refine Cs.new _ _ _ _ ?_; first | rfl | (simp; done)) | with_reducible refine Cs.alloc ?_ _ | with_reducible refine Cs.drewN ?_ _ | with_reducible refine Cs.drew ?_ | with_reducible refine Cs.set4 ?_ _ _ _ _ | (with_reducible refine Cs.other4 ?_ ?_ _ _ _ _; rotate_left; focus (first | assumption | omega | (simp; done) | (simp; omega))) | with_reducible refine Cs.set2 ?_ _ _ | (with_reducible refine Cs.other2 ?_ ?_ _ _; rotate_left; focus (first | assumption | omega | (simp; done) | (simp; omega))) | (with_reducible refine Cs.other ?_ ?_ _; rotate_left; focus (first | assumption | omega | (simp; done) | (simp; omega))) | with_reducible refine Cs.keep ?_ (by assumption) | assumption)) hb3
  replace B2 : Cs w3 (w.heap.size + 1 + 1) #[.int .i64 oN, .int .i64 oD] := Cs.keep (by repeat (first | with_reducible assumption | (with_reducible refine Cs.new _ _ _ _ ?_; first | rfl | (simp; done)) | with_reducible refine Cs.alloc ?_ _ | with_reducible refine Cs.drewN ?_ _ | with_reducible refine Cs.drew ?_ | with_reducible refine Cs.set4 ?_ _ _ _ _ | (with_reducible refine Cs.other4 ?_ ?_ _ _ _ _; rotate_left; focus (first | assumption | omega | (simp; done) | (simp; omega))) | with_reducible refine Cs.set2 ?_ _ _ | (with_reducible refine Cs.other2 ?_ ?_ _ _; rotate_left; focus (first | assumption | omega | (simp; done) | (simp; omega))) | (with_reducible refine Cs.other ?_ ?_ _; rotate_left; focus (first | assumption | omega | (simp; done) | (simp; omega))) | with_reducible refine Cs.keep ?_ (by assumption) | assumption)) hb3
  replace B3 : Cs w3 (w.heap.size + 1 + 1 + 1) #[.int .i64 iN, .int .i64 iD] := Cs.keep (by repeat (first | with_reducible assumption | (with_reducible refine Cs.new _ _ _ _ ?_; first | rfl | (simp; done)) | with_reducible refine Cs.alloc ?_ _ | with_reducible refine Cs.drewN ?_ _ | with_reducible refine Cs.drew ?_ | with_reducible refine Cs.set4 ?_ _ _ _ _ | (with_reducible refine Cs.other4 ?_ ?_ _ _ _ _; rotate_left; focus (first | assumption | omega | (simp; done) | (simp; omega))) | with_reducible refine Cs.set2 ?_ _ _ | (with_reducible refine Cs.other2 ?_ ?_ _ _; rotate_left; focus (first | assumption | omega | (simp; done) | (simp; omega))) | (with_reducible refine Cs.other ?_ ?_ _; rotate_left; focus (first | assumption | omega | (simp; done) | (simp; omega))) | with_reducible refine Cs.keep ?_ (by assumption) | assumption)) hb3
  replace B4 : Cs w3 (w.heap.size + 1 + 1 + 1 + 1) #[.int .i64 0, .int .i64 0] := Cs.keep (by repeat (first | with_reducible assumption | (with_reducible refine Cs.new _ _ _ _ ?_; first | rfl | (simp; done)) | with_reducible refine Cs.alloc ?_ _ | with_reducible refine Cs.drewN ?_ _ | with_reducible refine Cs.drew ?_ | with_reducible refine Cs.set4 ?_ _ _ _ _ | (with_reducible refine Cs.other4 ?_ ?_ _ _ _ _; rotate_left; focus (first | assumption | omega | (simp; done) | (simp; omega))) | with_reducible refine Cs.set2 ?_ _ _ | (with_reducible refine Cs.other2 ?_ ?_ _ _; rotate_left; focus (first | assumption | omega | (simp; done) | (simp; omega))) | (with_reducible refine Cs.other ?_ ?_ _; rotate_left; focus (first | assumption | omega | (simp; done) | (simp; omega))) | with_reducible refine Cs.keep ?_ (by assumption) | assumption)) hb3
  replace hbw : Below w.heap.size w w3 := (by repeat (first | with_reducible exact Below.refl _ _ | with_reducible assumption | with_reducible refine balloc ?_ _ | with_reducible refine bdrewN ?_ _ | with_reducible refine Below.drew ?_ | (with_reducible refine bset ?_ ?_ _; rotate_left; focus (first | assumption | omega | (simp; done) | (simp; omega))) | with_reducible refine bstep ?_ (by assumption) | assumption))
  replace cB0 := B0.c
  replace fB0 := B0.f
  replace lB0 := B0.lt
  replace cB1 := B1.c
  replace fB1 := B1.f
  replace lB1 := B1.lt
  replace cB2 := B2.c
  replace fB2 := B2.f
  replace lB2 := B2.lt
  replace cB3 := B3.c
  replace fB3 := B3.f
  replace lB3 := B3.lt
  replace cB4 := B4.c
  replace fB4 := B4.f
  replace lB4 := B4.lt
  clear hb3
  go_wp2_with fail
  refine (k4 _).mono ?_
  rintro e w4 ⟨rfl, hb4⟩
  replace B0 : Cs w4 (w.heap.size) #[.int .i64 gN, .int .i64 gD] := Cs.keep (by repeat (first | with_reducible assumption | (with_reducible refine Cs.new _ _ _ _ ?_; first | rfl | (simp; done)) | with_reducible refine Cs.alloc ?_ _ | with_reducible refine Cs.drewN ?_ _ | with_reducible refine Cs.drew ?_ | with_reducible refine Cs.set4 ?_ _ _ _ _ | (with_reducible refine Cs.other4 ?_ ?_ _ _ _ _; rotate_left; focus (first | assumption | omega | (simp; done) | (simp; omega))) | with_reducible refine Cs.set2 ?_ _ _ | (with_reducible refine Cs.other2 ?_ ?_ _ _; rotate_left; focus (first | assumption | omega | (simp; done) | (simp; omega))) | (with_reducible refine Cs.other ?_ ?_ _; rotate_left; focus (first | assumption | omega | (simp; done) | (simp; omega))) | with_reducible refine Cs.keep ?_ (by assumption) | assumption)) hb4
  replace B1 : Cs w4 (w.heap.size + 1) #[.int .i64 sN, .int .i64 sD] := Cs.keep (by repeat (first | with_reducible assumption | (with_reducible refine Cs.new _ _ _ _ ?_; first | rfl | (simp; done)) | with_reducible refine Cs.alloc ?_ _ | with_reducible refine Cs.drewN ?_ _ | with_reducible refine Cs.drew ?_ | with_reducible refine Cs.set4 ?_ _ _ _ _ | (with_reducible refine Cs.other4 ?_ ?_ _ _ _ _; rotate_left; focus (first | assumption | omega | (simp; done) | (simp; omega))) | with_reducible refine Cs.set2 ?_ _ _ | (with_reducible refine Cs.other2 ?_ ?_ _ _; rotate_left; focus (first | assumption | omega | (simp; done) | (simp; omega))) | (with_reducible refine Cs.other ?_ ?_ _; rotate_left; focus (first | assumption | omega | (simp; done) | (simp; omega))) | with_reducible refine Cs.keep ?_ (by assumption) | assumption)) hb4
  replace B2 : Cs w4 (w.heap.size + 1 + 1) #[.int .i64 oN, .int .i64 oD] := Cs.keep (by repeat (first | with_reducible assumption | (with_reducible refine Cs.new _ _ _ _ ?_; first | rfl | (simp; done)) | with_reducible refine Cs.alloc ?_ _ | with_reducible refine Cs.drewN ?_ _ | with_reducible refine Cs.drew ?_ | with_reducible refine Cs.set4 ?_ _ _ _ _ | (with_reducible refine Cs.other4 ?_ ?_ _ _ _ _; rotate_left; focus (first | assumption | omega | (simp; done) | (simp; omega))) | with_reducible refine Cs.set2 ?_ _ _ | (with_reducible refine Cs.other2 ?_ ?_ _ _; rotate_left; focus (first | assumption | omega | (simp; done) | (simp; omega))) | (with_reducible refine Cs.other ?_ ?_ _; rotate_left; focus (first | assumption | omega | (simp; done) | (simp; omega))) | with_reducible refine Cs.keep ?_ (by assumption) | assumption)) hb4
  replace B3 : Cs w4 (w.heap.size + 1 + 1 + 1) #[.int .i64 iN, .int .i64 iD] := Cs.keep (by repeat (first | with_reducible assumption | (with_reducible refine Cs.new _ _ _ _ ?_; first | rfl | (simp; done)) | with_reducible refine Cs.alloc ?_ _ | with_reducible refine Cs.drewN ?_ _ | with_reducible refine Cs.drew ?_ | with_reducible refine Cs.set4 ?_ _ _ _ _ | (with_reducible refine Cs.other4 ?_ ?_ _ _ _ _; rotate_left; focus (first | assumption | omega | (simp; done) | (simp; omega))) | with_reducible refine Cs.set2 ?_ _ _ | (with_reducible refine Cs.other2 ?_ ?_ _ _; rotate_left; focus (first | assumption | omega | (simp; done) | (simp; omega))) | (with_reducible refine Cs.other ?_ ?_ _; rotate_left; focus (first | assumption | omega | (simp; done) | (simp; omega))) | with_reducible refine Cs.keep ?_ (by assumption) | assumption)) hb4
  replace B4 : Cs w4 (w.heap.size + 1 + 1 + 1 + 1) #[.int .i64 0, .int .i64 0] := Cs.keep (by repeat (first | with_reducible assumption | (with_reducible refine Cs.new _ _ _ _ ?_; first | rfl | (simp; done)) | with_reducible refine Cs.alloc ?_ _ | with_reducible refine Cs.drewN ?_ _ | with_reducible refine Cs.drew ?_ | with_reducible refine Cs.set4 ?_ _ _ _ _ | (with_reducible refine Cs.other4 ?_ ?_ _ _ _ _; rotate_left; focus (first | assumption | omega | (simp; done) | (simp; omega))) | with_reducible refine Cs.set2 ?_ _ _ | (with_reducible refine Cs.other2 ?_ ?_ _ _; rotate_left; focus (first | assumption | omega | (simp; done) | (simp; omega))) | (with_reducible refine Cs.other ?_ ?_ _; rotate_left; focus (first | assumption | omega | (simp; done) | (simp; omega))) | with_reducible refine Cs.keep ?_ (by assumption) | assumption)) hb4
  replace hbw : Below w.heap.size w w4 := (by repeat (first | with_reducible exact Below.refl _ _ | with_reducible assumption | with_reducible refine balloc ?_ _ | with_reducible refine bdrewN ?_ _ | with_reducible refine Below.drew ?_ | (with_reducible refine bset ?_ ?_ _; rotate_left; focus (first | assumption | omega | (simp; done) | (simp; omega))) | with_reducible refine bstep ?_ (by assumption) | assumption))
  replace cB0 := B0.c
  replace fB0 := B0.f
  replace lB0 := B0.lt
  replace cB1 := B1.c
  replace fB1 := B1.f
  replace lB1 := B1.lt
  replace cB2 := B2.c
  replace fB2 := B2.f
  replace lB2 := B2.lt
  replace cB3 := B3.c
  replace fB3 := B3.f
  replace lB3 := B3.lt
  replace cB4 := B4.c
  replace fB4 := B4.f
  replace lB4 := B4.lt
  clear hb4
  clear k1 k2 k3 k4
  go_wp2_with fail
  go_loopw [10] (fun s10 wr => ∃ p : Nat, 1 ≤ p ∧ p ≤ 13 ∧ s10 = .int .i64 p ∧ Hid (Em.planFrom (planQ gN gD sN sD oN oD iN iD) 1 12 = Em.planFrom (planQ gN gD sN sD oN oD iN iD) p (13 - p)) ∧
      Cs wr w.heap.size #[.int .i64 gN, .int .i64 gD] ∧ Cs wr (w.heap.size + 1) #[.int .i64 sN, .int .i64 sD] ∧ Cs wr (w.heap.size + 1 + 1) #[.int .i64 oN, .int .i64 oD] ∧ Cs wr (w.heap.size + 1 + 1 + 1) #[.int .i64 iN, .int .i64 iD] ∧ Cs wr (w.heap.size + 1 + 1 + 1 + 1) #[.int .i64 0, .int .i64 0] ∧ Below w.heap.size w wr) (fun s10 _ => 13 - (intOf s10).toNat)
  case atStart => exact ⟨1, by omega, by omega, rfl, Lib.hid rfl, B0, B1, B2, B3, B4, hbw⟩
  case round =>
    clear B0 B1 B2 B3 B4 hbw cB0 fB0 lB0 cB1 fB1 lB1 cB2 fB2 lB2 cB3 fB3 lB3 cB4 fB4 lB4
    obtain ⟨p, hp1, hp2, rfl, Hpl, B0, B1, B2, B3, B4, hbw⟩ := hrel
    by_cases hp : p ≤ 12
    · have hpI : (p : Int) ≤ 12 := by omega
      have ka := fun W => runs_any p gN gD W hp a3 a4 a2
      have kb := fun W => runs_any p sN sD W hp b3 b4 b2
      unfold arr at ka kb
      have cB0 := B0.c
      have fB0 := B0.f
      have lB0 := B0.lt
      have cB1 := B1.c
      have fB1 := B1.f
      have lB1 := B1.lt
      go_wp2_with fail
      refine (ka _).mono ?_
      rintro e w5 ⟨rfl, hb5⟩
      replace B0 : Cs w5 (w.heap.size) #[.int .i64 gN, .int .i64 gD] := Cs.keep (by repeat (first | with_reducible assumption | (with_reducible refine Cs.new _ _ _ _ ?_; first | rfl | (simp; done)) | with_reducible refine Cs.alloc ?_ _ | with_reducible refine Cs.drewN ?_ _ | with_reducible refine Cs.drew ?_ | with_reducible refine Cs.set4 ?_ _ _ _ _ | (with_reducible refine Cs.other4 ?_ ?_ _ _ _ _; rotate_left; focus (first | assumption | omega | (simp; done) | (simp; omega))) | with_reducible refine Cs.set2 ?_ _ _ | (with_reducible refine Cs.other2 ?_ ?_ _ _; rotate_left; focus (first | assumption | omega | (simp; done) | (simp; omega))) | (with_reducible refine Cs.other ?_ ?_ _; rotate_left; focus (first | assumption | omega | (simp; done) | (simp; omega))) | with_reducible refine Cs.keep ?_ (by assumption) | assumption)) hb5
      replace B1 : Cs w5 (w.heap.size + 1) #[.int .i64 sN, .int .i64 sD] := Cs.keep (by repeat (first | with_reducible assumption | (with_reducible refine Cs.new _ _ _ _ ?_; first | rfl | (simp; done)) | with_reducible refine Cs.alloc ?_ _ | with_reducible refine Cs.drewN ?_ _ | with_reducible refine Cs.drew ?_ | with_reducible refine Cs.set4 ?_ _ _ _ _ | (with_reducible refine Cs.other4 ?_ ?_ _ _ _ _; rotate_left; focus (first | assumption | omega | (simp; done) | (simp; omega))) | with_reducible refine Cs.set2 ?_ _ _ | (with_reducible refine Cs.other2 ?_ ?_ _ _; rotate_left; focus (first | assumption | omega | (simp; done) | (simp; omega))) | (with_reducible refine Cs.other ?_ ?_ _; rotate_left; focus (first | assumption | omega | (simp; done) | (simp; omega))) | with_reducible refine Cs.keep ?_ (by assumption) | assumption)) hb5
      replace B2 : Cs w5 (w.heap.size + 1 + 1) #[.int .i64 oN, .int .i64 oD] := Cs.keep (by repeat (first | with_reducible assumption | (with_reducible refine Cs.new _ _ _ _ ?_; first | rfl | (simp; done)) | with_reducible refine Cs.alloc ?_ _ | with_reducible refine Cs.drewN ?_ _ | with_reducible refine Cs.drew ?_ | with_reducible refine Cs.set4 ?_ _ _ _ _ | (with_reducible refine Cs.other4 ?_ ?_ _ _ _ _; rotate_left; focus (first | assumption | omega | (simp; done) | (simp; omega))) | with_reducible refine Cs.set2 ?_ _ _ | (with_reducible refine Cs.other2 ?_ ?_ _ _; rotate_left; focus (first | assumption | omega | (simp; done) | (simp; omega))) | (with_reducible refine Cs.other ?_ ?_ _; rotate_left; focus (first | assumption | omega | (simp; done) | (simp; omega))) | with_reducible refine Cs.keep ?_ (by assumption) | assumption)) hb5
      replace B3 : Cs w5 (w.heap.size + 1 + 1 + 1) #[.int .i64 iN, .int .i64 iD] := Cs.keep (by repeat (first | with_reducible assumption | (with_reducible refine Cs.new _ _ _ _ ?_; first | rfl | (simp; done)) | with_reducible refine Cs.alloc ?_ _ | with_reducible refine Cs.drewN ?_ _ | with_reducible refine Cs.drew ?_ | with_reducible refine Cs.set4 ?_ _ _ _ _ | (with_reducible refine Cs.other4 ?_ ?_ _ _ _ _; rotate_left; focus (first | assumption | omega | (simp; done) | (simp; omega))) | with_reducible refine Cs.set2 ?_ _ _ | (with_reducible refine Cs.other2 ?_ ?_ _ _; rotate_left; focus (first | assumption | omega | (simp; done) | (simp; omega))) | (with_reducible refine Cs.other ?_ ?_ _; rotate_left; focus (first | assumption | omega | (simp; done) | (simp; omega))) | with_reducible refine Cs.keep ?_ (by assumption) | assumption)) hb5
      replace B4 : Cs w5 (w.heap.size + 1 + 1 + 1 + 1) #[.int .i64 0, .int .i64 0] := Cs.keep (by repeat (first | with_reducible assumption | (with_reducible refine Cs.new _ _ _ _ ?_; first | rfl | (simp; done)) | with_reducible refine Cs.alloc ?_ _ | with_reducible refine Cs.drewN ?_ _ | with_reducible refine Cs.drew ?_ | with_reducible refine Cs.set4 ?_ _ _ _ _ | (with_reducible refine Cs.other4 ?_ ?_ _ _ _ _; rotate_left; focus (first | assumption | omega | (simp; done) | (simp; omega))) | with_reducible refine Cs.set2 ?_ _ _ | (with_reducible refine Cs.other2 ?_ ?_ _ _; rotate_left; focus (first | assumption | omega | (simp; done) | (simp; omega))) | (with_reducible refine Cs.other ?_ ?_ _; rotate_left; focus (first | assumption | omega | (simp; done) | (simp; omega))) | with_reducible refine Cs.keep ?_ (by assumption) | assumption)) hb5
      replace hbw : Below w.heap.size w w5 := (by repeat (first | with_reducible exact Below.refl _ _ | with_reducible assumption | with_reducible refine balloc ?_ _ | with_reducible refine bdrewN ?_ _ | with_reducible refine Below.drew ?_ | (with_reducible refine bset ?_ ?_ _; rotate_left; focus (first | assumption | omega | (simp; done) | (simp; omega))) | with_reducible refine bstep ?_ (by assumption) | assumption))
      replace cB0 := B0.c
      replace fB0 := B0.f
      replace lB0 := B0.lt
      replace cB1 := B1.c
      replace fB1 := B1.f
      replace lB1 := B1.lt
      replace cB2 := B2.c
      replace fB2 := B2.f
      replace lB2 := B2.lt
      replace cB3 := B3.c
      replace fB3 := B3.f
      replace lB3 := B3.lt
      replace cB4 := B4.c
      replace fB4 := B4.f
      replace lB4 := B4.lt
      clear hb5
      have n5 : w.heap.size + 1 + 1 + 1 + 1 < w5.heap.size := B4.lt
      go_wp2_with fail
      refine (kb _).mono ?_
      rintro e w6 ⟨rfl, hb6⟩
      replace B0 : Cs w6 (w.heap.size) #[.int .i64 gN, .int .i64 gD] := Cs.keep (by repeat (first | with_reducible assumption | (with_reducible refine Cs.new _ _ _ _ ?_; first | rfl | (simp; done)) | with_reducible refine Cs.alloc ?_ _ | with_reducible refine Cs.drewN ?_ _ | with_reducible refine Cs.drew ?_ | with_reducible refine Cs.set4 ?_ _ _ _ _ | (with_reducible refine Cs.other4 ?_ ?_ _ _ _ _; rotate_left; focus (first | assumption | omega | (simp; done) | (simp; omega))) | with_reducible refine Cs.set2 ?_ _ _ | (with_reducible refine Cs.other2 ?_ ?_ _ _; rotate_left; focus (first | assumption | omega | (simp; done) | (simp; omega))) | (with_reducible refine Cs.other ?_ ?_ _; rotate_left; focus (first | assumption | omega | (simp; done) | (simp; omega))) | with_reducible refine Cs.keep ?_ (by assumption) | assumption)) hb6
      replace B1 : Cs w6 (w.heap.size + 1) #[.int .i64 sN, .int .i64 sD] := Cs.keep (by repeat (first | with_reducible assumption | (with_reducible refine Cs.new _ _ _ _ ?_; first | rfl | (simp; done)) | with_reducible refine Cs.alloc ?_ _ | with_reducible refine Cs.drewN ?_ _ | with_reducible refine Cs.drew ?_ | with_reducible refine Cs.set4 ?_ _ _ _ _ | (with_reducible refine Cs.other4 ?_ ?_ _ _ _ _; rotate_left; focus (first | assumption | omega | (simp; done) | (simp; omega))) | with_reducible refine Cs.set2 ?_ _ _ | (with_reducible refine Cs.other2 ?_ ?_ _ _; rotate_left; focus (first | assumption | omega | (simp; done) | (simp; omega))) | (with_reducible refine Cs.other ?_ ?_ _; rotate_left; focus (first | assumption | omega | (simp; done) | (simp; omega))) | with_reducible refine Cs.keep ?_ (by assumption) | assumption)) hb6
      replace B2 : Cs w6 (w.heap.size + 1 + 1) #[.int .i64 oN, .int .i64 oD] := Cs.keep (by repeat (first | with_reducible assumption | (with_reducible refine Cs.new _ _ _ _ ?_; first | rfl | (simp; done)) | with_reducible refine Cs.alloc ?_ _ | with_reducible refine Cs.drewN ?_ _ | with_reducible refine Cs.drew ?_ | with_reducible refine Cs.set4 ?_ _ _ _ _ | (with_reducible refine Cs.other4 ?_ ?_ _ _ _ _; rotate_left; focus (first | assumption | omega | (simp; done) | (simp; omega))) | with_reducible refine Cs.set2 ?_ _ _ | (with_reducible refine Cs.other2 ?_ ?_ _ _; rotate_left; focus (first | assumption | omega | (simp; done) | (simp; omega))) | (with_reducible refine Cs.other ?_ ?_ _; rotate_left; focus (first | assumption | omega | (simp; done) | (simp; omega))) | with_reducible refine Cs.keep ?_ (by assumption) | assumption)) hb6
      replace B3 : Cs w6 (w.heap.size + 1 + 1 + 1) #[.int .i64 iN, .int .i64 iD] := Cs.keep (by repeat (first | with_reducible assumption | (with_reducible refine Cs.new _ _ _ _ ?_; first | rfl | (simp; done)) | with_reducible refine Cs.alloc ?_ _ | with_reducible refine Cs.drewN ?_ _ | with_reducible refine Cs.drew ?_ | with_reducible refine Cs.set4 ?_ _ _ _ _ | (with_reducible refine Cs.other4 ?_ ?_ _ _ _ _; rotate_left; focus (first | assumption | omega | (simp; done) | (simp; omega))) | with_reducible refine Cs.set2 ?_ _ _ | (with_reducible refine Cs.other2 ?_ ?_ _ _; rotate_left; focus (first | assumption | omega | (simp; done) | (simp; omega))) | (with_reducible refine Cs.other ?_ ?_ _; rotate_left; focus (first | assumption | omega | (simp; done) | (simp; omega))) | with_reducible refine Cs.keep ?_ (by assumption) | assumption)) hb6
      replace B4 : Cs w6 (w.heap.size + 1 + 1 + 1 + 1) #[.int .i64 0, .int .i64 0] := Cs.keep (by repeat (first | with_reducible assumption | (with_reducible refine Cs.new _ _ _ _ ?_; first | rfl | (simp; done)) | with_reducible refine Cs.alloc ?_ _ | with_reducible refine Cs.drewN ?_ _ | with_reducible refine Cs.drew ?_ | with_reducible refine Cs.set4 ?_ _ _ _ _ | (with_reducible refine Cs.other4 ?_ ?_ _ _ _ _; rotate_left; focus (first | assumption | omega | (simp; done) | (simp; omega))) | with_reducible refine Cs.set2 ?_ _ _ | (with_reducible refine Cs.other2 ?_ ?_ _ _; rotate_left; focus (first | assumption | omega | (simp; done) | (simp; omega))) | (with_reducible refine Cs.other ?_ ?_ _; rotate_left; focus (first | assumption | omega | (simp; done) | (simp; omega))) | with_reducible refine Cs.keep ?_ (by assumption) | assumption)) hb6
      replace Ba : Cs w6 (w5.heap.size) #[.int .i64 (cnt gN (gD - gN) p 0), .int .i64 (cnt gN (gD - gN) p 1), .int .i64 (cnt gN (gD - gN) p 2), .int .i64 (cnt gN (gD - gN) p 3), .int .i64 (cnt gN (gD - gN) p 4), .int .i64 (cnt gN (gD - gN) p 5), .int .i64 (cnt gN (gD - gN) p 6), .int .i64 (cnt gN (gD - gN) p 7), .int .i64 (cnt gN (gD - gN) p 8), .int .i64 (cnt gN (gD - gN) p 9), .int .i64 (cnt gN (gD - gN) p 10), .int .i64 (cnt gN (gD - gN) p 11), .int .i64 (cnt gN (gD - gN) p 12)] := Cs.keep (by repeat (first | with_reducible assumption | (with_reducible refine Cs.new _ _ _ _ ?_; first | rfl | (simp; done)) | with_reducible refine Cs.alloc ?_ _ | with_reducible refine Cs.drewN ?_ _ | with_reducible refine Cs.drew ?_ | with_reducible refine Cs.set4 ?_ _ _ _ _ | (with_reducible refine Cs.other4 ?_ ?_ _ _ _ _; rotate_left; focus (first | assumption | omega | (simp; done) | (simp; omega))) | with_reducible refine Cs.set2 ?_ _ _ | (with_reducible refine Cs.other2 ?_ ?_ _ _; rotate_left; focus (first | assumption | omega | (simp; done) | (simp; omega))) | (with_reducible refine Cs.other ?_ ?_ _; rotate_left; focus (first | assumption | omega | (simp; done) | (simp; omega))) | with_reducible refine Cs.keep ?_ (by assumption) | assumption)) hb6
      replace hbw : Below w.heap.size w w6 := (by repeat (first | with_reducible exact Below.refl _ _ | with_reducible assumption | with_reducible refine balloc ?_ _ | with_reducible refine bdrewN ?_ _ | with_reducible refine Below.drew ?_ | (with_reducible refine bset ?_ ?_ _; rotate_left; focus (first | assumption | omega | (simp; done) | (simp; omega))) | with_reducible refine bstep ?_ (by assumption) | assumption))
      replace cB0 := B0.c
      replace fB0 := B0.f
      replace lB0 := B0.lt
      replace cB1 := B1.c
      replace fB1 := B1.f
      replace lB1 := B1.lt
      replace cB2 := B2.c
      replace fB2 := B2.f
      replace lB2 := B2.lt
      replace cB3 := B3.c
      replace fB3 := B3.f
      replace lB3 := B3.lt
      replace cB4 := B4.c
      replace fB4 := B4.f
      replace lB4 := B4.lt
      replace cBa := Ba.c
      replace fBa := Ba.f
      replace lBa := Ba.lt
      clear hb6
      have n6 : w5.heap.size < w6.heap.size := Ba.lt
      go_wp2_with fail
      have hgM : 0 ≤ gD - gN := by omega
      have hsM : 0 ≤ sD - sN := by omega
      have wg1 := pow_pos a1 p
      have wg2 := pow_le (show 0 ≤ gD by omega) a2 p hp
      have ws1 := pow_pos b1 p
      have ws2 := pow_le (show 0 ≤ sD by omega) b2 p hp
      have eg : gN + (gD - gN) = gD := by omega
      have es : sN + (sD - sN) = sD := by omega
      have HT := Lib.hid (fun r => (⟨Em.tail_nonneg a3 hgM p r, by have := Em.tail_bound a3 hgM p r; rw [eg] at this; exact this⟩ : 0 ≤ Em.tail gN (gD - gN) p r ∧ Em.tail gN (gD - gN) p r ≤ gD ^ p))
      have HH := Lib.hid (fun r => (⟨Em.head_nonneg b3 hsM p r, by have := Em.head_bound b3 hsM p r; rw [es] at this; exact this⟩ : 0 ≤ Em.head sN (sD - sN) p r ∧ Em.head sN (sD - sN) p r ≤ sD ^ p))
      have HTs := Lib.hid (fun r (hr : r ≤ 12) => (by rw [part_sum, show r + (13 - r) = p + 1 + (12 - p) by omega, Em.head_full]; rfl : Em.tail gN (gD - gN) p r = (part (cnt gN (gD - gN) p) r (13 - r)).sum))
      have HHs := Lib.hid (fun r => (by rw [part_sum]; simp [Em.head] : Em.head sN (sD - sN) p r = (part (cnt sN (sD - sN) p) 0 r).sum))
      have Hm := Lib.hid (fun r s (h : r ≤ s) => Em.head_le b3 hsM p r s h)
      have Hg0 := Lib.hid (fun r m => part_nonneg a3 hgM p r m)
      have Hs0 := Lib.hid (fun r m => part_nonneg b3 hsM p r m)
      have Hq : Hid (∀ y, planQ gN gD sN sD oN oD iN iD p y = (decide (Em.tail gN (gD - gN) p y * oD ≤ oN * gD ^ p) && decide (Em.head sN (sD - sN) p y * iD ≤ iN * sD ^ p))) := Lib.hid (fun y => by unfold planQ Em.keeps; rw [eg, es])
      generalize hfa : cnt gN (gD - gN) p = fa at *
      generalize hfb : cnt sN (sD - sN) p = fb at *
      have Bb : Cs (w6.alloc (.cells #[.int .i64 (fb 0), .int .i64 (fb 1), .int .i64 (fb 2), .int .i64 (fb 3), .int .i64 (fb 4), .int .i64 (fb 5), .int .i64 (fb 6), .int .i64 (fb 7), .int .i64 (fb 8), .int .i64 (fb 9), .int .i64 (fb 10), .int .i64 (fb 11), .int .i64 (fb 12)] 93)) w6.heap.size (arr fb) := Cs.new _ _ _ _ rfl
      have Ba2 : Cs (w6.alloc (.cells #[.int .i64 (fb 0), .int .i64 (fb 1), .int .i64 (fb 2), .int .i64 (fb 3), .int .i64 (fb 4), .int .i64 (fb 5), .int .i64 (fb 6), .int .i64 (fb 7), .int .i64 (fb 8), .int .i64 (fb 9), .int .i64 (fb 10), .int .i64 (fb 11), .int .i64 (fb 12)] 93)) w5.heap.size (arr fa) := Ba.alloc _
      replace B0 := B0.alloc (.cells #[.int .i64 (fb 0), .int .i64 (fb 1), .int .i64 (fb 2), .int .i64 (fb 3), .int .i64 (fb 4), .int .i64 (fb 5), .int .i64 (fb 6), .int .i64 (fb 7), .int .i64 (fb 8), .int .i64 (fb 9), .int .i64 (fb 10), .int .i64 (fb 11), .int .i64 (fb 12)] 93)
      replace B1 := B1.alloc (.cells #[.int .i64 (fb 0), .int .i64 (fb 1), .int .i64 (fb 2), .int .i64 (fb 3), .int .i64 (fb 4), .int .i64 (fb 5), .int .i64 (fb 6), .int .i64 (fb 7), .int .i64 (fb 8), .int .i64 (fb 9), .int .i64 (fb 10), .int .i64 (fb 11), .int .i64 (fb 12)] 93)
      replace B2 := B2.alloc (.cells #[.int .i64 (fb 0), .int .i64 (fb 1), .int .i64 (fb 2), .int .i64 (fb 3), .int .i64 (fb 4), .int .i64 (fb 5), .int .i64 (fb 6), .int .i64 (fb 7), .int .i64 (fb 8), .int .i64 (fb 9), .int .i64 (fb 10), .int .i64 (fb 11), .int .i64 (fb 12)] 93)
      replace B3 := B3.alloc (.cells #[.int .i64 (fb 0), .int .i64 (fb 1), .int .i64 (fb 2), .int .i64 (fb 3), .int .i64 (fb 4), .int .i64 (fb 5), .int .i64 (fb 6), .int .i64 (fb 7), .int .i64 (fb 8), .int .i64 (fb 9), .int .i64 (fb 10), .int .i64 (fb 11), .int .i64 (fb 12)] 93)
      replace B4 := B4.alloc (.cells #[.int .i64 (fb 0), .int .i64 (fb 1), .int .i64 (fb 2), .int .i64 (fb 3), .int .i64 (fb 4), .int .i64 (fb 5), .int .i64 (fb 6), .int .i64 (fb 7), .int .i64 (fb 8), .int .i64 (fb 9), .int .i64 (fb 10), .int .i64 (fb 11), .int .i64 (fb 12)] 93)
      replace hbw := balloc hbw (.cells #[.int .i64 (fb 0), .int .i64 (fb 1), .int .i64 (fb 2), .int .i64 (fb 3), .int .i64 (fb 4), .int .i64 (fb 5), .int .i64 (fb 6), .int .i64 (fb 7), .int .i64 (fb 8), .int .i64 (fb 9), .int .i64 (fb 10), .int .i64 (fb 11), .int .i64 (fb 12)] 93)
      clear Ba cBa fBa lBa cB0 fB0 lB0 cB1 fB1 lB1 cB2 fB2 lB2 cB3 fB3 lB3 cB4 fB4 lB4 ka kb hgM hsM eg es
      generalize w6.alloc (.cells #[.int .i64 (fb 0), .int .i64 (fb 1), .int .i64 (fb 2), .int .i64 (fb 3), .int .i64 (fb 4), .int .i64 (fb 5), .int .i64 (fb 6), .int .i64 (fb 7), .int .i64 (fb 8), .int .i64 (fb 9), .int .i64 (fb 10), .int .i64 (fb 11), .int .i64 (fb 12)] 93) = w7 at *
      generalize (#[.int .i64 (fa 0), .int .i64 (fa 1), .int .i64 (fa 2), .int .i64 (fa 3), .int .i64 (fa 4), .int .i64 (fa 5), .int .i64 (fa 6), .int .i64 (fa 7), .int .i64 (fa 8), .int .i64 (fa 9), .int .i64 (fa 10), .int .i64 (fa 11), .int .i64 (fa 12)] : Array Value) = VA at *
      generalize (#[.int .i64 (fb 0), .int .i64 (fb 1), .int .i64 (fb 2), .int .i64 (fb 3), .int .i64 (fb 4), .int .i64 (fb 5), .int .i64 (fb 6), .int .i64 (fb 7), .int .i64 (fb 8), .int .i64 (fb 9), .int .i64 (fb 10), .int .i64 (fb 11), .int .i64 (fb 12)] : Array Value) = VB at *
      clear hfa hfb
      generalize w5.heap.size = ga at *
      generalize w6.heap.size = gb at *
      generalize gD ^ p = WG at *
      generalize sD ^ p = WS at *
      go_loopw [53] (fun s53 wx => ∃ (r : Nat) (W : World), r ≤ p + 1 ∧ s53 = .int .i64 r ∧ Hid (W = wx) ∧ Hid (∀ y, y < r → oN * WG < Em.tail gN (gD - gN) p y * oD) ∧
          Cs W w.heap.size #[.int .i64 gN, .int .i64 gD] ∧ Cs W (w.heap.size + 1) #[.int .i64 sN, .int .i64 sD] ∧ Cs W (w.heap.size + 1 + 1) #[.int .i64 oN, .int .i64 oD] ∧ Cs W (w.heap.size + 1 + 1 + 1) #[.int .i64 iN, .int .i64 iD] ∧ Cs W (w.heap.size + 1 + 1 + 1 + 1) #[.int .i64 0, .int .i64 0] ∧ Cs W ga (arr fa) ∧ Cs W gb (arr fb) ∧ Below w.heap.size w W) (fun s53 _ => (p + 1) - (intOf s53).toNat)
      case atStart => exact ⟨0, _, by omega, rfl, Lib.hid rfl, Lib.hid (fun y hy => absurd hy (by omega)), B0, B1, B2, B3, B4, Ba2, Bb, hbw⟩
      case round =>
        clear B0 B1 B2 B3 B4 Ba2 Bb hbw
        obtain ⟨r, W, hr, rfl, HW, Hno, B0, B1, B2, B3, B4, Ba, Bb, hbw⟩ := hrel
        obtain rfl := HW.out
        clear HW
        by_cases hrp : r < p + 1
        · have hrI : (r : Int) < (p : Int) + 1 := by omega
          have r0 : (0 : Int) ≤ (r : Int) := by omega
          have r1 : (r : Int) ≤ 13 := by omega
          have r2 : ¬ 13 - r = 0 := by omega
          have r3 : r ≤ 13 := by omega
          obtain ⟨t0, t1⟩ := HT.out r
          have kt := fun A c W hz => total_same A (13 - r) c (part fa r (13 - r)) W hz (by omega) (Hg0.out r _) (by rw [← HTs.out r (by omega)]; omega) _ (HTs.out r (by omega))
          have Hno1 := Lib.hid (fun (h : oN * WG < Em.tail gN (gD - gN) p r * oD) y (hy : y < r + 1) => (by
            by_cases e : y = r
            · rw [e]; exact h
            · exact Hno.out y (by omega) : oN * WG < Em.tail gN (gD - gN) p y * oD))
          have Hyes := Lib.hid (fun (h : Em.tail gN (gD - gN) p r * oD ≤ oN * WG) => h)
          generalize hT : Em.tail gN (gD - gN) p r = T at *
          have m0 : 0 ≤ T * oD := Int.mul_nonneg t0 (by omega)
          have m1 : T * oD ≤ 1000000000000 * 1000000 := Int.mul_le_mul (by omega) c2 (by omega) (by omega)
          have m2 : 0 ≤ oN * WG := Int.mul_nonneg c3 (by omega)
          have m3 : oN * WG ≤ 1000000 * 1000000000000 := Int.mul_le_mul (by omega) wg2 (by omega) (by omega)
          have f1 : IntKind.i64.wrap (T * oD) = T * oD := IntWalk.i64_in _ (by omega)
          have f2 : IntKind.i64.wrap (oN * WG) = oN * WG := IntWalk.i64_in _ (by omega)
          by_cases hc : oN * WG < T * oD
          · have Hno2 := Lib.hid (Hno1.out (by omega))
            clear Hno Hno1 Hyes m0 m1 m2 m3 t0 t1
            have cB2 := B2.c
            have fB2 := B2.f
            have lB2 := B2.lt
            have cB3 := B3.c
            have fB3 := B3.f
            have lB3 := B3.lt
            go_wp2_with fail
            go_quiet (first | (go_at_call 60; refine Calls.quiet_of_same (kt _ _ _ (part_ints (Ba.drewN _) r (13 - r) (by omega)))))
            go_wp2_with fail
            go_roundw
            case rel => exact ⟨r + 1, _, by omega, by go_num, Lib.hid rfl, Hno2, B0.drewN _, B1.drewN _, B2.drewN _, B3.drewN _, B4.drewN _, Ba.drewN _, Bb.drewN _, bdrewN hbw _⟩
            case measure => simp [intOf]; omega
          · have Hy2 := Lib.hid (Hyes.out (by omega))
            clear Hno1 Hyes m0 m1 m2 m3 t0 t1
            have cB2 := B2.c
            have fB2 := B2.f
            have lB2 := B2.lt
            have cB3 := B3.c
            have fB3 := B3.f
            have lB3 := B3.lt
            go_wp2_with fail
            go_quiet (first | (go_at_call 60; refine Calls.quiet_of_same (kt _ _ _ (part_ints (Ba.drewN _) r (13 - r) (by omega)))))
            replace B0 := B0.drewN nq
            replace B1 := B1.drewN nq
            replace B2 := B2.drewN nq
            replace B3 := B3.drewN nq
            replace B4 := B4.drewN nq
            replace Ba := Ba.drewN nq
            replace Bb := Bb.drewN nq
            replace hbw := bdrewN hbw nq
            clear cB2 fB2 lB2 cB3 fB3 lB3 kt
            generalize W.drewN nq = W1 at *
            obtain ⟨h0, h1⟩ := HH.out r
            have kh := fun A c W hz => total_same A r c (part fb 0 r) W hz (by omega) (Hs0.out 0 _) (by rw [← HHs.out r]; omega) _ (HHs.out r)
            have Hm1 := Lib.hid (fun y (hy : r ≤ y) => Hm.out r y hy)
            have HyesH := Lib.hid (fun (h : Em.head sN (sD - sN) p r * iD ≤ iN * WS) => h)
            have HnoH := Lib.hid (fun (h : ¬ (Em.head sN (sD - sN) p r * iD ≤ iN * WS)) y (hy : r ≤ y) => (by
              have h1 := Hm.out r y hy
              have h2 : Em.head sN (sD - sN) p r * iD ≤ Em.head sN (sD - sN) p y * iD := Int.mul_le_mul_of_nonneg_right h1 (by omega)
              omega : ¬ (Em.head sN (sD - sN) p y * iD ≤ iN * WS)))
            generalize hH : Em.head sN (sD - sN) p r = H at *
            have m0 : 0 ≤ H * iD := Int.mul_nonneg h0 (by omega)
            have m1 : H * iD ≤ 1000000000000 * 1000000 := Int.mul_le_mul (by omega) d2 (by omega) (by omega)
            have m2 : 0 ≤ iN * WS := Int.mul_nonneg d3 (by omega)
            have m3 : iN * WS ≤ 1000000 * 1000000000000 := Int.mul_le_mul (by omega) ws2 (by omega) (by omega)
            have f3 : IntKind.i64.wrap (H * iD) = H * iD := IntWalk.i64_in _ (by omega)
            have f4 : IntKind.i64.wrap (iN * WS) = iN * WS := IntWalk.i64_in _ (by omega)
            clear m0 m1 m2 m3 h0 h1
            by_cases hc2 : H * iD ≤ iN * WS
            · have hfin : R = (((p : Int), (r : Int)), 0) := by
                rw [← HR.out]
                unfold planP
                have e : Em.rightFrom (planQ gN gD sN sD oN oD iN iD p) 0 (p + 1) = some r := by
                  refine Em.rf_some hrp ?_ (fun y hy => ?_)
                  · rw [Hq.out r, hT, hH, decide_eq_true Hy2.out, decide_eq_true hc2]; rfl
                  · rw [Hq.out y, decide_eq_false (Int.not_le.2 (Hno.out y hy))]; rfl
                rw [Hpl.out, show 13 - p = (12 - p) + 1 by omega, Em.planFrom, e]
              subst hfin
              clear HR Hpl Hno Hy2 HnoH HyesH Hm1 Hq Hm HT HH HTs HHs hT hH
              have cB3 := B3.c
              have fB3 := B3.f
              have lB3 := B3.lt
              have cB4 := B4.c
              have fB4 := B4.f
              have lB4 := B4.lt
              go_wp2_with fail
              go_quiet (first | (go_at_call 60; refine Calls.quiet_of_same (kh _ _ _ (part_ints (Bb.drewN _) 0 r (by omega)))))
              go_wp2_with fail
              exact bodyPost_ret (v := .tuple #[.agg #[.int .i64 (p : Int), .int .i64 (r : Int)], .int .i64 0]) (by simp [results, Try.results24, go_sem, cB4, fB4, lB4]) rfl ⟨rfl, (by repeat (first | with_reducible exact Below.refl _ _ | with_reducible assumption | with_reducible refine balloc ?_ _ | with_reducible refine bdrewN ?_ _ | with_reducible refine Below.drew ?_ | (with_reducible refine bset ?_ ?_ _; rotate_left; focus (first | assumption | omega | (simp; done) | (simp; omega))) | with_reducible refine bstep ?_ (by assumption) | assumption))⟩
            · have Hpl2 : Hid (Em.planFrom (planQ gN gD sN sD oN oD iN iD) 1 12 = Em.planFrom (planQ gN gD sN sD oN oD iN iD) (p + 1) (13 - (p + 1))) := Lib.hid (by
                have e : Em.rightFrom (planQ gN gD sN sD oN oD iN iD p) 0 (p + 1) = none := by
                  refine Em.rf_none (fun y hy => ?_)
                  rw [Hq.out y]
                  by_cases hyr : y < r
                  · rw [decide_eq_false (Int.not_le.2 (Hno.out y hyr))]; rfl
                  · rw [decide_eq_false (HnoH.out hc2 y (by omega))]; simp
                rw [Hpl.out, show 13 - p = (13 - (p + 1)) + 1 by omega, Em.planFrom, e])
              clear HR Hpl Hno Hy2 HnoH HyesH Hm1 Hq Hm HT HH HTs HHs hT hH
              have cB3 := B3.c
              have fB3 := B3.f
              have lB3 := B3.lt
              go_wp2_with fail
              go_quiet (first | (go_at_call 60; refine Calls.quiet_of_same (kh _ _ _ (part_ints (Bb.drewN _) 0 r (by omega)))))
              go_wp2_with fail
              go_roundw
              case rel => exact ⟨p + 1, by omega, by omega, by go_num, Hpl2, B0.drewN _, B1.drewN _, B2.drewN _, B3.drewN _, B4.drewN _, bdrewN hbw _⟩
              case measure => simp [intOf]; omega
        · obtain rfl : r = p + 1 := by omega
          have Hpl2 : Hid (Em.planFrom (planQ gN gD sN sD oN oD iN iD) 1 12 = Em.planFrom (planQ gN gD sN sD oN oD iN iD) (p + 1) (13 - (p + 1))) := Lib.hid (by
            have e : Em.rightFrom (planQ gN gD sN sD oN oD iN iD p) 0 (p + 1) = none := by
              refine Em.rf_none (fun y hy => ?_)
              rw [Hq.out y, decide_eq_false (Int.not_le.2 (Hno.out y hy))]; rfl
            rw [Hpl.out, show 13 - p = (13 - (p + 1)) + 1 by omega, Em.planFrom, e])
          clear Hpl Hno Hq Hm HT HH HTs HHs
          have f5 : ((p + 1 : Nat) : Int) = (p : Int) + 1 := by omega
          go_wp2_with fail
          go_roundw
          case rel => exact ⟨p + 1, by omega, by omega, by go_num, Hpl2, B0, B1, B2, B3, B4, hbw⟩
          case measure => simp [intOf]; omega
    · obtain rfl : p = 13 := by omega
      have hfin : R = ((0, 0), 22) := by
        rw [← HR.out]
        unfold planP
        rw [Hpl.out]
        rfl
      subst hfin
      clear HR Hpl
      have cB4 := B4.c
      have fB4 := B4.f
      have lB4 := B4.lt
      go_wp2_with fail
      exact bodyPost_ret (v := .tuple #[.agg #[.int .i64 0, .int .i64 0], .int .i64 22]) (by simp [results, Try.results24, go_sem, cB4, fB4, lB4]) rfl ⟨rfl, (by repeat (first | with_reducible exact Below.refl _ _ | with_reducible assumption | with_reducible refine balloc ?_ _ | with_reducible refine bdrewN ?_ _ | with_reducible refine Below.drew ?_ | (with_reducible refine bset ?_ ?_ _; rotate_left; focus (first | assumption | omega | (simp; done) | (simp; omega))) | with_reducible refine bstep ?_ (by assumption) | assumption))⟩

end Go.Proofs.Ytcmllkjgggcghaa
