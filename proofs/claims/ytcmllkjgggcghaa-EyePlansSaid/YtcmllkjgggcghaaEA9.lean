/- Walks of the reference of layer 10: Plan; both Plans for every input. -/
import Derived.Test.YtcmllkjgggcghaaEA8
namespace Go.Proofs.Ytcmllkjgggcghaa
open Go.RowKit Go.Shelf
set_option linter.unusedSimpArgs false
set_option linter.unusedVariables false
open Em (isCh red cnt ch)

set_option maxRecDepth 10000 in
set_option maxHeartbeats 2000000 in
theorem rplan_bad (gN gD sN sD oN oD iN iD : Int) (w : World) (h : ¬ (isCh gN gD 10 = true ∧ isCh sN sD 10 = true ∧ isCh oN oD 1000000 = true ∧ isCh iN iD 1000000 = true)) :
    Calls Try.prog 25 #[.agg #[.int .i64 gN, .int .i64 gD], .agg #[.int .i64 sN, .int .i64 sD], .agg #[.int .i64 oN, .int .i64 oD], .agg #[.int .i64 iN, .int .i64 iD]] w fun e w' => e = RetPL ((0, 0), 2) ∧ Below w.heap.size w w' := by
  unfold RetPL
  have k1 := fun W => risChance_any gN gD 10 W (by omega)
  have k2 := fun W => risChance_any sN sD 10 W (by omega)
  have k3 := fun W => risChance_any oN oD 1000000 W (by omega)
  have k4 := fun W => risChance_any iN iD 1000000 W (by omega)
  generalize isCh gN gD 10 = b1 at *
  generalize isCh sN sD 10 = b2 at *
  generalize isCh oN oD 1000000 = b3 at *
  generalize isCh iN iD 1000000 = b4 at *
  cases b1 with
  | false =>
    clear h
    go_enter Try.func25, Try.ntmps25
    go_wp2_with fail
    refine (k1 _).mono ?_
    rintro e w1 ⟨rfl, hb1⟩
    replace B4 : Cs w1 (w.heap.size + 1 + 1 + 1 + 1) #[.int .i64 0, .int .i64 0] := Cs.keep (by repeat (first | with_reducible assumption | (with_reducible refine Cs.new _ _ _ _ ?_; first | rfl | (simp; done)) | with_reducible refine Cs.alloc ?_ _ | with_reducible refine Cs.drewN ?_ _ | with_reducible refine Cs.drew ?_ | with_reducible refine Cs.set4 ?_ _ _ _ _ | (with_reducible refine Cs.other4 ?_ ?_ _ _ _ _; rotate_left; focus (first | assumption | omega | (simp; done) | (simp; omega))) | with_reducible refine Cs.set2 ?_ _ _ | (with_reducible refine Cs.other2 ?_ ?_ _ _; rotate_left; focus (first | assumption | omega | (simp; done) | (simp; omega))) | (with_reducible refine Cs.other ?_ ?_ _; rotate_left; focus (first | assumption | omega | (simp; done) | (simp; omega))) | with_reducible refine Cs.keep ?_ (by assumption) | assumption)) hb1
    replace hbw : Below w.heap.size w w1 := (by repeat (first | with_reducible exact Below.refl _ _ | with_reducible assumption | with_reducible refine balloc ?_ _ | with_reducible refine bdrewN ?_ _ | with_reducible refine Below.drew ?_ | (with_reducible refine bset ?_ ?_ _; rotate_left; focus (first | assumption | omega | (simp; done) | (simp; omega))) | with_reducible refine bstep ?_ (by assumption) | assumption))
    replace cB4 := B4.c
    replace fB4 := B4.f
    replace lB4 := B4.lt
    clear hb1
    go_wp2_with fail
    exact bodyPost_ret (v := .tuple #[.agg #[.int .i64 0, .int .i64 0], .int .i64 2]) (by simp [results, Try.results25, go_sem, cB4, fB4, lB4]) rfl ⟨rfl, (by repeat (first | with_reducible exact Below.refl _ _ | with_reducible assumption | with_reducible refine balloc ?_ _ | with_reducible refine bdrewN ?_ _ | with_reducible refine Below.drew ?_ | (with_reducible refine bset ?_ ?_ _; rotate_left; focus (first | assumption | omega | (simp; done) | (simp; omega))) | with_reducible refine bstep ?_ (by assumption) | assumption))⟩
  | true =>
    cases b2 with
    | false =>
      clear h
      go_enter Try.func25, Try.ntmps25
      go_wp2_with fail
      refine (k1 _).mono ?_
      rintro e w1 ⟨rfl, hb1⟩
      replace B1 : Cs w1 (w.heap.size + 1) #[.int .i64 sN, .int .i64 sD] := Cs.keep (by repeat (first | with_reducible assumption | (with_reducible refine Cs.new _ _ _ _ ?_; first | rfl | (simp; done)) | with_reducible refine Cs.alloc ?_ _ | with_reducible refine Cs.drewN ?_ _ | with_reducible refine Cs.drew ?_ | with_reducible refine Cs.set4 ?_ _ _ _ _ | (with_reducible refine Cs.other4 ?_ ?_ _ _ _ _; rotate_left; focus (first | assumption | omega | (simp; done) | (simp; omega))) | with_reducible refine Cs.set2 ?_ _ _ | (with_reducible refine Cs.other2 ?_ ?_ _ _; rotate_left; focus (first | assumption | omega | (simp; done) | (simp; omega))) | (with_reducible refine Cs.other ?_ ?_ _; rotate_left; focus (first | assumption | omega | (simp; done) | (simp; omega))) | with_reducible refine Cs.keep ?_ (by assumption) | assumption)) hb1
      replace B4 : Cs w1 (w.heap.size + 1 + 1 + 1 + 1) #[.int .i64 0, .int .i64 0] := Cs.keep (by repeat (first | with_reducible assumption | (with_reducible refine Cs.new _ _ _ _ ?_; first | rfl | (simp; done)) | with_reducible refine Cs.alloc ?_ _ | with_reducible refine Cs.drewN ?_ _ | with_reducible refine Cs.drew ?_ | with_reducible refine Cs.set4 ?_ _ _ _ _ | (with_reducible refine Cs.other4 ?_ ?_ _ _ _ _; rotate_left; focus (first | assumption | omega | (simp; done) | (simp; omega))) | with_reducible refine Cs.set2 ?_ _ _ | (with_reducible refine Cs.other2 ?_ ?_ _ _; rotate_left; focus (first | assumption | omega | (simp; done) | (simp; omega))) | (with_reducible refine Cs.other ?_ ?_ _; rotate_left; focus (first | assumption | omega | (simp; done) | (simp; omega))) | with_reducible refine Cs.keep ?_ (by assumption) | assumption)) hb1
      replace hbw : Below w.heap.size w w1 := (by repeat (first | with_reducible exact Below.refl _ _ | with_reducible assumption | with_reducible refine balloc ?_ _ | with_reducible refine bdrewN ?_ _ | with_reducible refine Below.drew ?_ | (with_reducible refine bset ?_ ?_ _; rotate_left; focus (first | assumption | omega | (simp; done) | (simp; omega))) | with_reducible refine bstep ?_ (by assumption) | assumption))
      replace cB1 := B1.c
      replace fB1 := B1.f
      replace lB1 := B1.lt
      replace cB4 := B4.c
      replace fB4 := B4.f
      replace lB4 := B4.lt
      clear hb1
      go_wp2_with fail
      refine (k2 _).mono ?_
      rintro e w2 ⟨rfl, hb2⟩
      try clear cB1 fB1 lB1
      try clear B1
      replace B4 : Cs w2 (w.heap.size + 1 + 1 + 1 + 1) #[.int .i64 0, .int .i64 0] := Cs.keep (by repeat (first | with_reducible assumption | (with_reducible refine Cs.new _ _ _ _ ?_; first | rfl | (simp; done)) | with_reducible refine Cs.alloc ?_ _ | with_reducible refine Cs.drewN ?_ _ | with_reducible refine Cs.drew ?_ | with_reducible refine Cs.set4 ?_ _ _ _ _ | (with_reducible refine Cs.other4 ?_ ?_ _ _ _ _; rotate_left; focus (first | assumption | omega | (simp; done) | (simp; omega))) | with_reducible refine Cs.set2 ?_ _ _ | (with_reducible refine Cs.other2 ?_ ?_ _ _; rotate_left; focus (first | assumption | omega | (simp; done) | (simp; omega))) | (with_reducible refine Cs.other ?_ ?_ _; rotate_left; focus (first | assumption | omega | (simp; done) | (simp; omega))) | with_reducible refine Cs.keep ?_ (by assumption) | assumption)) hb2
      replace hbw : Below w.heap.size w w2 := (by repeat (first | with_reducible exact Below.refl _ _ | with_reducible assumption | with_reducible refine balloc ?_ _ | with_reducible refine bdrewN ?_ _ | with_reducible refine Below.drew ?_ | (with_reducible refine bset ?_ ?_ _; rotate_left; focus (first | assumption | omega | (simp; done) | (simp; omega))) | with_reducible refine bstep ?_ (by assumption) | assumption))
      replace cB4 := B4.c
      replace fB4 := B4.f
      replace lB4 := B4.lt
      clear hb2
      go_wp2_with fail
      exact bodyPost_ret (v := .tuple #[.agg #[.int .i64 0, .int .i64 0], .int .i64 2]) (by simp [results, Try.results25, go_sem, cB4, fB4, lB4]) rfl ⟨rfl, (by repeat (first | with_reducible exact Below.refl _ _ | with_reducible assumption | with_reducible refine balloc ?_ _ | with_reducible refine bdrewN ?_ _ | with_reducible refine Below.drew ?_ | (with_reducible refine bset ?_ ?_ _; rotate_left; focus (first | assumption | omega | (simp; done) | (simp; omega))) | with_reducible refine bstep ?_ (by assumption) | assumption))⟩
    | true =>
      cases b3 with
      | false =>
        clear h
        go_enter Try.func25, Try.ntmps25
        go_wp2_with fail
        refine (k1 _).mono ?_
        rintro e w1 ⟨rfl, hb1⟩
        replace B1 : Cs w1 (w.heap.size + 1) #[.int .i64 sN, .int .i64 sD] := Cs.keep (by repeat (first | with_reducible assumption | (with_reducible refine Cs.new _ _ _ _ ?_; first | rfl | (simp; done)) | with_reducible refine Cs.alloc ?_ _ | with_reducible refine Cs.drewN ?_ _ | with_reducible refine Cs.drew ?_ | with_reducible refine Cs.set4 ?_ _ _ _ _ | (with_reducible refine Cs.other4 ?_ ?_ _ _ _ _; rotate_left; focus (first | assumption | omega | (simp; done) | (simp; omega))) | with_reducible refine Cs.set2 ?_ _ _ | (with_reducible refine Cs.other2 ?_ ?_ _ _; rotate_left; focus (first | assumption | omega | (simp; done) | (simp; omega))) | (with_reducible refine Cs.other ?_ ?_ _; rotate_left; focus (first | assumption | omega | (simp; done) | (simp; omega))) | with_reducible refine Cs.keep ?_ (by assumption) | assumption)) hb1
        replace B2 : Cs w1 (w.heap.size + 1 + 1) #[.int .i64 oN, .int .i64 oD] := Cs.keep (by repeat (first | with_reducible assumption | (with_reducible refine Cs.new _ _ _ _ ?_; first | rfl | (simp; done)) | with_reducible refine Cs.alloc ?_ _ | with_reducible refine Cs.drewN ?_ _ | with_reducible refine Cs.drew ?_ | with_reducible refine Cs.set4 ?_ _ _ _ _ | (with_reducible refine Cs.other4 ?_ ?_ _ _ _ _; rotate_left; focus (first | assumption | omega | (simp; done) | (simp; omega))) | with_reducible refine Cs.set2 ?_ _ _ | (with_reducible refine Cs.other2 ?_ ?_ _ _; rotate_left; focus (first | assumption | omega | (simp; done) | (simp; omega))) | (with_reducible refine Cs.other ?_ ?_ _; rotate_left; focus (first | assumption | omega | (simp; done) | (simp; omega))) | with_reducible refine Cs.keep ?_ (by assumption) | assumption)) hb1
        replace B4 : Cs w1 (w.heap.size + 1 + 1 + 1 + 1) #[.int .i64 0, .int .i64 0] := Cs.keep (by repeat (first | with_reducible assumption | (with_reducible refine Cs.new _ _ _ _ ?_; first | rfl | (simp; done)) | with_reducible refine Cs.alloc ?_ _ | with_reducible refine Cs.drewN ?_ _ | with_reducible refine Cs.drew ?_ | with_reducible refine Cs.set4 ?_ _ _ _ _ | (with_reducible refine Cs.other4 ?_ ?_ _ _ _ _; rotate_left; focus (first | assumption | omega | (simp; done) | (simp; omega))) | with_reducible refine Cs.set2 ?_ _ _ | (with_reducible refine Cs.other2 ?_ ?_ _ _; rotate_left; focus (first | assumption | omega | (simp; done) | (simp; omega))) | (with_reducible refine Cs.other ?_ ?_ _; rotate_left; focus (first | assumption | omega | (simp; done) | (simp; omega))) | with_reducible refine Cs.keep ?_ (by assumption) | assumption)) hb1
        replace hbw : Below w.heap.size w w1 := (by repeat (first | with_reducible exact Below.refl _ _ | with_reducible assumption | with_reducible refine balloc ?_ _ | with_reducible refine bdrewN ?_ _ | with_reducible refine Below.drew ?_ | (with_reducible refine bset ?_ ?_ _; rotate_left; focus (first | assumption | omega | (simp; done) | (simp; omega))) | with_reducible refine bstep ?_ (by assumption) | assumption))
        replace cB1 := B1.c
        replace fB1 := B1.f
        replace lB1 := B1.lt
        replace cB2 := B2.c
        replace fB2 := B2.f
        replace lB2 := B2.lt
        replace cB4 := B4.c
        replace fB4 := B4.f
        replace lB4 := B4.lt
        clear hb1
        go_wp2_with fail
        refine (k2 _).mono ?_
        rintro e w2 ⟨rfl, hb2⟩
        try clear cB1 fB1 lB1
        try clear B1
        replace B2 : Cs w2 (w.heap.size + 1 + 1) #[.int .i64 oN, .int .i64 oD] := Cs.keep (by repeat (first | with_reducible assumption | (with_reducible refine Cs.new _ _ _ _ ?_; first | rfl | (simp; done)) | with_reducible refine Cs.alloc ?_ _ | with_reducible refine Cs.drewN ?_ _ | with_reducible refine Cs.drew ?_ | with_reducible refine Cs.set4 ?_ _ _ _ _ | (with_reducible refine Cs.other4 ?_ ?_ _ _ _ _; rotate_left; focus (first | assumption | omega | (simp; done) | (simp; omega))) | with_reducible refine Cs.set2 ?_ _ _ | (with_reducible refine Cs.other2 ?_ ?_ _ _; rotate_left; focus (first | assumption | omega | (simp; done) | (simp; omega))) | (with_reducible refine Cs.other ?_ ?_ _; rotate_left; focus (first | assumption | omega | (simp; done) | (simp; omega))) | with_reducible refine Cs.keep ?_ (by assumption) | assumption)) hb2
        replace B4 : Cs w2 (w.heap.size + 1 + 1 + 1 + 1) #[.int .i64 0, .int .i64 0] := Cs.keep (by repeat (first | with_reducible assumption | (with_reducible refine Cs.new _ _ _ _ ?_; first | rfl | (simp; done)) | with_reducible refine Cs.alloc ?_ _ | with_reducible refine Cs.drewN ?_ _ | with_reducible refine Cs.drew ?_ | with_reducible refine Cs.set4 ?_ _ _ _ _ | (with_reducible refine Cs.other4 ?_ ?_ _ _ _ _; rotate_left; focus (first | assumption | omega | (simp; done) | (simp; omega))) | with_reducible refine Cs.set2 ?_ _ _ | (with_reducible refine Cs.other2 ?_ ?_ _ _; rotate_left; focus (first | assumption | omega | (simp; done) | (simp; omega))) | (with_reducible refine Cs.other ?_ ?_ _; rotate_left; focus (first | assumption | omega | (simp; done) | (simp; omega))) | with_reducible refine Cs.keep ?_ (by assumption) | assumption)) hb2
        replace hbw : Below w.heap.size w w2 := (by repeat (first | with_reducible exact Below.refl _ _ | with_reducible assumption | with_reducible refine balloc ?_ _ | with_reducible refine bdrewN ?_ _ | with_reducible refine Below.drew ?_ | (with_reducible refine bset ?_ ?_ _; rotate_left; focus (first | assumption | omega | (simp; done) | (simp; omega))) | with_reducible refine bstep ?_ (by assumption) | assumption))
        replace cB2 := B2.c
        replace fB2 := B2.f
        replace lB2 := B2.lt
        replace cB4 := B4.c
        replace fB4 := B4.f
        replace lB4 := B4.lt
        clear hb2
        go_wp2_with fail
        refine (k3 _).mono ?_
        rintro e w3 ⟨rfl, hb3⟩
        try clear cB1 fB1 lB1
        try clear B1
        try clear cB2 fB2 lB2
        try clear B2
        replace B4 : Cs w3 (w.heap.size + 1 + 1 + 1 + 1) #[.int .i64 0, .int .i64 0] := Cs.keep (by repeat (first | with_reducible assumption | (with_reducible refine Cs.new _ _ _ _ ?_; first | rfl | (simp; done)) | with_reducible refine Cs.alloc ?_ _ | with_reducible refine Cs.drewN ?_ _ | with_reducible refine Cs.drew ?_ | with_reducible refine Cs.set4 ?_ _ _ _ _ | (with_reducible refine Cs.other4 ?_ ?_ _ _ _ _; rotate_left; focus (first | assumption | omega | (simp; done) | (simp; omega))) | with_reducible refine Cs.set2 ?_ _ _ | (with_reducible refine Cs.other2 ?_ ?_ _ _; rotate_left; focus (first | assumption | omega | (simp; done) | (simp; omega))) | (with_reducible refine Cs.other ?_ ?_ _; rotate_left; focus (first | assumption | omega | (simp; done) | (simp; omega))) | with_reducible refine Cs.keep ?_ (by assumption) | assumption)) hb3
        replace hbw : Below w.heap.size w w3 := (by repeat (first | with_reducible exact Below.refl _ _ | with_reducible assumption | with_reducible refine balloc ?_ _ | with_reducible refine bdrewN ?_ _ | with_reducible refine Below.drew ?_ | (with_reducible refine bset ?_ ?_ _; rotate_left; focus (first | assumption | omega | (simp; done) | (simp; omega))) | with_reducible refine bstep ?_ (by assumption) | assumption))
        replace cB4 := B4.c
        replace fB4 := B4.f
        replace lB4 := B4.lt
        clear hb3
        go_wp2_with fail
        exact bodyPost_ret (v := .tuple #[.agg #[.int .i64 0, .int .i64 0], .int .i64 2]) (by simp [results, Try.results25, go_sem, cB4, fB4, lB4]) rfl ⟨rfl, (by repeat (first | with_reducible exact Below.refl _ _ | with_reducible assumption | with_reducible refine balloc ?_ _ | with_reducible refine bdrewN ?_ _ | with_reducible refine Below.drew ?_ | (with_reducible refine bset ?_ ?_ _; rotate_left; focus (first | assumption | omega | (simp; done) | (simp; omega))) | with_reducible refine bstep ?_ (by assumption) | assumption))⟩
      | true =>
        cases b4 with
        | true => exact absurd ⟨rfl, rfl, rfl, rfl⟩ h
        | false =>
          clear h
          go_enter Try.func25, Try.ntmps25
          go_wp2_with fail
          refine (k1 _).mono ?_
          rintro e w1 ⟨rfl, hb1⟩
          replace B1 : Cs w1 (w.heap.size + 1) #[.int .i64 sN, .int .i64 sD] := Cs.keep (by repeat (first | with_reducible assumption | (with_reducible refine Cs.new _ _ _ _ ?_; first | rfl | (simp; done)) | with_reducible refine Cs.alloc ?_ _ | with_reducible refine Cs.drewN ?_ _ | with_reducible refine Cs.drew ?_ | with_reducible refine Cs.set4 ?_ _ _ _ _ | (with_reducible refine Cs.other4 ?_ ?_ _ _ _ _; rotate_left; focus (first | assumption | omega | (simp; done) | (simp; omega))) | with_reducible refine Cs.set2 ?_ _ _ | (with_reducible refine Cs.other2 ?_ ?_ _ _; rotate_left; focus (first | assumption | omega | (simp; done) | (simp; omega))) | (with_reducible refine Cs.other ?_ ?_ _; rotate_left; focus (first | assumption | omega | (simp; done) | (simp; omega))) | with_reducible refine Cs.keep ?_ (by assumption) | assumption)) hb1
          replace B2 : Cs w1 (w.heap.size + 1 + 1) #[.int .i64 oN, .int .i64 oD] := Cs.keep (by repeat (first | with_reducible assumption | (with_reducible refine Cs.new _ _ _ _ ?_; first | rfl | (simp; done)) | with_reducible refine Cs.alloc ?_ _ | with_reducible refine Cs.drewN ?_ _ | with_reducible refine Cs.drew ?_ | with_reducible refine Cs.set4 ?_ _ _ _ _ | (with_reducible refine Cs.other4 ?_ ?_ _ _ _ _; rotate_left; focus (first | assumption | omega | (simp; done) | (simp; omega))) | with_reducible refine Cs.set2 ?_ _ _ | (with_reducible refine Cs.other2 ?_ ?_ _ _; rotate_left; focus (first | assumption | omega | (simp; done) | (simp; omega))) | (with_reducible refine Cs.other ?_ ?_ _; rotate_left; focus (first | assumption | omega | (simp; done) | (simp; omega))) | with_reducible refine Cs.keep ?_ (by assumption) | assumption)) hb1
          replace B3 : Cs w1 (w.heap.size + 1 + 1 + 1) #[.int .i64 iN, .int .i64 iD] := Cs.keep (by repeat (first | with_reducible assumption | (with_reducible refine Cs.new _ _ _ _ ?_; first | rfl | (simp; done)) | with_reducible refine Cs.alloc ?_ _ | with_reducible refine Cs.drewN ?_ _ | with_reducible refine Cs.drew ?_ | with_reducible refine Cs.set4 ?_ _ _ _ _ | (with_reducible refine Cs.other4 ?_ ?_ _ _ _ _; rotate_left; focus (first | assumption | omega | (simp; done) | (simp; omega))) | with_reducible refine Cs.set2 ?_ _ _ | (with_reducible refine Cs.other2 ?_ ?_ _ _; rotate_left; focus (first | assumption | omega | (simp; done) | (simp; omega))) | (with_reducible refine Cs.other ?_ ?_ _; rotate_left; focus (first | assumption | omega | (simp; done) | (simp; omega))) | with_reducible refine Cs.keep ?_ (by assumption) | assumption)) hb1
          replace B4 : Cs w1 (w.heap.size + 1 + 1 + 1 + 1) #[.int .i64 0, .int .i64 0] := Cs.keep (by repeat (first | with_reducible assumption | (with_reducible refine Cs.new _ _ _ _ ?_; first | rfl | (simp; done)) | with_reducible refine Cs.alloc ?_ _ | with_reducible refine Cs.drewN ?_ _ | with_reducible refine Cs.drew ?_ | with_reducible refine Cs.set4 ?_ _ _ _ _ | (with_reducible refine Cs.other4 ?_ ?_ _ _ _ _; rotate_left; focus (first | assumption | omega | (simp; done) | (simp; omega))) | with_reducible refine Cs.set2 ?_ _ _ | (with_reducible refine Cs.other2 ?_ ?_ _ _; rotate_left; focus (first | assumption | omega | (simp; done) | (simp; omega))) | (with_reducible refine Cs.other ?_ ?_ _; rotate_left; focus (first | assumption | omega | (simp; done) | (simp; omega))) | with_reducible refine Cs.keep ?_ (by assumption) | assumption)) hb1
          replace hbw : Below w.heap.size w w1 := (by repeat (first | with_reducible exact Below.refl _ _ | with_reducible assumption | with_reducible refine balloc ?_ _ | with_reducible refine bdrewN ?_ _ | with_reducible refine Below.drew ?_ | (with_reducible refine bset ?_ ?_ _; rotate_left; focus (first | assumption | omega | (simp; done) | (simp; omega))) | with_reducible refine bstep ?_ (by assumption) | assumption))
          replace cB1 := B1.c
          replace fB1 := B1.f
          replace lB1 := B1.lt
          replace cB2 := B2.c
          replace fB2 := B2.f
          replace lB2 := B2.lt
          replace cB3 := B3.c
          replace fB3 := B3.f
          replace lB3 := B3.lt
          replace cB4 := B4.c
          replace fB4 := B4.f
          replace lB4 := B4.lt
          clear hb1
          go_wp2_with fail
          refine (k2 _).mono ?_
          rintro e w2 ⟨rfl, hb2⟩
          try clear cB1 fB1 lB1
          try clear B1
          replace B2 : Cs w2 (w.heap.size + 1 + 1) #[.int .i64 oN, .int .i64 oD] := Cs.keep (by repeat (first | with_reducible assumption | (with_reducible refine Cs.new _ _ _ _ ?_; first | rfl | (simp; done)) | with_reducible refine Cs.alloc ?_ _ | with_reducible refine Cs.drewN ?_ _ | with_reducible refine Cs.drew ?_ | with_reducible refine Cs.set4 ?_ _ _ _ _ | (with_reducible refine Cs.other4 ?_ ?_ _ _ _ _; rotate_left; focus (first | assumption | omega | (simp; done) | (simp; omega))) | with_reducible refine Cs.set2 ?_ _ _ | (with_reducible refine Cs.other2 ?_ ?_ _ _; rotate_left; focus (first | assumption | omega | (simp; done) | (simp; omega))) | (with_reducible refine Cs.other ?_ ?_ _; rotate_left; focus (first | assumption | omega | (simp; done) | (simp; omega))) | with_reducible refine Cs.keep ?_ (by assumption) | assumption)) hb2
          replace B3 : Cs w2 (w.heap.size + 1 + 1 + 1) #[.int .i64 iN, .int .i64 iD] := Cs.keep (by repeat (first | with_reducible assumption | (with_reducible refine Cs.new _ _ _ _ ?_; first | rfl | (simp; done)) | with_reducible refine Cs.alloc ?_ _ | with_reducible refine Cs.drewN ?_ _ | with_reducible refine Cs.drew ?_ | with_reducible refine Cs.set4 ?_ _ _ _ _ | (with_reducible refine Cs.other4 ?_ ?_ _ _ _ _; rotate_left; focus (first | assumption | omega | (simp; done) | (simp; omega))) | with_reducible refine Cs.set2 ?_ _ _ | (with_reducible refine Cs.other2 ?_ ?_ _ _; rotate_left; focus (first | assumption | omega | (simp; done) | (simp; omega))) | (with_reducible refine Cs.other ?_ ?_ _; rotate_left; focus (first | assumption | omega | (simp; done) | (simp; omega))) | with_reducible refine Cs.keep ?_ (by assumption) | assumption)) hb2
          replace B4 : Cs w2 (w.heap.size + 1 + 1 + 1 + 1) #[.int .i64 0, .int .i64 0] := Cs.keep (by repeat (first | with_reducible assumption | (with_reducible refine Cs.new _ _ _ _ ?_; first | rfl | (simp; done)) | with_reducible refine Cs.alloc ?_ _ | with_reducible refine Cs.drewN ?_ _ | with_reducible refine Cs.drew ?_ | with_reducible refine Cs.set4 ?_ _ _ _ _ | (with_reducible refine Cs.other4 ?_ ?_ _ _ _ _; rotate_left; focus (first | assumption | omega | (simp; done) | (simp; omega))) | with_reducible refine Cs.set2 ?_ _ _ | (with_reducible refine Cs.other2 ?_ ?_ _ _; rotate_left; focus (first | assumption | omega | (simp; done) | (simp; omega))) | (with_reducible refine Cs.other ?_ ?_ _; rotate_left; focus (first | assumption | omega | (simp; done) | (simp; omega))) | with_reducible refine Cs.keep ?_ (by assumption) | assumption)) hb2
          replace hbw : Below w.heap.size w w2 := (by repeat (first | with_reducible exact Below.refl _ _ | with_reducible assumption | with_reducible refine balloc ?_ _ | with_reducible refine bdrewN ?_ _ | with_reducible refine Below.drew ?_ | (with_reducible refine bset ?_ ?_ _; rotate_left; focus (first | assumption | omega | (simp; done) | (simp; omega))) | with_reducible refine bstep ?_ (by assumption) | assumption))
          replace cB2 := B2.c
          replace fB2 := B2.f
          replace lB2 := B2.lt
          replace cB3 := B3.c
          replace fB3 := B3.f
          replace lB3 := B3.lt
          replace cB4 := B4.c
          replace fB4 := B4.f
          replace lB4 := B4.lt
          clear hb2
          go_wp2_with fail
          refine (k3 _).mono ?_
          rintro e w3 ⟨rfl, hb3⟩
          try clear cB1 fB1 lB1
          try clear B1
          try clear cB2 fB2 lB2
          try clear B2
          replace B3 : Cs w3 (w.heap.size + 1 + 1 + 1) #[.int .i64 iN, .int .i64 iD] := Cs.keep (by repeat (first | with_reducible assumption | (with_reducible refine Cs.new _ _ _ _ ?_; first | rfl | (simp; done)) | with_reducible refine Cs.alloc ?_ _ | with_reducible refine Cs.drewN ?_ _ | with_reducible refine Cs.drew ?_ | with_reducible refine Cs.set4 ?_ _ _ _ _ | (with_reducible refine Cs.other4 ?_ ?_ _ _ _ _; rotate_left; focus (first | assumption | omega | (simp; done) | (simp; omega))) | with_reducible refine Cs.set2 ?_ _ _ | (with_reducible refine Cs.other2 ?_ ?_ _ _; rotate_left; focus (first | assumption | omega | (simp; done) | (simp; omega))) | (with_reducible refine Cs.other ?_ ?_ _; rotate_left; focus (first | assumption | omega | (simp; done) | (simp; omega))) | with_reducible refine Cs.keep ?_ (by assumption) | assumption)) hb3
          replace B4 : Cs w3 (w.heap.size + 1 + 1 + 1 + 1) #[.int .i64 0, .int .i64 0] := Cs.keep (by repeat (first | with_reducible assumption | (with_reducible refine Cs.new _ _ _ _ ?_; first | rfl | (simp; done)) | with_reducible refine Cs.alloc ?_ _ | with_reducible refine Cs.drewN ?_ _ | with_reducible refine Cs.drew ?_ | with_reducible refine Cs.set4 ?_ _ _ _ _ | (with_reducible refine Cs.other4 ?_ ?_ _ _ _ _; rotate_left; focus (first | assumption | omega | (simp; done) | (simp; omega))) | with_reducible refine Cs.set2 ?_ _ _ | (with_reducible refine Cs.other2 ?_ ?_ _ _; rotate_left; focus (first | assumption | omega | (simp; done) | (simp; omega))) | (with_reducible refine Cs.other ?_ ?_ _; rotate_left; focus (first | assumption | omega | (simp; done) | (simp; omega))) | with_reducible refine Cs.keep ?_ (by assumption) | assumption)) hb3
          replace hbw : Below w.heap.size w w3 := (by repeat (first | with_reducible exact Below.refl _ _ | with_reducible assumption | with_reducible refine balloc ?_ _ | with_reducible refine bdrewN ?_ _ | with_reducible refine Below.drew ?_ | (with_reducible refine bset ?_ ?_ _; rotate_left; focus (first | assumption | omega | (simp; done) | (simp; omega))) | with_reducible refine bstep ?_ (by assumption) | assumption))
          replace cB3 := B3.c
          replace fB3 := B3.f
          replace lB3 := B3.lt
          replace cB4 := B4.c
          replace fB4 := B4.f
          replace lB4 := B4.lt
          clear hb3
          go_wp2_with fail
          refine (k4 _).mono ?_
          rintro e w4 ⟨rfl, hb4⟩
          try clear cB1 fB1 lB1
          try clear B1
          try clear cB2 fB2 lB2
          try clear B2
          try clear cB3 fB3 lB3
          try clear B3
          replace B4 : Cs w4 (w.heap.size + 1 + 1 + 1 + 1) #[.int .i64 0, .int .i64 0] := Cs.keep (by repeat (first | with_reducible assumption | (with_reducible refine Cs.new _ _ _ _ ?_; first | rfl | (simp; done)) | with_reducible refine Cs.alloc ?_ _ | with_reducible refine Cs.drewN ?_ _ | with_reducible refine Cs.drew ?_ | with_reducible refine Cs.set4 ?_ _ _ _ _ | (with_reducible refine Cs.other4 ?_ ?_ _ _ _ _; rotate_left; focus (first | assumption | omega | (simp; done) | (simp; omega))) | with_reducible refine Cs.set2 ?_ _ _ | (with_reducible refine Cs.other2 ?_ ?_ _ _; rotate_left; focus (first | assumption | omega | (simp; done) | (simp; omega))) | (with_reducible refine Cs.other ?_ ?_ _; rotate_left; focus (first | assumption | omega | (simp; done) | (simp; omega))) | with_reducible refine Cs.keep ?_ (by assumption) | assumption)) hb4
          replace hbw : Below w.heap.size w w4 := (by repeat (first | with_reducible exact Below.refl _ _ | with_reducible assumption | with_reducible refine balloc ?_ _ | with_reducible refine bdrewN ?_ _ | with_reducible refine Below.drew ?_ | (with_reducible refine bset ?_ ?_ _; rotate_left; focus (first | assumption | omega | (simp; done) | (simp; omega))) | with_reducible refine bstep ?_ (by assumption) | assumption))
          replace cB4 := B4.c
          replace fB4 := B4.f
          replace lB4 := B4.lt
          clear hb4
          go_wp2_with fail
          exact bodyPost_ret (v := .tuple #[.agg #[.int .i64 0, .int .i64 0], .int .i64 2]) (by simp [results, Try.results25, go_sem, cB4, fB4, lB4]) rfl ⟨rfl, (by repeat (first | with_reducible exact Below.refl _ _ | with_reducible assumption | with_reducible refine balloc ?_ _ | with_reducible refine bdrewN ?_ _ | with_reducible refine Below.drew ?_ | (with_reducible refine bset ?_ ?_ _; rotate_left; focus (first | assumption | omega | (simp; done) | (simp; omega))) | with_reducible refine bstep ?_ (by assumption) | assumption))⟩


theorem asked_of {gN gD sN sD oN oD iN iD : Int} (h1 : isCh gN gD 10 = true) (h2 : isCh sN sD 10 = true) (h3 : isCh oN oD 1000000 = true) (h4 : isCh iN iD 1000000 = true) : Asked gN gD sN sD oN oD iN iD := by
  obtain ⟨a1, a2, a3, a4, _⟩ : 1 ≤ gD ∧ gD ≤ 10 ∧ 0 ≤ gN ∧ gN ≤ gD ∧ Int.gcd gN gD = 1 := of_decide_eq_true h1
  obtain ⟨b1, b2, b3, b4, _⟩ : 1 ≤ sD ∧ sD ≤ 10 ∧ 0 ≤ sN ∧ sN ≤ sD ∧ Int.gcd sN sD = 1 := of_decide_eq_true h2
  obtain ⟨c1, c2, c3, c4, _⟩ : 1 ≤ oD ∧ oD ≤ 1000000 ∧ 0 ≤ oN ∧ oN ≤ oD ∧ Int.gcd oN oD = 1 := of_decide_eq_true h3
  obtain ⟨d1, d2, d3, d4, _⟩ : 1 ≤ iD ∧ iD ≤ 1000000 ∧ 0 ≤ iN ∧ iN ≤ iD ∧ Int.gcd iN iD = 1 := of_decide_eq_true h4
  exact ⟨a1, a2, a3, a4, b1, b2, b3, b4, c1, c2, c3, c4, d1, d2, d3, d4⟩

set_option maxRecDepth 10000 in
set_option maxHeartbeats 8000000 in
theorem rplan_ok (gN gD sN sD oN oD iN iD : Int) (w : World) (h1 : isCh gN gD 10 = true) (h2 : isCh sN sD 10 = true) (h3 : isCh oN oD 1000000 = true) (h4 : isCh iN iD 1000000 = true) :
    Calls Try.prog 25 #[.agg #[.int .i64 gN, .int .i64 gD], .agg #[.int .i64 sN, .int .i64 sD], .agg #[.int .i64 oN, .int .i64 oD], .agg #[.int .i64 iN, .int .i64 iD]] w fun e w' => e = RetPL (planP gN gD sN sD oN oD iN iD) ∧ Below w.heap.size w w' := by
  unfold RetPL
  have k1 := fun W => risChance_any gN gD 10 W (by omega)
  have k2 := fun W => risChance_any sN sD 10 W (by omega)
  have k3 := fun W => risChance_any oN oD 1000000 W (by omega)
  have k4 := fun W => risChance_any iN iD 1000000 W (by omega)
  have HA := Lib.hid (asked_of h1 h2 h3 h4)
  rw [h1] at k1
  rw [h2] at k2
  rw [h3] at k3
  rw [h4] at k4
  generalize hR : planP gN gD sN sD oN oD iN iD = R
  have HR := Lib.hid hR
  clear h1 h2 h3 h4 hR
  go_enter Try.func25, Try.ntmps25
  go_wp2_with fail
  refine (k1 _).mono ?_
  rintro e w1 ⟨rfl, hb1⟩
  replace B0 : Cs w1 (w.heap.size) #[.int .i64 gN, .int .i64 gD] := Cs.keep (by repeat (first | with_reducible assumption | (with_reducible refine Cs.new _ _ _ _ ?_; first | rfl | (simp; done)) | with_reducible refine Cs.alloc ?_ _ | with_reducible refine Cs.drewN ?_ _ | with_reducible refine Cs.drew ?_ | with_reducible refine Cs.set4 ?_ _ _ _ _ | (with_reducible refine Cs.other4 ?_ ?_ _ _ _ _; rotate_left; focus (first | assumption | omega | (simp; done) | (simp; omega))) | with_reducible refine Cs.set2 ?_ _ _ | (with_reducible refine Cs.other2 ?_ ?_ _ _; rotate_left; focus (first | assumption | omega | (simp; done) | (simp; omega))) | (with_reducible refine Cs.other ?_ ?_ _; rotate_left; focus (first | assumption | omega | (simp; done) | (simp; omega))) | with_reducible refine Cs.keep ?_ (by assumption) | assumption)) hb1
  replace B1 : Cs w1 (w.heap.size + 1) #[.int .i64 sN, .int .i64 sD] := Cs.keep (by repeat (first | with_reducible assumption | (with_reducible refine Cs.new _ _ _ _ ?_; first | rfl | (simp; done)) | with_reducible refine Cs.alloc ?_ _ | with_reducible refine Cs.drewN ?_ _ | with_reducible refine Cs.drew ?_ | with_reducible refine Cs.set4 ?_ _ _ _ _ | (with_reducible refine Cs.other4 ?_ ?_ _ _ _ _; rotate_left; focus (first | assumption | omega | (simp; done) | (simp; omega))) | with_reducible refine Cs.set2 ?_ _ _ | (with_reducible refine Cs.other2 ?_ ?_ _ _; rotate_left; focus (first | assumption | omega | (simp; done) | (simp; omega))) | (with_reducible refine Cs.other ?_ ?_ _; rotate_left; focus (first | assumption | omega | (simp; done) | (simp; omega))) | with_reducible refine Cs.keep ?_ (by assumption) | assumption)) hb1
  replace B2 : Cs w1 (w.heap.size + 1 + 1) #[.int .i64 oN, .int .i64 oD] := Cs.keep (by repeat (first | with_reducible assumption | (with_reducible refine Cs.new _ _ _ _ ?_; first | rfl | (simp; done)) | with_reducible refine Cs.alloc ?_ _ | with_reducible refine Cs.drewN ?_ _ | with_reducible refine Cs.drew ?_ | with_reducible refine Cs.set4 ?_ _ _ _ _ | (with_reducible refine Cs.other4 ?_ ?_ _ _ _ _; rotate_left; focus (first | assumption | omega | (simp; done) | (simp; omega))) | with_reducible refine Cs.set2 ?_ _ _ | (with_reducible refine Cs.other2 ?_ ?_ _ _; rotate_left; focus (first | assumption | omega | (simp; done) | (simp; omega))) | (with_reducible refine Cs.other ?_ ?_ _; rotate_left; focus (first | assumption | omega | (simp; done) | (simp; omega))) | with_reducible refine Cs.keep ?_ (by assumption) | assumption)) hb1
  replace B3 : Cs w1 (w.heap.size + 1 + 1 + 1) #[.int .i64 iN, .int .i64 iD] := Cs.keep (by repeat (first | with_reducible assumption | (with_reducible refine Cs.new _ _ _ _ ?_; first | rfl | (simp; done)) | with_reducible refine Cs.alloc ?_ _ | with_reducible refine Cs.drewN ?_ _ | with_reducible refine Cs.drew ?_ | with_reducible refine Cs.set4 ?_ _ _ _ _ | (with_reducible refine Cs.other4 ?_ ?_ _ _ _ _; rotate_left; focus (first | assumption | omega | (simp; done) | (simp; omega))) | with_reducible refine Cs.set2 ?_ _ _ | (with_reducible refine Cs.other2 ?_ ?_ _ _; rotate_left; focus (first | assumption | omega | (simp; done) | (simp; omega))) | (with_reducible refine Cs.other ?_ ?_ _; rotate_left; focus (first | assumption | omega | (simp; done) | (simp; omega))) | with_reducible refine Cs.keep ?_ (by assumption) | assumption)) hb1
  replace B4 : Cs w1 (w.heap.size + 1 + 1 + 1 + 1) #[.int .i64 0, .int .i64 0] := Cs.keep (by repeat (first | with_reducible assumption | (with_reducible refine Cs.new _ _ _ _ ?_; first | rfl | (simp; done)) | with_reducible refine Cs.alloc ?_ _ | with_reducible refine Cs.drewN ?_ _ | with_reducible refine Cs.drew ?_ | with_reducible refine Cs.set4 ?_ _ _ _ _ | (with_reducible refine Cs.other4 ?_ ?_ _ _ _ _; rotate_left; focus (first | assumption | omega | (simp; done) | (simp; omega))) | with_reducible refine Cs.set2 ?_ _ _ | (with_reducible refine Cs.other2 ?_ ?_ _ _; rotate_left; focus (first | assumption | omega | (simp; done) | (simp; omega))) | (with_reducible refine Cs.other ?_ ?_ _; rotate_left; focus (first | assumption | omega | (simp; done) | (simp; omega))) | with_reducible refine Cs.keep ?_ (by assumption) | assumption)) hb1
  replace hbw : Below w.heap.size w w1 := (by repeat (first | with_reducible exact Below.refl _ _ | with_reducible assumption | with_reducible refine balloc ?_ _ | with_reducible refine bdrewN ?_ _ | with_reducible refine Below.drew ?_ | (with_reducible refine bset ?_ ?_ _; rotate_left; focus (first | assumption | omega | (simp; done) | (simp; omega))) | with_reducible refine bstep ?_ (by assumption) | assumption))
  replace cB0 := B0.c
  replace fB0 := B0.f
  replace lB0 := B0.lt
  replace cB1 := B1.c
  replace fB1 := B1.f
  replace lB1 := B1.lt
  replace cB2 := B2.c
  replace fB2 := B2.f
  replace lB2 := B2.lt
  replace cB3 := B3.c
  replace fB3 := B3.f
  replace lB3 := B3.lt
  replace cB4 := B4.c
  replace fB4 := B4.f
  replace lB4 := B4.lt
  clear hb1
  go_wp2_with fail
  refine (k2 _).mono ?_
  rintro e w2 ⟨rfl, hb2⟩
  replace B0 : Cs w2 (w.heap.size) #[.int .i64 gN, .int .i64 gD] := Cs.keep (by repeat (first | with_reducible assumption | (with_reducible refine Cs.new _ _ _ _ ?_; first | rfl | (simp; done)) | with_reducible refine Cs.alloc ?_ _ | with_reducible refine Cs.drewN ?_ _ | with_reducible refine Cs.drew ?_ | with_reducible refine Cs.set4 ?_ _ _ _ _ | (with_reducible refine Cs.other4 ?_ ?_ _ _ _ _; rotate_left; focus (first | assumption | omega | (simp; done) | (simp; omega))) | with_reducible refine Cs.set2 ?_ _ _ | (with_reducible refine Cs.other2 ?_ ?_ _ _; rotate_left; focus (first | assumption | omega | (simp; done) | (simp; omega))) | (with_reducible refine Cs.other ?_ ?_ _; rotate_left; focus (first | assumption | omega | (simp; done) | (simp; omega))) | with_reducible refine Cs.keep ?_ (by assumption) | assumption)) hb2
  replace B1 : Cs w2 (w.heap.size + 1) #[.int .i64 sN, .int .i64 sD] := Cs.keep (by repeat (first | with_reducible assumption | (with_reducible refine Cs.new _ _ _ _ ?_; first | rfl | (simp; done)) | with_reducible refine Cs.alloc ?_ _ | with_reducible refine Cs.drewN ?_ _ | with_reducible refine Cs.drew ?_ | with_reducible refine Cs.set4 ?_ _ _ _ _ | (with_reducible refine Cs.other4 ?_ ?_ _ _ _ _; rotate_left; focus (first | assumption | omega | (simp; done) | (simp; omega))) | with_reducible refine Cs.set2 ?_ _ _ | (with_reducible refine Cs.other2 ?_ ?_ _ _; rotate_left; focus (first | assumption | omega | (simp; done) | (simp; omega))) | (with_reducible refine Cs.other ?_ ?_ _; rotate_left; focus (first | assumption | omega | (simp; done) | (simp; omega))) | with_reducible refine Cs.keep ?_ (by assumption) | assumption)) hb2
  replace B2 : Cs w2 (w.heap.size + 1 + 1) #[.int .i64 oN, .int .i64 oD] := Cs.keep (by repeat (first | with_reducible assumption | (with_reducible refine Cs.new _ _ _ _ ?_; first | rfl | (simp; done)) | with_reducible refine Cs.alloc ?_ _ | with_reducible refine Cs.drewN ?_ _ | with_reducible refine Cs.drew ?_ | with_reducible refine Cs.set4 ?_ _ _ _ _ | (with_reducible refine Cs.other4 ?_ ?_ _ _ _ _; rotate_left; focus (first | assumption | omega | (simp; done) | (simp; omega))) | with_reducible refine Cs.set2 ?_ _ _ | (with_reducible refine Cs.other2 ?_ ?_ _ _; rotate_left; focus (first | assumption | omega | (simp; done) | (simp; omega))) | (with_reducible refine Cs.other ?_ ?_ _; rotate_left; focus (first | assumption | omega | (simp; done) | (simp; omega))) | with_reducible refine Cs.keep ?_ (by assumption) | assumption)) hb2
  replace B3 : Cs w2 (w.heap.size + 1 + 1 + 1) #[.int .i64 iN, .int .i64 iD] := Cs.keep (by repeat (first | with_reducible assumption | (with_reducible refine Cs.new _ _ _ _ ?_; first | rfl | (simp; done)) | with_reducible refine Cs.alloc ?_ _ | with_reducible refine Cs.drewN ?_ _ | with_reducible refine Cs.drew ?_ | with_reducible refine Cs.set4 ?_ _ _ _ _ | (with_reducible refine Cs.other4 ?_ ?_ _ _ _ _; rotate_left; focus (first | assumption | omega | (simp; done) | (simp; omega))) | with_reducible refine Cs.set2 ?_ _ _ | (with_reducible refine Cs.other2 ?_ ?_ _ _; rotate_left; focus (first | assumption | omega | (simp; done) | (simp; omega))) | (with_reducible refine Cs.other ?_ ?_ _; rotate_left; focus (first | assumption | omega | (simp; done) | (simp; omega))) | with_reducible refine Cs.keep ?_ (by assumption) | assumption)) hb2
  replace B4 : Cs w2 (w.heap.size + 1 + 1 + 1 + 1) #[.int .i64 0, .int .i64 0] := Cs.keep (by repeat (first | with_reducible assumption | (with_reducible refine Cs.new _ _ _ _ ?_; first | rfl | (simp; done)) | with_reducible refine Cs.alloc ?_ _ | with_reducible refine Cs.drewN ?_ _ | with_reducible refine Cs.drew ?_ | with_reducible refine Cs.set4 ?_ _ _ _ _ | (with_reducible refine Cs.other4 ?_ ?_ _ _ _ _; rotate_left; focus (first | assumption | omega | (simp; done) | (simp; omega))) | with_reducible refine Cs.set2 ?_ _ _ | (with_reducible refine Cs.other2 ?_ ?_ _ _; rotate_left; focus (first | assumption | omega | (simp; done) | (simp; omega))) | (with_reducible refine Cs.other ?_ ?_ _; rotate_left; focus (first | assumption | omega | (simp; done) | (simp; omega))) | with_reducible refine Cs.keep ?_ (by assumption) | assumption)) hb2
  replace hbw : Below w.heap.size w w2 := (by repeat (first | with_reducible exact Below.refl _ _ | with_reducible assumption | with_reducible refine balloc ?_ _ | with_reducible refine bdrewN ?_ _ | with_reducible refine Below.drew ?_ | (with_reducible refine bset ?_ ?_ _; rotate_left; focus (first | assumption | omega | (simp; done) | (simp; omega))) | with_reducible refine bstep ?_ (by assumption) | assumption))
  replace cB0 := B0.c
  replace fB0 := B0.f
  replace lB0 := B0.lt
  replace cB1 := B1.c
  replace fB1 := B1.f
  replace lB1 := B1.lt
  replace cB2 := B2.c
  replace fB2 := B2.f
  replace lB2 := B2.lt
  replace cB3 := B3.c
  replace fB3 := B3.f
  replace lB3 := B3.lt
  replace cB4 := B4.c
  replace fB4 := B4.f
  replace lB4 := B4.lt
  clear hb2
  go_wp2_with fail
  refine (k3 _).mono ?_
  rintro e w3 ⟨rfl, hb3⟩
  replace B0 : Cs w3 (w.heap.size) #[.int .i64 gN, .int .i64 gD] := Cs.keep (by repeat (first | with_reducible assumption | (with_reducible refine Cs.new _ _ _ _ ?_; first | rfl | (simp; done)) | with_reducible refine Cs.alloc ?_ _ | with_reducible refine Cs.drewN ?_ _ | with_reducible refine Cs.drew ?_ | with_reducible refine Cs.set4 ?_ _ _ _ _ | (with_reducible refine Cs.other4 ?_ ?_ _ _ _ _; rotate_left; focus (first | assumption | omega | (simp; done) | (simp; omega))) | with_reducible refine Cs.set2 ?_ _ _ | (with_reducible refine Cs.other2 ?_ ?_ _ _; rotate_left; focus (first | assumption | omega | (simp; done) | (simp; omega))) | (with_reducible refine Cs.other ?_ ?_ _; rotate_left; focus (first | assumption | omega | (simp; done) | (simp; omega))) | with_reducible refine Cs.keep ?_ (by assumption) | assumption)) hb3
  replace B1 : Cs w3 (w.heap.size + 1) #[.int .i64 sN, .int .i64 sD] := Cs.keep (by repeat (first | with_reducible assumption | (with_reducible refine Cs.new _ _ _ _ ?_; first | rfl | (simp; done)) | with_reducible refine Cs.alloc ?_ _ | with_reducible refine Cs.drewN ?_ _ | with_reducible refine Cs.drew ?_ | with_reducible refine Cs.set4 ?_ _ _ _ _ | (with_reducible refine Cs.other4 ?_ ?_ _ _ _ _; rotate_left; focus (first | assumption | omega | (simp; done) | (simp; omega))) | with_reducible refine Cs.set2 ?_ _ _ | (with_reducible refine Cs.other2 ?_ ?_ _ _; rotate_left; focus (first | assumption | omega | (simp; done) | (simp; omega))) | (with_reducible refine Cs.other ?_ ?_ _; rotate_left; focus (first | assumption | omega | (simp; done) | (simp; omega))) | with_reducible refine Cs.keep ?_ (by assumption) | assumption)) hb3
  replace B2 : Cs w3 (w.heap.size + 1 + 1) #[.int .i64 oN, .int .i64 oD] := Cs.keep (by repeat (first | with_reducible assumption | (with_reducible refine Cs.new _ _ _ _ ?_; first | rfl | (simp; done)) | with_reducible refine Cs.alloc ?_ _ | with_reducible refine Cs.drewN ?_ _ | with_reducible refine Cs.drew ?_ | with_reducible refine Cs.set4 ?_ _ _ _ _ | (with_reducible refine Cs.other4 ?_ ?_ _ _ _ _; rotate_left; focus (first | assumption | omega | (simp; done) | (simp; omega))) | with_reducible refine Cs.set2 ?_ _ _ | (with_reducible refine Cs.other2 ?_ ?_ _ _; rotate_left; focus (first | assumption | omega | (simp; done) | (simp; omega))) | (with_reducible refine Cs.other ?_ ?_ _; rotate_left; focus (first | assumption | omega | (simp; done) | (simp; omega))) | with_reducible refine Cs.keep ?_ (by assumption) | assumption)) hb3
  replace B3 : Cs w3 (w.heap.size + 1 + 1 + 1) #[.int .i64 iN, .int .i64 iD] := Cs.keep (by repeat (first | with_reducible assumption | (with_reducible refine Cs.new _ _ _ _ ?_; first | rfl | (simp; done)) | with_reducible refine Cs.alloc ?_ _ | with_reducible refine Cs.drewN ?_ _ | with_reducible refine Cs.drew ?_ | with_reducible refine Cs.set4 ?_ _ _ _ _ | (with_reducible refine Cs.other4 ?_ ?_ _ _ _ _; rotate_left; focus (first | assumption | omega | (simp; done) | (simp; omega))) | with_reducible refine Cs.set2 ?_ _ _ | (with_reducible refine Cs.other2 ?_ ?_ _ _; rotate_left; focus (first | assumption | omega | (simp; done) | (simp; omega))) | (with_reducible refine Cs.other ?_ ?_ _; rotate_left; focus (first | assumption | omega | (simp; done) | (simp; omega))) | with_reducible refine Cs.keep ?_ (by assumption) | assumption)) hb3
  replace B4 : Cs w3 (w.heap.size + 1 + 1 + 1 + 1) #[.int .i64 0, .int .i64 0] := Cs.keep (by repeat (first | with_reducible assumption | (with_reducible refine Cs.new _ _ _ _ ?_; first | rfl | (simp; done)) | with_reducible refine Cs.alloc ?_ _ | with_reducible refine Cs.drewN ?_ _ | with_reducible refine Cs.drew ?_ | with_reducible refine Cs.set4 ?_ _ _ _ _ | (with_reducible refine Cs.other4 ?_ ?_ _ _ _ _; rotate_left; focus (first | assumption | omega | (simp; done) | (simp; omega))) | with_reducible refine Cs.set2 ?_ _ _ | (with_reducible refine Cs.other2 ?_ ?_ _ _; rotate_left; focus (first | assumption | omega | (simp; done) | (simp; omega))) | (with_reducible refine Cs.other ?_ ?_ _; rotate_left; focus (first | assumption | omega | (simp; done) | (simp; omega))) | with_reducible refine Cs.keep ?_ (by assumption) | assumption)) hb3
  replace hbw : Below w.heap.size w w3 := (by repeat (first | with_reducible exact Below.refl _ _ | with_reducible assumption | with_reducible refine balloc ?_ _ | with_reducible refine bdrewN ?_ _ | with_reducible refine Below.drew ?_ | (with_reducible refine bset ?_ ?_ _; rotate_left; focus (first | assumption | omega | (simp; done) | (simp; omega))) | with_reducible refine bstep ?_ (by assumption) | assumption))
  replace cB0 := B0.c
  replace fB0 := B0.f
  replace lB0 := B0.lt
  replace cB1 := B1.c
  replace fB1 := B1.f
  replace lB1 := B1.lt
  replace cB2 := B2.c
  replace fB2 := B2.f
  replace lB2 := B2.lt
  replace cB3 := B3.c
  replace fB3 := B3.f
  replace lB3 := B3.lt
  replace cB4 := B4.c
  replace fB4 := B4.f
  replace lB4 := B4.lt
  clear hb3
  go_wp2_with fail
  refine (k4 _).mono ?_
  rintro e w4 ⟨rfl, hb4⟩
  replace B0 : Cs w4 (w.heap.size) #[.int .i64 gN, .int .i64 gD] := Cs.keep (by repeat (first | with_reducible assumption | (with_reducible refine Cs.new _ _ _ _ ?_; first | rfl | (simp; done)) | with_reducible refine Cs.alloc ?_ _ | with_reducible refine Cs.drewN ?_ _ | with_reducible refine Cs.drew ?_ | with_reducible refine Cs.set4 ?_ _ _ _ _ | (with_reducible refine Cs.other4 ?_ ?_ _ _ _ _; rotate_left; focus (first | assumption | omega | (simp; done) | (simp; omega))) | with_reducible refine Cs.set2 ?_ _ _ | (with_reducible refine Cs.other2 ?_ ?_ _ _; rotate_left; focus (first | assumption | omega | (simp; done) | (simp; omega))) | (with_reducible refine Cs.other ?_ ?_ _; rotate_left; focus (first | assumption | omega | (simp; done) | (simp; omega))) | with_reducible refine Cs.keep ?_ (by assumption) | assumption)) hb4
  replace B1 : Cs w4 (w.heap.size + 1) #[.int .i64 sN, .int .i64 sD] := Cs.keep (by repeat (first | with_reducible assumption | (with_reducible refine Cs.new _ _ _ _ ?_; first | rfl | (simp; done)) | with_reducible refine Cs.alloc ?_ _ | with_reducible refine Cs.drewN ?_ _ | with_reducible refine Cs.drew ?_ | with_reducible refine Cs.set4 ?_ _ _ _ _ | (with_reducible refine Cs.other4 ?_ ?_ _ _ _ _; rotate_left; focus (first | assumption | omega | (simp; done) | (simp; omega))) | with_reducible refine Cs.set2 ?_ _ _ | (with_reducible refine Cs.other2 ?_ ?_ _ _; rotate_left; focus (first | assumption | omega | (simp; done) | (simp; omega))) | (with_reducible refine Cs.other ?_ ?_ _; rotate_left; focus (first | assumption | omega | (simp; done) | (simp; omega))) | with_reducible refine Cs.keep ?_ (by assumption) | assumption)) hb4
  replace B2 : Cs w4 (w.heap.size + 1 + 1) #[.int .i64 oN, .int .i64 oD] := Cs.keep (by repeat (first | with_reducible assumption | (with_reducible refine Cs.new _ _ _ _ ?_; first | rfl | (simp; done)) | with_reducible refine Cs.alloc ?_ _ | with_reducible refine Cs.drewN ?_ _ | with_reducible refine Cs.drew ?_ | with_reducible refine Cs.set4 ?_ _ _ _ _ | (with_reducible refine Cs.other4 ?_ ?_ _ _ _ _; rotate_left; focus (first | assumption | omega | (simp; done) | (simp; omega))) | with_reducible refine Cs.set2 ?_ _ _ | (with_reducible refine Cs.other2 ?_ ?_ _ _; rotate_left; focus (first | assumption | omega | (simp; done) | (simp; omega))) | (with_reducible refine Cs.other ?_ ?_ _; rotate_left; focus (first | assumption | omega | (simp; done) | (simp; omega))) | with_reducible refine Cs.keep ?_ (by assumption) | assumption)) hb4
  replace B3 : Cs w4 (w.heap.size + 1 + 1 + 1) #[.int .i64 iN, .int .i64 iD] := Cs.keep (by repeat (first | with_reducible assumption | (with_reducible refine Cs.new _ _ _ _ ?_; first | rfl | (simp; done)) | with_reducible refine Cs.alloc ?_ _ | with_reducible refine Cs.drewN ?_ _ | with_reducible refine Cs.drew ?_ | with_reducible refine Cs.set4 ?_ _ _ _ _ | (with_reducible refine Cs.other4 ?_ ?_ _ _ _ _; rotate_left; focus (first | assumption | omega | (simp; done) | (simp; omega))) | with_reducible refine Cs.set2 ?_ _ _ | (with_reducible refine Cs.other2 ?_ ?_ _ _; rotate_left; focus (first | assumption | omega | (simp; done) | (simp; omega))) | (with_reducible refine Cs.other ?_ ?_ _; rotate_left; focus (first | assumption | omega | (simp; done) | (simp; omega))) | with_reducible refine Cs.keep ?_ (by assumption) | assumption)) hb4
  replace B4 : Cs w4 (w.heap.size + 1 + 1 + 1 + 1) #[.int .i64 0, .int .i64 0] := Cs.keep (by repeat (first | with_reducible assumption | (with_reducible refine Cs.new _ _ _ _ ?_; first | rfl | (simp; done)) | with_reducible refine Cs.alloc ?_ _ | with_reducible refine Cs.drewN ?_ _ | with_reducible refine Cs.drew ?_ | with_reducible refine Cs.set4 ?_ _ _ _ _ | (with_reducible refine Cs.other4 ?_ ?_ _ _ _ _; rotate_left; focus (first | assumption | omega | (simp; done) | (simp; omega))) | with_reducible refine Cs.set2 ?_ _ _ | (with_reducible refine Cs.other2 ?_ ?_ _ _; rotate_left; focus (first | assumption | omega | (simp; done) | (simp; omega))) | (with_reducible refine Cs.other ?_ ?_ _; rotate_left; focus (first | assumption | omega | (simp; done) | (simp; omega))) | with_reducible refine Cs.keep ?_ (by assumption) | assumption)) hb4
  replace hbw : Below w.heap.size w w4 := (by repeat (first | with_reducible exact Below.refl _ _ | with_reducible assumption | with_reducible refine balloc ?_ _ | with_reducible refine bdrewN ?_ _ | with_reducible refine Below.drew ?_ | (with_reducible refine bset ?_ ?_ _; rotate_left; focus (first | assumption | omega | (simp; done) | (simp; omega))) | with_reducible refine bstep ?_ (by assumption) | assumption))
  replace cB0 := B0.c
  replace fB0 := B0.f
  replace lB0 := B0.lt
  replace cB1 := B1.c
  replace fB1 := B1.f
  replace lB1 := B1.lt
  replace cB2 := B2.c
  replace fB2 := B2.f
  replace lB2 := B2.lt
  replace cB3 := B3.c
  replace fB3 := B3.f
  replace lB3 := B3.lt
  replace cB4 := B4.c
  replace fB4 := B4.f
  replace lB4 := B4.lt
  clear hb4
  clear k1 k2 k3 k4
  go_wp2_with fail
  go_loopw [10] (fun s10 wr => ∃ p : Nat, 1 ≤ p ∧ p ≤ 13 ∧ s10 = .int .i64 p ∧ Hid (Em.planFrom (planQ gN gD sN sD oN oD iN iD) 1 12 = Em.planFrom (planQ gN gD sN sD oN oD iN iD) p (13 - p)) ∧
      Cs wr w.heap.size #[.int .i64 gN, .int .i64 gD] ∧ Cs wr (w.heap.size + 1) #[.int .i64 sN, .int .i64 sD] ∧ Cs wr (w.heap.size + 1 + 1) #[.int .i64 oN, .int .i64 oD] ∧ Cs wr (w.heap.size + 1 + 1 + 1) #[.int .i64 iN, .int .i64 iD] ∧ Cs wr (w.heap.size + 1 + 1 + 1 + 1) #[.int .i64 0, .int .i64 0] ∧ Below w.heap.size w wr) (fun s10 _ => 13 - (intOf s10).toNat)
  case atStart => exact ⟨1, by omega, by omega, rfl, Lib.hid rfl, B0, B1, B2, B3, B4, hbw⟩
  case round =>
    clear B0 B1 B2 B3 B4 hbw cB0 fB0 lB0 cB1 fB1 lB1 cB2 fB2 lB2 cB3 fB3 lB3 cB4 fB4 lB4
    obtain ⟨p, hp1, hp2, rfl, Hpl, B0, B1, B2, B3, B4, hbw⟩ := hrel
    by_cases hp : p ≤ 12
    · have hpI : (p : Int) ≤ 12 := by omega
      go_wp2_with fail
      go_loopw [11] (fun s11 wx => ∃ (r : Nat) (W : World), r ≤ p + 1 ∧ s11 = .int .i64 r ∧ Hid (W = wx) ∧ Hid (∀ y, y < r → planQ gN gD sN sD oN oD iN iD p y = false) ∧
          Cs W w.heap.size #[.int .i64 gN, .int .i64 gD] ∧ Cs W (w.heap.size + 1) #[.int .i64 sN, .int .i64 sD] ∧ Cs W (w.heap.size + 1 + 1) #[.int .i64 oN, .int .i64 oD] ∧ Cs W (w.heap.size + 1 + 1 + 1) #[.int .i64 iN, .int .i64 iD] ∧ Cs W (w.heap.size + 1 + 1 + 1 + 1) #[.int .i64 0, .int .i64 0] ∧ Below w.heap.size w W) (fun s11 _ => (p + 1) - (intOf s11).toNat)
      case atStart => exact ⟨0, _, by omega, rfl, Lib.hid rfl, Lib.hid (fun y hy => absurd hy (by omega)), B0, B1, B2, B3, B4, hbw⟩
      case round =>
        clear B0 B1 B2 B3 B4 hbw
        obtain ⟨r, W, hr, rfl, HW, Hno, B0, B1, B2, B3, B4, hbw⟩ := hrel
        obtain rfl := HW.out
        clear HW
        by_cases hrp : r < p + 1
        · have hrI : (r : Int) ≤ (p : Int) := by omega
          have kk := fun W => keeps_any p r gN gD sN sD oN oD iN iD W hp (by omega) HA.out _ rfl
          cases hq : planQ gN gD sN sD oN oD iN iD p r with
          | true =>
            rw [hq] at kk
            have hfin : R = (((p : Int), (r : Int)), 0) := by
              rw [← HR.out]
              unfold planP
              have e : Em.rightFrom (planQ gN gD sN sD oN oD iN iD p) 0 (p + 1) = some r := Em.rf_some hrp hq (fun y hy => Hno.out y hy)
              rw [Hpl.out, show 13 - p = (12 - p) + 1 by omega, Em.planFrom, e]
            subst hfin
            clear hq HR Hpl Hno
            have cB0 := B0.c
            have fB0 := B0.f
            have lB0 := B0.lt
            have cB1 := B1.c
            have fB1 := B1.f
            have lB1 := B1.lt
            have cB2 := B2.c
            have fB2 := B2.f
            have lB2 := B2.lt
            have cB3 := B3.c
            have fB3 := B3.f
            have lB3 := B3.lt
            go_wp2_with fail
            refine (kk _).mono ?_
            rintro e w5 ⟨rfl, hb5⟩
            try clear cB0 fB0 lB0
            try clear B0
            try clear cB1 fB1 lB1
            try clear B1
            try clear cB2 fB2 lB2
            try clear B2
            try clear cB3 fB3 lB3
            try clear B3
            replace B4 : Cs w5 (w.heap.size + 1 + 1 + 1 + 1) #[.int .i64 0, .int .i64 0] := Cs.keep (by repeat (first | with_reducible assumption | (with_reducible refine Cs.new _ _ _ _ ?_; first | rfl | (simp; done)) | with_reducible refine Cs.alloc ?_ _ | with_reducible refine Cs.drewN ?_ _ | with_reducible refine Cs.drew ?_ | with_reducible refine Cs.set4 ?_ _ _ _ _ | (with_reducible refine Cs.other4 ?_ ?_ _ _ _ _; rotate_left; focus (first | assumption | omega | (simp; done) | (simp; omega))) | with_reducible refine Cs.set2 ?_ _ _ | (with_reducible refine Cs.other2 ?_ ?_ _ _; rotate_left; focus (first | assumption | omega | (simp; done) | (simp; omega))) | (with_reducible refine Cs.other ?_ ?_ _; rotate_left; focus (first | assumption | omega | (simp; done) | (simp; omega))) | with_reducible refine Cs.keep ?_ (by assumption) | assumption)) hb5
            replace Bx : Cs w5 (W.heap.size) #[.int .i64 p, .int .i64 r] := Cs.keep (by repeat (first | with_reducible assumption | (with_reducible refine Cs.new _ _ _ _ ?_; first | rfl | (simp; done)) | with_reducible refine Cs.alloc ?_ _ | with_reducible refine Cs.drewN ?_ _ | with_reducible refine Cs.drew ?_ | with_reducible refine Cs.set4 ?_ _ _ _ _ | (with_reducible refine Cs.other4 ?_ ?_ _ _ _ _; rotate_left; focus (first | assumption | omega | (simp; done) | (simp; omega))) | with_reducible refine Cs.set2 ?_ _ _ | (with_reducible refine Cs.other2 ?_ ?_ _ _; rotate_left; focus (first | assumption | omega | (simp; done) | (simp; omega))) | (with_reducible refine Cs.other ?_ ?_ _; rotate_left; focus (first | assumption | omega | (simp; done) | (simp; omega))) | with_reducible refine Cs.keep ?_ (by assumption) | assumption)) hb5
            replace hbw : Below w.heap.size w w5 := (by repeat (first | with_reducible exact Below.refl _ _ | with_reducible assumption | with_reducible refine balloc ?_ _ | with_reducible refine bdrewN ?_ _ | with_reducible refine Below.drew ?_ | (with_reducible refine bset ?_ ?_ _; rotate_left; focus (first | assumption | omega | (simp; done) | (simp; omega))) | with_reducible refine bstep ?_ (by assumption) | assumption))
            replace cB4 := B4.c
            replace fB4 := B4.f
            replace lB4 := B4.lt
            replace cBx := Bx.c
            replace fBx := Bx.f
            replace lBx := Bx.lt
            clear hb5
            go_wp2_with fail
            exact bodyPost_ret (v := .tuple #[.agg #[.int .i64 (p : Int), .int .i64 (r : Int)], .int .i64 0]) (by simp [results, Try.results25, go_sem, cB4, fB4, lB4, cBx, fBx, lBx]) rfl ⟨rfl, (by repeat (first | with_reducible exact Below.refl _ _ | with_reducible assumption | with_reducible refine balloc ?_ _ | with_reducible refine bdrewN ?_ _ | with_reducible refine Below.drew ?_ | (with_reducible refine bset ?_ ?_ _; rotate_left; focus (first | assumption | omega | (simp; done) | (simp; omega))) | with_reducible refine bstep ?_ (by assumption) | assumption))⟩
          | false =>
            rw [hq] at kk
            have Hno2 : Hid (∀ y, y < r + 1 → planQ gN gD sN sD oN oD iN iD p y = false) := Lib.hid (fun y hy => by
              by_cases e : y = r
              · rw [e]; exact hq
              · exact Hno.out y (by omega))
            clear hq Hno
            have cB0 := B0.c
            have fB0 := B0.f
            have lB0 := B0.lt
            have cB1 := B1.c
            have fB1 := B1.f
            have lB1 := B1.lt
            have cB2 := B2.c
            have fB2 := B2.f
            have lB2 := B2.lt
            have cB3 := B3.c
            have fB3 := B3.f
            have lB3 := B3.lt
            go_wp2_with fail
            refine (kk _).mono ?_
            rintro e w5 ⟨rfl, hb5⟩
            try clear cBx fBx lBx
            try clear Bx
            replace B0 : Cs w5 (w.heap.size) #[.int .i64 gN, .int .i64 gD] := Cs.keep (by repeat (first | with_reducible assumption | (with_reducible refine Cs.new _ _ _ _ ?_; first | rfl | (simp; done)) | with_reducible refine Cs.alloc ?_ _ | with_reducible refine Cs.drewN ?_ _ | with_reducible refine Cs.drew ?_ | with_reducible refine Cs.set4 ?_ _ _ _ _ | (with_reducible refine Cs.other4 ?_ ?_ _ _ _ _; rotate_left; focus (first | assumption | omega | (simp; done) | (simp; omega))) | with_reducible refine Cs.set2 ?_ _ _ | (with_reducible refine Cs.other2 ?_ ?_ _ _; rotate_left; focus (first | assumption | omega | (simp; done) | (simp; omega))) | (with_reducible refine Cs.other ?_ ?_ _; rotate_left; focus (first | assumption | omega | (simp; done) | (simp; omega))) | with_reducible refine Cs.keep ?_ (by assumption) | assumption)) hb5
            replace B1 : Cs w5 (w.heap.size + 1) #[.int .i64 sN, .int .i64 sD] := Cs.keep (by repeat (first | with_reducible assumption | (with_reducible refine Cs.new _ _ _ _ ?_; first | rfl | (simp; done)) | with_reducible refine Cs.alloc ?_ _ | with_reducible refine Cs.drewN ?_ _ | with_reducible refine Cs.drew ?_ | with_reducible refine Cs.set4 ?_ _ _ _ _ | (with_reducible refine Cs.other4 ?_ ?_ _ _ _ _; rotate_left; focus (first | assumption | omega | (simp; done) | (simp; omega))) | with_reducible refine Cs.set2 ?_ _ _ | (with_reducible refine Cs.other2 ?_ ?_ _ _; rotate_left; focus (first | assumption | omega | (simp; done) | (simp; omega))) | (with_reducible refine Cs.other ?_ ?_ _; rotate_left; focus (first | assumption | omega | (simp; done) | (simp; omega))) | with_reducible refine Cs.keep ?_ (by assumption) | assumption)) hb5
            replace B2 : Cs w5 (w.heap.size + 1 + 1) #[.int .i64 oN, .int .i64 oD] := Cs.keep (by repeat (first | with_reducible assumption | (with_reducible refine Cs.new _ _ _ _ ?_; first | rfl | (simp; done)) | with_reducible refine Cs.alloc ?_ _ | with_reducible refine Cs.drewN ?_ _ | with_reducible refine Cs.drew ?_ | with_reducible refine Cs.set4 ?_ _ _ _ _ | (with_reducible refine Cs.other4 ?_ ?_ _ _ _ _; rotate_left; focus (first | assumption | omega | (simp; done) | (simp; omega))) | with_reducible refine Cs.set2 ?_ _ _ | (with_reducible refine Cs.other2 ?_ ?_ _ _; rotate_left; focus (first | assumption | omega | (simp; done) | (simp; omega))) | (with_reducible refine Cs.other ?_ ?_ _; rotate_left; focus (first | assumption | omega | (simp; done) | (simp; omega))) | with_reducible refine Cs.keep ?_ (by assumption) | assumption)) hb5
            replace B3 : Cs w5 (w.heap.size + 1 + 1 + 1) #[.int .i64 iN, .int .i64 iD] := Cs.keep (by repeat (first | with_reducible assumption | (with_reducible refine Cs.new _ _ _ _ ?_; first | rfl | (simp; done)) | with_reducible refine Cs.alloc ?_ _ | with_reducible refine Cs.drewN ?_ _ | with_reducible refine Cs.drew ?_ | with_reducible refine Cs.set4 ?_ _ _ _ _ | (with_reducible refine Cs.other4 ?_ ?_ _ _ _ _; rotate_left; focus (first | assumption | omega | (simp; done) | (simp; omega))) | with_reducible refine Cs.set2 ?_ _ _ | (with_reducible refine Cs.other2 ?_ ?_ _ _; rotate_left; focus (first | assumption | omega | (simp; done) | (simp; omega))) | (with_reducible refine Cs.other ?_ ?_ _; rotate_left; focus (first | assumption | omega | (simp; done) | (simp; omega))) | with_reducible refine Cs.keep ?_ (by assumption) | assumption)) hb5
            replace B4 : Cs w5 (w.heap.size + 1 + 1 + 1 + 1) #[.int .i64 0, .int .i64 0] := Cs.keep (by repeat (first | with_reducible assumption | (with_reducible refine Cs.new _ _ _ _ ?_; first | rfl | (simp; done)) | with_reducible refine Cs.alloc ?_ _ | with_reducible refine Cs.drewN ?_ _ | with_reducible refine Cs.drew ?_ | with_reducible refine Cs.set4 ?_ _ _ _ _ | (with_reducible refine Cs.other4 ?_ ?_ _ _ _ _; rotate_left; focus (first | assumption | omega | (simp; done) | (simp; omega))) | with_reducible refine Cs.set2 ?_ _ _ | (with_reducible refine Cs.other2 ?_ ?_ _ _; rotate_left; focus (first | assumption | omega | (simp; done) | (simp; omega))) | (with_reducible refine Cs.other ?_ ?_ _; rotate_left; focus (first | assumption | omega | (simp; done) | (simp; omega))) | with_reducible refine Cs.keep ?_ (by assumption) | assumption)) hb5
            replace hbw : Below w.heap.size w w5 := (by repeat (first | with_reducible exact Below.refl _ _ | with_reducible assumption | with_reducible refine balloc ?_ _ | with_reducible refine bdrewN ?_ _ | with_reducible refine Below.drew ?_ | (with_reducible refine bset ?_ ?_ _; rotate_left; focus (first | assumption | omega | (simp; done) | (simp; omega))) | with_reducible refine bstep ?_ (by assumption) | assumption))
            replace cB0 := B0.c
            replace fB0 := B0.f
            replace lB0 := B0.lt
            replace cB1 := B1.c
            replace fB1 := B1.f
            replace lB1 := B1.lt
            replace cB2 := B2.c
            replace fB2 := B2.f
            replace lB2 := B2.lt
            replace cB3 := B3.c
            replace fB3 := B3.f
            replace lB3 := B3.lt
            replace cB4 := B4.c
            replace fB4 := B4.f
            replace lB4 := B4.lt
            clear hb5
            go_wp2_with fail
            go_roundw
            case rel => exact ⟨r + 1, _, by omega, by go_num, Lib.hid rfl, Hno2, B0, B1, B2, B3, B4, hbw⟩
            case measure => simp [intOf]; omega
        · obtain rfl : r = p + 1 := by omega
          have Hpl2 : Hid (Em.planFrom (planQ gN gD sN sD oN oD iN iD) 1 12 = Em.planFrom (planQ gN gD sN sD oN oD iN iD) (p + 1) (13 - (p + 1))) := Lib.hid (by
            have e : Em.rightFrom (planQ gN gD sN sD oN oD iN iD p) 0 (p + 1) = none := Em.rf_none (fun y hy => Hno.out y hy)
            rw [Hpl.out, show 13 - p = (13 - (p + 1)) + 1 by omega, Em.planFrom, e])
          clear Hpl Hno
          have f5 : ((p + 1 : Nat) : Int) = (p : Int) + 1 := by omega
          go_wp2_with fail
          go_roundw
          case rel => exact ⟨p + 1, by omega, by omega, by go_num, Hpl2, B0, B1, B2, B3, B4, hbw⟩
          case measure => simp [intOf]; omega
    · obtain rfl : p = 13 := by omega
      have hfin : R = ((0, 0), 22) := by
        rw [← HR.out]
        unfold planP
        rw [Hpl.out]
        rfl
      subst hfin
      clear HR Hpl
      have cB4 := B4.c
      have fB4 := B4.f
      have lB4 := B4.lt
      go_wp2_with fail
      exact bodyPost_ret (v := .tuple #[.agg #[.int .i64 0, .int .i64 0], .int .i64 22]) (by simp [results, Try.results25, go_sem, cB4, fB4, lB4]) rfl ⟨rfl, (by repeat (first | with_reducible exact Below.refl _ _ | with_reducible assumption | with_reducible refine balloc ?_ _ | with_reducible refine bdrewN ?_ _ | with_reducible refine Below.drew ?_ | (with_reducible refine bset ?_ ?_ _; rotate_left; focus (first | assumption | omega | (simp; done) | (simp; omega))) | with_reducible refine bstep ?_ (by assumption) | assumption))⟩

/-- the plan and the error -/
def planE (gN gD sN sD oN oD iN iD : Int) : (Int × Int) × Int :=
  if isCh gN gD 10 = true ∧ isCh sN sD 10 = true ∧ isCh oN oD 1000000 = true ∧ isCh iN iD 1000000 = true then planP gN gD sN sD oN oD iN iD else ((0, 0), 2)

theorem plan_any (gN gD sN sD oN oD iN iD : Int) (w : World) :
    Calls Try.prog 24 #[.agg #[.int .i64 gN, .int .i64 gD], .agg #[.int .i64 sN, .int .i64 sD], .agg #[.int .i64 oN, .int .i64 oD], .agg #[.int .i64 iN, .int .i64 iD]] w fun e w' => e = RetPL (planE gN gD sN sD oN oD iN iD) ∧ Below w.heap.size w w' := by
  unfold planE
  by_cases h : isCh gN gD 10 = true ∧ isCh sN sD 10 = true ∧ isCh oN oD 1000000 = true ∧ isCh iN iD 1000000 = true
  · rw [if_pos h]; exact plan_ok gN gD sN sD oN oD iN iD w h.1 h.2.1 h.2.2.1 h.2.2.2
  · rw [if_neg h]; exact plan_bad gN gD sN sD oN oD iN iD w h
theorem rplan_any (gN gD sN sD oN oD iN iD : Int) (w : World) :
    Calls Try.prog 25 #[.agg #[.int .i64 gN, .int .i64 gD], .agg #[.int .i64 sN, .int .i64 sD], .agg #[.int .i64 oN, .int .i64 oD], .agg #[.int .i64 iN, .int .i64 iD]] w fun e w' => e = RetPL (planE gN gD sN sD oN oD iN iD) ∧ Below w.heap.size w w' := by
  unfold planE
  by_cases h : isCh gN gD 10 = true ∧ isCh sN sD 10 = true ∧ isCh oN oD 1000000 = true ∧ isCh iN iD 1000000 = true
  · rw [if_pos h]; exact rplan_ok gN gD sN sD oN oD iN iD w h.1 h.2.1 h.2.2.1 h.2.2.2
  · rw [if_neg h]; exact rplan_bad gN gD sN sD oN oD iN iD w h

end Go.Proofs.Ytcmllkjgggcghaa
