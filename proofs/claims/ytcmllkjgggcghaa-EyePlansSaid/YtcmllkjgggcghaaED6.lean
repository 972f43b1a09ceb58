/- Walks of package eye: Region. -/
import Derived.Test.YtcmllkjgggcghaaED5
namespace Go.Proofs.Ytcmllkjgggcghaa
open Go.RowKit Go.Shelf
set_option linter.unusedSimpArgs false
set_option linter.unusedVariables false

/-- a list and an error that are handed back -/
def RetLE (r : List Int × Int) (w : World) (e : Ending) (w' : World) : Prop :=
  ∃ A n c, e = .returned (.tuple #[.slice A n c, .int .i64 r.2]) ∧ Ints w' A n r.1 ∧ Below w.heap.size w w'

/-- what Region answers -/
def regionP (zs : List Pl) (n : Nat) (N D : Int) : List Int × Int :=
  if testE zs ≠ 0 then ([], testE zs) else if isTh N D then (regL zs n (N, D) (manyT zs), 0) else ([], 2)

theorem isTh_bd {n d : Int} (h : isTh n d = true) : 0 ≤ n ∧ n ≤ 1000000000 ∧ 1 ≤ d ∧ d ≤ 1000000000 ∧ Int.gcd n d = 1 := by simpa [isTh] using h

set_option maxHeartbeats 1000000 in
theorem regionE_any (A : Option Addr) (n c : Nat) (zs : List Pl) (N D : Int) (w : World) (hz : Plates w A n zs) (hn : n ≤ 9223372036854775807) :
    Calls Try.prog 15 #[.slice A n c, .agg #[.int .i64 N, .int .i64 D]] w (RetLE (regionP zs n N D) w) := by
  by_cases ht : testE zs = 0
  · obtain ⟨t1, t2, hg⟩ := testE_ok ht
    have hl := hz.1
    have kn := fun (W : World) (hb : Below w.heap.size w W) => newTest_ok A n c zs W (hz.below hb) hn ht
    have kv := fun W => valid_any N D W
    by_cases hv : isTh N D = true
    · obtain ⟨v1, v2, v3, v4, _⟩ := isTh_bd hv
      have kr := fun (W : World) (g : Nat) (hb : Below w.heap.size w W) (hB : Cs W g #[.slice A n c, .int .i64 (manyT zs : Nat)]) => region_any A n c (manyT zs) g zs N D W (hz.below hb) (by omega) hg hB v1 v2 (by omega) v4
      have hR : regionP zs n N D = (regL zs n (N, D) (manyT zs), 0) := by simp [regionP, ht, hv]
      rw [hR]
      rw [hv] at kv
      clear hR ht hv hg v1 v2 v3 v4
      unfold RetLE
      go_enter Try.func15, Try.ntmps15
      go_wp2_with fail
      refine (kn _ (by repeat (first | with_reducible exact Below.refl _ _ | with_reducible assumption | with_reducible refine balloc ?_ _ | with_reducible refine bdrewN ?_ _ | with_reducible refine Below.drew ?_ | (with_reducible refine bset ?_ ?_ _; rotate_left; focus (first | assumption | omega | (simp; done) | (simp; omega))) | with_reducible refine bstep ?_ (by assumption) | assumption))).mono ?_
      rintro _ w1 ⟨g, rfl, hgw, Bg, hb1⟩
      replace B0 : Cs w1 (w.heap.size) #[.int .i64 N, .int .i64 D] := Cs.keep (by repeat (first | with_reducible assumption | (with_reducible refine Cs.new _ _ _ _ ?_; first | rfl | (simp; done)) | with_reducible refine Cs.alloc ?_ _ | with_reducible refine Cs.drewN ?_ _ | with_reducible refine Cs.drew ?_ | with_reducible refine Cs.set4 ?_ _ _ _ _ | (with_reducible refine Cs.other4 ?_ ?_ _ _ _ _; rotate_left; focus (first | assumption | omega | (simp; done) | (simp; omega))) | with_reducible refine Cs.set2 ?_ _ _ | (with_reducible refine Cs.other2 ?_ ?_ _ _; rotate_left; focus (first | assumption | omega | (simp; done) | (simp; omega))) | (with_reducible refine Cs.other ?_ ?_ _; rotate_left; focus (first | assumption | omega | (simp; done) | (simp; omega))) | with_reducible refine Cs.keep ?_ (by assumption) | assumption)) hb1
      replace hbw : Below w.heap.size w w1 := (by repeat (first | with_reducible exact Below.refl _ _ | with_reducible assumption | with_reducible refine balloc ?_ _ | with_reducible refine bdrewN ?_ _ | with_reducible refine Below.drew ?_ | (with_reducible refine bset ?_ ?_ _; rotate_left; focus (first | assumption | omega | (simp; done) | (simp; omega))) | with_reducible refine bstep ?_ (by assumption) | assumption))
      replace cB0 := B0.c
      replace fB0 := B0.f
      replace lB0 := B0.lt
      clear hb1
      go_wp2_with fail
      refine (kv _).mono ?_
      rintro _ w2 ⟨rfl, hb2⟩
      have Bg2 : Cs w2 g #[.slice A n c, .int .i64 (manyT zs : Nat)] := Cs.keep (by repeat (first | with_reducible assumption | (with_reducible refine Cs.new _ _ _ _ ?_; first | rfl | (simp; done)) | with_reducible refine Cs.alloc ?_ _ | with_reducible refine Cs.drewN ?_ _ | with_reducible refine Cs.drew ?_ | with_reducible refine Cs.set4 ?_ _ _ _ _ | (with_reducible refine Cs.other4 ?_ ?_ _ _ _ _; rotate_left; focus (first | assumption | omega | (simp; done) | (simp; omega))) | with_reducible refine Cs.set2 ?_ _ _ | (with_reducible refine Cs.other2 ?_ ?_ _ _; rotate_left; focus (first | assumption | omega | (simp; done) | (simp; omega))) | (with_reducible refine Cs.other ?_ ?_ _; rotate_left; focus (first | assumption | omega | (simp; done) | (simp; omega))) | with_reducible refine Cs.keep ?_ (by assumption) | assumption)) hb2
      try clear cB0 fB0 lB0
      try clear B0
      replace B1 : Cs w2 (w1.heap.size) #[.int .i64 N, .int .i64 D] := Cs.keep (by repeat (first | with_reducible assumption | (with_reducible refine Cs.new _ _ _ _ ?_; first | rfl | (simp; done)) | with_reducible refine Cs.alloc ?_ _ | with_reducible refine Cs.drewN ?_ _ | with_reducible refine Cs.drew ?_ | with_reducible refine Cs.set4 ?_ _ _ _ _ | (with_reducible refine Cs.other4 ?_ ?_ _ _ _ _; rotate_left; focus (first | assumption | omega | (simp; done) | (simp; omega))) | with_reducible refine Cs.set2 ?_ _ _ | (with_reducible refine Cs.other2 ?_ ?_ _ _; rotate_left; focus (first | assumption | omega | (simp; done) | (simp; omega))) | (with_reducible refine Cs.other ?_ ?_ _; rotate_left; focus (first | assumption | omega | (simp; done) | (simp; omega))) | with_reducible refine Cs.keep ?_ (by assumption) | assumption)) hb2
      replace hbw : Below w.heap.size w w2 := (by repeat (first | with_reducible exact Below.refl _ _ | with_reducible assumption | with_reducible refine balloc ?_ _ | with_reducible refine bdrewN ?_ _ | with_reducible refine Below.drew ?_ | (with_reducible refine bset ?_ ?_ _; rotate_left; focus (first | assumption | omega | (simp; done) | (simp; omega))) | with_reducible refine bstep ?_ (by assumption) | assumption))
      replace cB1 := B1.c
      replace fB1 := B1.f
      replace lB1 := B1.lt
      clear hb2
      go_wp2_with fail
      refine (kr _ _ (by repeat (first | with_reducible exact Below.refl _ _ | with_reducible assumption | with_reducible refine balloc ?_ _ | with_reducible refine bdrewN ?_ _ | with_reducible refine Below.drew ?_ | (with_reducible refine bset ?_ ?_ _; rotate_left; focus (first | assumption | omega | (simp; done) | (simp; omega))) | with_reducible refine bstep ?_ (by assumption) | assumption)) Bg2).mono ?_
      rintro _ w3 ⟨A3, n3, c3, rfl, h3, hb3, _⟩
      try clear cB0 fB0 lB0
      try clear B0
      try clear cB1 fB1 lB1
      try clear B1
      replace hbw : Below w.heap.size w w3 := (by repeat (first | with_reducible exact Below.refl _ _ | with_reducible assumption | with_reducible refine balloc ?_ _ | with_reducible refine bdrewN ?_ _ | with_reducible refine Below.drew ?_ | (with_reducible refine bset ?_ ?_ _; rotate_left; focus (first | assumption | omega | (simp; done) | (simp; omega))) | with_reducible refine bstep ?_ (by assumption) | assumption))
      clear hb3
      clear kn kv kr
      go_wp2_with fail
      go_ret2
      exact ⟨A3, n3, c3, rfl, h3, hbw⟩
    · have hv' : isTh N D = false := by simpa using hv
      have hR : regionP zs n N D = ([], 2) := by simp [regionP, ht, hv']
      rw [hR]
      rw [hv'] at kv
      clear hR ht hv hv' hg
      unfold RetLE
      go_enter Try.func15, Try.ntmps15
      go_wp2_with fail
      refine (kn _ (by repeat (first | with_reducible exact Below.refl _ _ | with_reducible assumption | with_reducible refine balloc ?_ _ | with_reducible refine bdrewN ?_ _ | with_reducible refine Below.drew ?_ | (with_reducible refine bset ?_ ?_ _; rotate_left; focus (first | assumption | omega | (simp; done) | (simp; omega))) | with_reducible refine bstep ?_ (by assumption) | assumption))).mono ?_
      rintro _ w1 ⟨g, rfl, hgw, Bg, hb1⟩
      try clear cB1 fB1 lB1
      try clear B1
      replace B0 : Cs w1 (w.heap.size) #[.int .i64 N, .int .i64 D] := Cs.keep (by repeat (first | with_reducible assumption | (with_reducible refine Cs.new _ _ _ _ ?_; first | rfl | (simp; done)) | with_reducible refine Cs.alloc ?_ _ | with_reducible refine Cs.drewN ?_ _ | with_reducible refine Cs.drew ?_ | with_reducible refine Cs.set4 ?_ _ _ _ _ | (with_reducible refine Cs.other4 ?_ ?_ _ _ _ _; rotate_left; focus (first | assumption | omega | (simp; done) | (simp; omega))) | with_reducible refine Cs.set2 ?_ _ _ | (with_reducible refine Cs.other2 ?_ ?_ _ _; rotate_left; focus (first | assumption | omega | (simp; done) | (simp; omega))) | (with_reducible refine Cs.other ?_ ?_ _; rotate_left; focus (first | assumption | omega | (simp; done) | (simp; omega))) | with_reducible refine Cs.keep ?_ (by assumption) | assumption)) hb1
      replace hbw : Below w.heap.size w w1 := (by repeat (first | with_reducible exact Below.refl _ _ | with_reducible assumption | with_reducible refine balloc ?_ _ | with_reducible refine bdrewN ?_ _ | with_reducible refine Below.drew ?_ | (with_reducible refine bset ?_ ?_ _; rotate_left; focus (first | assumption | omega | (simp; done) | (simp; omega))) | with_reducible refine bstep ?_ (by assumption) | assumption))
      replace cB0 := B0.c
      replace fB0 := B0.f
      replace lB0 := B0.lt
      clear hb1
      go_wp2_with fail
      refine (kv _).mono ?_
      rintro _ w2 ⟨rfl, hb2⟩
      try clear cB0 fB0 lB0
      try clear B0
      try clear cB1 fB1 lB1
      try clear B1
      replace hbw : Below w.heap.size w w2 := (by repeat (first | with_reducible exact Below.refl _ _ | with_reducible assumption | with_reducible refine balloc ?_ _ | with_reducible refine bdrewN ?_ _ | with_reducible refine Below.drew ?_ | (with_reducible refine bset ?_ ?_ _; rotate_left; focus (first | assumption | omega | (simp; done) | (simp; omega))) | with_reducible refine bstep ?_ (by assumption) | assumption))
      clear hb2
      clear kn kv
      go_wp2_with fail
      go_ret2
      exact ⟨none, 0, 0, rfl, Ints.nil _ _, hbw⟩
  · have kn := fun (W : World) (hb : Below w.heap.size w W) => newTest_bad A n c zs W (hz.below hb) hn ht
    have hR : regionP zs n N D = ([], testE zs) := by simp [regionP, ht]
    rw [hR]
    have h0 : (testE zs == 0) = false := by simp [ht]
    have h1 : (testE zs != 0) = true := by simp [ht]
    generalize testE zs = e at *
    clear hR ht
    unfold RetLE
    go_enter Try.func15, Try.ntmps15
    go_wp2_with fail
    refine (kn _ (by repeat (first | with_reducible exact Below.refl _ _ | with_reducible assumption | with_reducible refine balloc ?_ _ | with_reducible refine bdrewN ?_ _ | with_reducible refine Below.drew ?_ | (with_reducible refine bset ?_ ?_ _; rotate_left; focus (first | assumption | omega | (simp; done) | (simp; omega))) | with_reducible refine bstep ?_ (by assumption) | assumption))).mono ?_
    rintro _ w1 ⟨rfl, hb1⟩
    try clear cB0 fB0 lB0
    try clear B0
    try clear cB1 fB1 lB1
    try clear B1
    replace hbw : Below w.heap.size w w1 := (by repeat (first | with_reducible exact Below.refl _ _ | with_reducible assumption | with_reducible refine balloc ?_ _ | with_reducible refine bdrewN ?_ _ | with_reducible refine Below.drew ?_ | (with_reducible refine bset ?_ ?_ _; rotate_left; focus (first | assumption | omega | (simp; done) | (simp; omega))) | with_reducible refine bstep ?_ (by assumption) | assumption))
    clear hb1
    clear kn
    go_wp2_with fail
    go_ret2
    exact ⟨none, 0, 0, rfl, Ints.nil _ _, hbw⟩

end Go.Proofs.Ytcmllkjgggcghaa
