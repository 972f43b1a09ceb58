/- Walks of the reference of layer 10: the odds of an outcome by its number. -/
import Derived.Test.YtcmllkjgggcghaaEC3
import Derived.Test.YtcmllkjgggcghaaEC4
namespace Go.Proofs.Ytcmllkjgggcghaa
open Go.RowKit Go.Shelf
set_option linter.unusedSimpArgs false
set_option linter.unusedVariables false

/-- how many answers each plate has -/
def lensOf (zs : List Pl) (i : Nat) : Nat := (plAt zs i).gn
/-- the answers of an outcome -/
def digs (zs : List Pl) (n N : Nat) : Nat → Nat := digF (fun i => (plAt zs i).gn) n N (fun _ => 0)

theorem digs_fit {zs : List Pl} {n N : Nat} (hl : zs.length = n) (hg : ∀ p ∈ zs, Good p) (hN : N < mt (fun i => (plAt zs i).gn) n) : Fit zs (digs zs n N) := by
  intro k p hk
  have hkn : k < n := by rw [← hl]; exact (List.getElem?_eq_some_iff.1 hk).1
  have h := (dig_vl (L := fun i => (plAt zs i).gn) n N (fun _ => 0) (fun i hi => by
    have hget : zs[i]? = some zs[i] := List.getElem?_eq_getElem (by omega)
    have := (hg zs[i] (List.getElem_mem (by omega))).g2
    rw [plAt_eq hget]; omega) hN).2.1 k hkn
  rw [plAt_eq hk] at h
  exact h

set_option maxHeartbeats 1000000 in
theorem of10_any (A : Option Addr) (n c N : Nat) (zs : List Pl) (w : World) (hz : Plates w A n zs) (hn : n ≤ 6) (hg : ∀ p ∈ zs, Good p) (hN : N < mt (fun i => (plAt zs i).gn) n) (hN2 : N ≤ 1000000) :
    Calls Try.prog 56 #[.slice A n c, .int .i64 (N : Nat)] w fun e w' => e = .returned (.agg #[.int .i64 (oddG zs (digs zs n N) n), .int .i64 (oddE zs (digs zs n N) n)]) ∧ Below w.heap.size w w' := by
  have hf := digs_fit hz.1 hg hN
  have k1 := fun (W : World) (hb : Below w.heap.size w W) => answers_any A n c N zs W (hz.below hb) hn hg hN2
  have k2 := fun (W : World) (g cc : Nat) (hb : Below w.heap.size w W) (hr : Row W g n (digs zs n N)) => rodds_any A (some ⟨g, 0, none⟩) n c cc zs ((List.range n).map fun i => (digs zs n N i : Int)) (digs zs n N) W (hz.below hb)
    ⟨by simp, fun _ => ⟨g, 0, rfl, hr.lt, fun i hi => by rw [Nat.zero_add, hr.c i hi]; simp [List.getD_eq_getElem?_getD, hi]⟩⟩ hn hg hf (fun i hi => by simp [List.getD_eq_getElem?_getD, hi])
  clear hz hg hf hN
  generalize oddG zs (digs zs n N) n = x at *
  generalize oddE zs (digs zs n N) n = y at *
  go_enter Try.func56, Try.ntmps56
  go_wp2_with fail
  refine (k1 _ (by repeat (first | with_reducible exact Below.refl _ _ | with_reducible assumption | with_reducible refine balloc ?_ _ | with_reducible refine bdrewN ?_ _ | with_reducible refine Below.drew ?_ | (with_reducible refine bset ?_ ?_ _; rotate_left; focus (first | assumption | omega | (simp; done) | (simp; omega))) | with_reducible refine bstep ?_ (by assumption) | assumption))).mono ?_
  rintro _ w1 ⟨g, cc, rfl, _, hr, hb1⟩
  replace B0 : Cs w1 (w.heap.size) #[.int .i64 0, .int .i64 0] := Cs.keep (by repeat (first | with_reducible assumption | (with_reducible refine Cs.new _ _ _ _ ?_; first | rfl | (simp; done)) | with_reducible refine Cs.alloc ?_ _ | with_reducible refine Cs.drewN ?_ _ | with_reducible refine Cs.drew ?_ | with_reducible refine Cs.set4 ?_ _ _ _ _ | (with_reducible refine Cs.other4 ?_ ?_ _ _ _ _; rotate_left; focus (first | assumption | omega | (simp; done) | (simp; omega))) | with_reducible refine Cs.set2 ?_ _ _ | (with_reducible refine Cs.other2 ?_ ?_ _ _; rotate_left; focus (first | assumption | omega | (simp; done) | (simp; omega))) | (with_reducible refine Cs.other ?_ ?_ _; rotate_left; focus (first | assumption | omega | (simp; done) | (simp; omega))) | with_reducible refine Cs.keep ?_ (by assumption) | assumption)) hb1
  replace hbw : Below w.heap.size w w1 := (by repeat (first | with_reducible exact Below.refl _ _ | with_reducible assumption | with_reducible refine balloc ?_ _ | with_reducible refine bdrewN ?_ _ | with_reducible refine Below.drew ?_ | (with_reducible refine bset ?_ ?_ _; rotate_left; focus (first | assumption | omega | (simp; done) | (simp; omega))) | with_reducible refine bstep ?_ (by assumption) | assumption))
  replace cB0 := B0.c
  replace fB0 := B0.f
  replace lB0 := B0.lt
  clear hb1
  go_wp2_with fail
  refine (k2 _ _ _ (by repeat (first | with_reducible exact Below.refl _ _ | with_reducible assumption | with_reducible refine balloc ?_ _ | with_reducible refine bdrewN ?_ _ | with_reducible refine Below.drew ?_ | (with_reducible refine bset ?_ ?_ _; rotate_left; focus (first | assumption | omega | (simp; done) | (simp; omega))) | with_reducible refine bstep ?_ (by assumption) | assumption)) hr).mono ?_
  rintro _ w2 ⟨rfl, hb2⟩
  replace B0 : Cs w2 (w.heap.size) #[.int .i64 0, .int .i64 0] := Cs.keep (by repeat (first | with_reducible assumption | (with_reducible refine Cs.new _ _ _ _ ?_; first | rfl | (simp; done)) | with_reducible refine Cs.alloc ?_ _ | with_reducible refine Cs.drewN ?_ _ | with_reducible refine Cs.drew ?_ | with_reducible refine Cs.set4 ?_ _ _ _ _ | (with_reducible refine Cs.other4 ?_ ?_ _ _ _ _; rotate_left; focus (first | assumption | omega | (simp; done) | (simp; omega))) | with_reducible refine Cs.set2 ?_ _ _ | (with_reducible refine Cs.other2 ?_ ?_ _ _; rotate_left; focus (first | assumption | omega | (simp; done) | (simp; omega))) | (with_reducible refine Cs.other ?_ ?_ _; rotate_left; focus (first | assumption | omega | (simp; done) | (simp; omega))) | with_reducible refine Cs.keep ?_ (by assumption) | assumption)) hb2
  replace hbw : Below w.heap.size w w2 := (by repeat (first | with_reducible exact Below.refl _ _ | with_reducible assumption | with_reducible refine balloc ?_ _ | with_reducible refine bdrewN ?_ _ | with_reducible refine Below.drew ?_ | (with_reducible refine bset ?_ ?_ _; rotate_left; focus (first | assumption | omega | (simp; done) | (simp; omega))) | with_reducible refine bstep ?_ (by assumption) | assumption))
  replace cB0 := B0.c
  replace fB0 := B0.f
  replace lB0 := B0.lt
  clear hb2
  clear k1 k2 hr
  go_wp2_with fail
  exact bodyPost_ret (v := .agg #[.int .i64 x, .int .i64 y]) (by simp [results, Try.results56, go_sem, cB0, fB0, lB0]) rfl ⟨rfl, (by repeat (first | with_reducible exact Below.refl _ _ | with_reducible assumption | with_reducible refine balloc ?_ _ | with_reducible refine bdrewN ?_ _ | with_reducible refine Below.drew ?_ | (with_reducible refine bset ?_ ?_ _; rotate_left; focus (first | assumption | omega | (simp; done) | (simp; omega))) | with_reducible refine bstep ?_ (by assumption) | assumption))⟩

end Go.Proofs.Ytcmllkjgggcghaa
