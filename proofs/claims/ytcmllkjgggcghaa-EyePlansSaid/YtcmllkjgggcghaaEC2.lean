/- Walks of the law package of layer 10: the test of the chapter's examples. -/
import Derived.Test.YtcmllkjgggcghaaEB5
import Derived.Test.YtcmllkjgggcghaaEBase
namespace Go.Proofs.Ytcmllkjgggcghaa
open Go.RowKit Go.Shelf
set_option linter.unusedSimpArgs false
set_option linter.unusedVariables false

theorem Ints.new3 (w : World) (H : Nat) (x y z : Int) (t : TypeId) (hH : w.heap.size = H) : Ints (w.alloc (.cells #[.int .i64 x, .int .i64 y, .int .i64 z] t)) (some ⟨H, 0, none⟩) 3 [x, y, z] := Ints.new w H [x, y, z] t hH

/-- the plate of the chapter's examples, where its lists lie -/
def exPl (g1 g2 : Nat) : Pl := ⟨some ⟨g1, 0, none⟩, 3, 3, [1, 1, 1], some ⟨g2, 0, none⟩, 3, 3, [0, 1, 2]⟩

set_option maxHeartbeats 1000000 in
theorem plate_any (w : World) :
    Calls Try.prog 72 #[] w fun e w' => ∃ g1 g2 : Nat, e = .returned (.agg #[.slice (some ⟨g1, 0, none⟩) 3 3, .slice (some ⟨g2, 0, none⟩) 3 3]) ∧ PlOk w' (exPl g1 g2) ∧ Below w.heap.size w w' := by
  go_enter Try.func72, Try.ntmps72
  go_wp2_with fail
  have B0 : Cs (((w.alloc (.cells #[.slice (some ⟨w.heap.size + 1, 0, none⟩) 3 3, .slice (some ⟨w.heap.size + 1 + 1, 0, none⟩) 3 3] 73)).alloc (.cells #[.int .i64 1, .int .i64 1, .int .i64 1] 2)).alloc (.cells #[.int .i64 0, .int .i64 1, .int .i64 2] 2)) w.heap.size #[.slice (some ⟨w.heap.size + 1, 0, none⟩) 3 3, .slice (some ⟨w.heap.size + 1 + 1, 0, none⟩) 3 3] := (by repeat (first | with_reducible assumption | (with_reducible refine Cs.new _ _ _ _ ?_; first | rfl | (simp; done)) | with_reducible refine Cs.alloc ?_ _ | with_reducible refine Cs.drewN ?_ _ | with_reducible refine Cs.drew ?_ | with_reducible refine Cs.set4 ?_ _ _ _ _ | (with_reducible refine Cs.other4 ?_ ?_ _ _ _ _; rotate_left; focus (first | assumption | omega | (simp; done) | (simp; omega))) | with_reducible refine Cs.set2 ?_ _ _ | (with_reducible refine Cs.other2 ?_ ?_ _ _; rotate_left; focus (first | assumption | omega | (simp; done) | (simp; omega))) | (with_reducible refine Cs.other ?_ ?_ _; rotate_left; focus (first | assumption | omega | (simp; done) | (simp; omega))) | with_reducible refine Cs.keep ?_ (by assumption) | assumption))
  have i1 : Ints (((w.alloc (.cells #[.slice (some ⟨w.heap.size + 1, 0, none⟩) 3 3, .slice (some ⟨w.heap.size + 1 + 1, 0, none⟩) 3 3] 73)).alloc (.cells #[.int .i64 1, .int .i64 1, .int .i64 1] 2)).alloc (.cells #[.int .i64 0, .int .i64 1, .int .i64 2] 2)) (some ⟨w.heap.size + 1, 0, none⟩) 3 [1, 1, 1] := Ints.alloc (Ints.new3 _ _ _ _ _ _ (by simp)) _
  have i2 : Ints (((w.alloc (.cells #[.slice (some ⟨w.heap.size + 1, 0, none⟩) 3 3, .slice (some ⟨w.heap.size + 1 + 1, 0, none⟩) 3 3] 73)).alloc (.cells #[.int .i64 1, .int .i64 1, .int .i64 1] 2)).alloc (.cells #[.int .i64 0, .int .i64 1, .int .i64 2] 2)) (some ⟨w.heap.size + 1 + 1, 0, none⟩) 3 [0, 1, 2] := Ints.new3 _ _ _ _ _ _ (by simp)
  have cB0 := B0.c
  have fB0 := B0.f
  have lB0 := B0.lt
  exact bodyPost_ret (v := .agg #[.slice (some ⟨w.heap.size + 1, 0, none⟩) 3 3, .slice (some ⟨w.heap.size + 1 + 1, 0, none⟩) 3 3]) (by simp [results, Try.results72, go_sem, cB0, fB0, lB0]) rfl ⟨_, _, rfl, ⟨i1, i2, by show 3 ≤ 9223372036854775807; decide, by show 3 ≤ 9223372036854775807; decide⟩, (by repeat (first | with_reducible exact Below.refl _ _ | with_reducible assumption | with_reducible refine balloc ?_ _ | with_reducible refine bdrewN ?_ _ | with_reducible refine Below.drew ?_ | (with_reducible refine bset ?_ ?_ _; rotate_left; focus (first | assumption | omega | (simp; done) | (simp; omega))) | with_reducible refine bstep ?_ (by assumption) | assumption))⟩

/-- the test of the chapter's examples is handed back -/
def RetPlates (w : World) (e : Ending) (w' : World) : Prop :=
  ∃ g g1 g2 g3 g4 c : Nat, e = .returned (.slice (some ⟨g, 0, none⟩) 2 c) ∧ Plates w' (some ⟨g, 0, none⟩) 2 [exPl g1 g2, exPl g3 g4] ∧ Below w.heap.size w w'

set_option maxHeartbeats 1000000 in
theorem test_any (w : World) : Calls Try.prog 46 #[] w (RetPlates w) := by
  go_enter Try.func46, Try.ntmps46
  go_wp2_with fail
  refine (plate_any _).mono ?_
  rintro _ w1 ⟨g1, g2, rfl, h1, hb1⟩
  replace hbw : Below w.heap.size w w1 := (by repeat (first | with_reducible exact Below.refl _ _ | with_reducible assumption | with_reducible refine balloc ?_ _ | with_reducible refine bdrewN ?_ _ | with_reducible refine Below.drew ?_ | (with_reducible refine bset ?_ ?_ _; rotate_left; focus (first | assumption | omega | (simp; done) | (simp; omega))) | with_reducible refine bstep ?_ (by assumption) | assumption))
  clear hb1
  go_wp2_with fail
  refine (plate_any _).mono ?_
  rintro _ w2 ⟨g3, g4, rfl, h3, hb2⟩
  replace h1 := h1.below hb2
  replace hbw : Below w.heap.size w w2 := (by repeat (first | with_reducible exact Below.refl _ _ | with_reducible assumption | with_reducible refine balloc ?_ _ | with_reducible refine bdrewN ?_ _ | with_reducible refine Below.drew ?_ | (with_reducible refine bset ?_ ?_ _; rotate_left; focus (first | assumption | omega | (simp; done) | (simp; omega))) | with_reducible refine bstep ?_ (by assumption) | assumption))
  clear hb2
  go_wp2_with fail
  have hP : Plates (w2.alloc (.cells #[.slice (some ⟨g1, 0, none⟩) 3 3, .slice (some ⟨g2, 0, none⟩) 3 3, .slice (some ⟨g3, 0, none⟩) 3 3, .slice (some ⟨g4, 0, none⟩) 3 3] 73)) (some ⟨w2.heap.size, 0, none⟩) 2 [exPl g1 g2, exPl g3 g4] := by
    refine ⟨rfl, fun _ => ⟨w2.heap.size, 0, rfl, by simp, fun i p hp => ?_⟩, fun p hp => ?_⟩
    · match i, hp with
      | 0, hp =>
        simp at hp
        subst hp
        simp [exPl]
      | 1, hp =>
        simp at hp
        subst hp
        simp [exPl]
      | _ + 2, hp => simp at hp
    · have hb : Below w2.heap.size w2 (w2.alloc (.cells #[.slice (some ⟨g1, 0, none⟩) 3 3, .slice (some ⟨g2, 0, none⟩) 3 3, .slice (some ⟨g3, 0, none⟩) 3 3, .slice (some ⟨g4, 0, none⟩) 3 3] 73)) := (by repeat (first | with_reducible exact Below.refl _ _ | with_reducible assumption | with_reducible refine balloc ?_ _ | with_reducible refine bdrewN ?_ _ | with_reducible refine Below.drew ?_ | (with_reducible refine bset ?_ ?_ _; rotate_left; focus (first | assumption | omega | (simp; done) | (simp; omega))) | with_reducible refine bstep ?_ (by assumption) | assumption))
      simp at hp
      rcases hp with rfl | rfl
      · exact h1.below hb
      · exact h3.below hb
  go_ret
  exact ⟨_, g1, g2, g3, g4, _, rfl, hP, (by repeat (first | with_reducible exact Below.refl _ _ | with_reducible assumption | with_reducible refine balloc ?_ _ | with_reducible refine bdrewN ?_ _ | with_reducible refine Below.drew ?_ | (with_reducible refine bset ?_ ?_ _; rotate_left; focus (first | assumption | omega | (simp; done) | (simp; omega))) | with_reducible refine bstep ?_ (by assumption) | assumption))⟩

end Go.Proofs.Ytcmllkjgggcghaa
