/- Walks of package unit: carried, Carry. -/
import Derived.Test.YtkjoamindolonaaDoorUA4
namespace Go.Proofs.YtkjoamindolonaaDoor
open Go.RowKit Go.Shelf
set_option linter.unusedSimpArgs false
set_option linter.unusedVariables false
open Um (frac S4 spanB spanE prodR mulR mul4 frac4 carryL)

/-- what a change of spans gives, whatever has been made since -/
def ChAt (P : Program) (g : Nat) (ch : S4 → S4) (w : World) : Prop :=
  ∀ x W, Below w.heap.size w W → Calls P g #[.agg #[.int .i64 x.1, .int .i64 x.2.1, .int .i64 x.2.2.1, .int .i64 x.2.2.2]] W fun e W' => e = .returned (.agg #[.int .i64 (ch x).1, .int .i64 (ch x).2.1, .int .i64 (ch x).2.2.1, .int .i64 (ch x).2.2.2]) ∧ Below W.heap.size W W'

/-- a span and an error -/
def RetS (r : S4 × Int) : Ending := .returned (.tuple #[.agg #[.int .i64 r.1.1, .int .i64 r.1.2.1, .int .i64 r.1.2.2.1, .int .i64 r.1.2.2.2], .int .i64 r.2])

set_option maxHeartbeats 2000000 in
theorem carried_1 (a b c d : Int) (A : Option Addr) (n cap g : Nat) (zs : List S4) (ch : S4 → S4) (w : World) (hz : Spans w A n zs) (hn : n ≤ 9223372036854775807)
    (eg : ∀ args w, (callFunc g args).run Tryd.prog w = .ok (.enter g args) w) (hch : ∀ x, spanB x = true → spanB (ch x) = true) (hcall : ChAt Tryd.prog g ch w)
    (hs : spanB (a, b, c, d) = false) :
    Calls Tryd.prog 44 #[.agg #[.int .i64 a, .int .i64 b, .int .i64 c, .int .i64 d], .slice A n cap, .func (.func g) #[] #[]] w fun e w' => e = RetS (Um.carried (a, b, c, d) zs ch) ∧ Below w.heap.size w w' := by
  have hlen := hz.1
  have k1 := fun W => checkSpan_bad a b c d W hs
  have hfin : Um.carried (a, b, c, d) zs ch = ((0, 0, 0, 0), 2) := by simp [Um.carried, hs]
  rw [hfin]
  unfold RetS
  clear hs hfin hcall hch hz eg hlen
  go_enter Tryd.func44, Tryd.ntmps44
  go_wp2_with fail
  refine (k1 _).mono ?_
  rintro e w1 ⟨rfl, hb1⟩
  have B1 : Cs w1 (w.heap.size + 1) #[.int .i64 0, .int .i64 0, .int .i64 0, .int .i64 0] := Cs.keep (by repeat (first | with_reducible assumption | (with_reducible refine Cs.new _ _ _ _ ?_; first | rfl | (simp; done)) | with_reducible refine Cs.alloc ?_ _ | with_reducible refine Cs.drewN ?_ _ | with_reducible refine Cs.drew ?_ | with_reducible refine Cs.set4 ?_ _ _ _ _ | (with_reducible refine Cs.other4 ?_ ?_ _ _ _ _; rotate_left; focus (first | assumption | omega | (simp; done) | (simp; omega))) | with_reducible refine Cs.set2 ?_ _ _ | (with_reducible refine Cs.other2 ?_ ?_ _ _; rotate_left; focus (first | assumption | omega | (simp; done) | (simp; omega))) | (with_reducible refine Cs.other ?_ ?_ _; rotate_left; focus (first | assumption | omega | (simp; done) | (simp; omega))) | with_reducible refine Cs.keep ?_ (by assumption) | assumption)) hb1
  have cB1 := B1.c
  have fB1 := B1.f
  have lB1 := B1.lt
  go_wp2_with fail
  exact bodyPost_ret (v := .tuple #[.agg #[.int .i64 0, .int .i64 0, .int .i64 0, .int .i64 0], .int .i64 2]) (by simp [results, Tryd.results44, go_sem, cB1, fB1, lB1]) rfl ⟨rfl, (by repeat (first | with_reducible exact Below.refl _ _ | with_reducible assumption | with_reducible refine balloc ?_ _ | with_reducible refine bdrewN ?_ _ | with_reducible refine Below.drew ?_ | (with_reducible refine bset ?_ ?_ _; rotate_left; focus (first | assumption | omega | (simp; done) | (simp; omega))) | with_reducible refine bstep ?_ (by assumption) | assumption))⟩

set_option maxHeartbeats 2000000 in
theorem carried_2 (a b c d : Int) (A : Option Addr) (n cap g : Nat) (zs : List S4) (ch : S4 → S4) (w : World) (hz : Spans w A n zs) (hn : n ≤ 9223372036854775807)
    (eg : ∀ args w, (callFunc g args).run Tryd.prog w = .ok (.enter g args) w) (hch : ∀ x, spanB x = true → spanB (ch x) = true) (hcall : ChAt Tryd.prog g ch w)
    (hs : spanB (a, b, c, d) = true) (h8 : 8 < n) :
    Calls Tryd.prog 44 #[.agg #[.int .i64 a, .int .i64 b, .int .i64 c, .int .i64 d], .slice A n cap, .func (.func g) #[] #[]] w fun e w' => e = RetS (Um.carried (a, b, c, d) zs ch) ∧ Below w.heap.size w w' := by
  have hlen := hz.1
  have k1 := fun W => checkSpan_ok a b c d W hs
  have hfin : Um.carried (a, b, c, d) zs ch = ((0, 0, 0, 0), 6) := by simp [Um.carried, hs, hlen, h8]
  rw [hfin]
  unfold RetS
  clear hs hfin hcall hch hz eg hlen
  go_enter Tryd.func44, Tryd.ntmps44
  go_wp2_with fail
  refine (k1 _).mono ?_
  rintro e w1 ⟨rfl, hb1⟩
  have B1 : Cs w1 (w.heap.size + 1) #[.int .i64 0, .int .i64 0, .int .i64 0, .int .i64 0] := Cs.keep (by repeat (first | with_reducible assumption | (with_reducible refine Cs.new _ _ _ _ ?_; first | rfl | (simp; done)) | with_reducible refine Cs.alloc ?_ _ | with_reducible refine Cs.drewN ?_ _ | with_reducible refine Cs.drew ?_ | with_reducible refine Cs.set4 ?_ _ _ _ _ | (with_reducible refine Cs.other4 ?_ ?_ _ _ _ _; rotate_left; focus (first | assumption | omega | (simp; done) | (simp; omega))) | with_reducible refine Cs.set2 ?_ _ _ | (with_reducible refine Cs.other2 ?_ ?_ _ _; rotate_left; focus (first | assumption | omega | (simp; done) | (simp; omega))) | (with_reducible refine Cs.other ?_ ?_ _; rotate_left; focus (first | assumption | omega | (simp; done) | (simp; omega))) | with_reducible refine Cs.keep ?_ (by assumption) | assumption)) hb1
  have cB1 := B1.c
  have fB1 := B1.f
  have lB1 := B1.lt
  go_wp2_with fail
  exact bodyPost_ret (v := .tuple #[.agg #[.int .i64 0, .int .i64 0, .int .i64 0, .int .i64 0], .int .i64 6]) (by simp [results, Tryd.results44, go_sem, cB1, fB1, lB1]) rfl ⟨rfl, (by repeat (first | with_reducible exact Below.refl _ _ | with_reducible assumption | with_reducible refine balloc ?_ _ | with_reducible refine bdrewN ?_ _ | with_reducible refine Below.drew ?_ | (with_reducible refine bset ?_ ?_ _; rotate_left; focus (first | assumption | omega | (simp; done) | (simp; omega))) | with_reducible refine bstep ?_ (by assumption) | assumption))⟩

set_option maxHeartbeats 2000000 in
theorem carried_3 (a b c d : Int) (A : Option Addr) (n cap g : Nat) (zs : List S4) (ch : S4 → S4) (w : World) (hz : Spans w A n zs) (hn : n ≤ 9223372036854775807)
    (eg : ∀ args w, (callFunc g args).run Tryd.prog w = .ok (.enter g args) w) (hch : ∀ x, spanB x = true → spanB (ch x) = true) (hcall : ChAt Tryd.prog g ch w)
    (hs : spanB (a, b, c, d) = true) (hn8 : n ≤ 8) (hany : zs.any (fun d => !spanB d) = true) :
    Calls Tryd.prog 44 #[.agg #[.int .i64 a, .int .i64 b, .int .i64 c, .int .i64 d], .slice A n cap, .func (.func g) #[] #[]] w fun e w' => e = RetS (Um.carried (a, b, c, d) zs ch) ∧ Below w.heap.size w w' := by
  have hlen := hz.1
  have k1 := fun W => checkSpan_ok a b c d W hs
  have k2 := fun (W : World) (hb : Below w.heap.size w W) => containsSpans_any A n cap 65 zs #[] (fun d => !spanB d) W (enters_of Tryd.func65 (by kernel_rfl) rfl) (hz.below hb) hn
    (fun x _ W' hW' => (badSpanC_any x.1 x.2.1 x.2.2.1 x.2.2.2 W').mono fun e W'' ⟨he, hb'⟩ => ⟨he, bstep hW' hb'⟩)
  have hfin : Um.carried (a, b, c, d) zs ch = ((0, 0, 0, 0), 2) := by
    unfold Um.carried
    rw [if_neg (by rw [hs]; decide), if_neg (by omega), if_pos hany]
  rw [hfin]
  unfold RetS
  rw [hany] at k2
  clear hs hfin hcall hch hz eg hlen hany
  go_enter Tryd.func44, Tryd.ntmps44
  go_wp2_with fail
  refine (k1 _).mono ?_
  rintro e w1 ⟨rfl, hb1⟩
  have B1 : Cs w1 (w.heap.size + 1) #[.int .i64 0, .int .i64 0, .int .i64 0, .int .i64 0] := Cs.keep (by repeat (first | with_reducible assumption | (with_reducible refine Cs.new _ _ _ _ ?_; first | rfl | (simp; done)) | with_reducible refine Cs.alloc ?_ _ | with_reducible refine Cs.drewN ?_ _ | with_reducible refine Cs.drew ?_ | with_reducible refine Cs.set4 ?_ _ _ _ _ | (with_reducible refine Cs.other4 ?_ ?_ _ _ _ _; rotate_left; focus (first | assumption | omega | (simp; done) | (simp; omega))) | with_reducible refine Cs.set2 ?_ _ _ | (with_reducible refine Cs.other2 ?_ ?_ _ _; rotate_left; focus (first | assumption | omega | (simp; done) | (simp; omega))) | (with_reducible refine Cs.other ?_ ?_ _; rotate_left; focus (first | assumption | omega | (simp; done) | (simp; omega))) | with_reducible refine Cs.keep ?_ (by assumption) | assumption)) hb1
  have hbl : Below w.heap.size w w1 := (by repeat (first | with_reducible exact Below.refl _ _ | with_reducible assumption | with_reducible refine balloc ?_ _ | with_reducible refine bdrewN ?_ _ | with_reducible refine Below.drew ?_ | (with_reducible refine bset ?_ ?_ _; rotate_left; focus (first | assumption | omega | (simp; done) | (simp; omega))) | with_reducible refine bstep ?_ (by assumption) | assumption))
  go_wp2_with fail
  refine (k2 _ hbl).mono ?_
  rintro e w2 ⟨rfl, hb2⟩
  have B1' := B1.keep hb2
  have cB1' := B1'.c
  have fB1' := B1'.f
  have lB1' := B1'.lt
  go_wp2_with fail
  exact bodyPost_ret (v := .tuple #[.agg #[.int .i64 0, .int .i64 0, .int .i64 0, .int .i64 0], .int .i64 2]) (by simp [results, Tryd.results44, go_sem, cB1', fB1', lB1']) rfl ⟨rfl, (by repeat (first | with_reducible exact Below.refl _ _ | with_reducible assumption | with_reducible refine balloc ?_ _ | with_reducible refine bdrewN ?_ _ | with_reducible refine Below.drew ?_ | (with_reducible refine bset ?_ ?_ _; rotate_left; focus (first | assumption | omega | (simp; done) | (simp; omega))) | with_reducible refine bstep ?_ (by assumption) | assumption))⟩

end Go.Proofs.YtkjoamindolonaaDoor
