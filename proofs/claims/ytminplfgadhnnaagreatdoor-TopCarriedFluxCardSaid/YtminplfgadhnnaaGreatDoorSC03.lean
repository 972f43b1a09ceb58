/- UA5 UA6 UA7 RA3 RA4 RA5 RA6 RA7 BM1 BM4 EBase BA1 BA2 BA3 -/
import Derived.Test.YtminplfgadhnnaaGreatDoorSC02
import Derived.Deep.RegionWith
import Derived.Deep.RegionHeld3
import Derived.Deep.RegionLaw
import Derived.Test.YtminplfgadhnnaaGreatDoorSC01
/- Walks of package unit: carried, Carry. -/
section
namespace Go.Proofs.YtminplfgadhnnaaGreatDoor
open Go.RowKit Go.Shelf
set_option linter.unusedSimpArgs false
set_option linter.unusedVariables false
open Um (frac S4 spanB spanE prodR mulR mul4 frac4 carryL)

/-- what a change of spans gives, whatever has been made since -/
def ChAt (P : Program) (g : Nat) (ch : S4 → S4) (w : World) : Prop :=
  ∀ x W, Below w.heap.size w W → Calls P g #[.agg #[.int .i64 x.1, .int .i64 x.2.1, .int .i64 x.2.2.1, .int .i64 x.2.2.2]] W fun e W' => e = .returned (.agg #[.int .i64 (ch x).1, .int .i64 (ch x).2.1, .int .i64 (ch x).2.2.1, .int .i64 (ch x).2.2.2]) ∧ Below W.heap.size W W'

/-- a span and an error -/
def RetS (r : S4 × Int) : Ending := .returned (.tuple #[.agg #[.int .i64 r.1.1, .int .i64 r.1.2.1, .int .i64 r.1.2.2.1, .int .i64 r.1.2.2.2], .int .i64 r.2])

set_option maxHeartbeats 2000000 in
theorem carried_1 (a b c d : Int) (A : Option Addr) (n cap g : Nat) (zs : List S4) (ch : S4 → S4) (w : World) (hz : Spans w A n zs) (hn : n ≤ 9223372036854775807)
    (eg : ∀ args w, (callFunc g args).run Tryz.prog w = .ok (.enter g args) w) (hch : ∀ x, spanB x = true → spanB (ch x) = true) (hcall : ChAt Tryz.prog g ch w)
    (hs : spanB (a, b, c, d) = false) :
    Calls Tryz.prog 42 #[.agg #[.int .i64 a, .int .i64 b, .int .i64 c, .int .i64 d], .slice A n cap, .func (.func g) #[] #[]] w fun e w' => e = RetS (Um.carried (a, b, c, d) zs ch) ∧ Below w.heap.size w w' := by
  have hlen := hz.1
  have k1 := fun W => checkSpan_bad a b c d W hs
  have hfin : Um.carried (a, b, c, d) zs ch = ((0, 0, 0, 0), 2) := by simp [Um.carried, hs]
  rw [hfin]
  unfold RetS
  clear hs hfin hcall hch hz eg hlen
  go_enter Tryz.func42, Tryz.ntmps42
  go_wp2_with fail
  refine (k1 _).mono ?_
  rintro e w1 ⟨rfl, hb1⟩
  have B1 : Cs w1 (w.heap.size + 1) #[.int .i64 0, .int .i64 0, .int .i64 0, .int .i64 0] := Cs.keep (by repeat (first | with_reducible assumption | (with_reducible refine Cs.new _ _ _ _ ?_; first | rfl | (simp; done)) | with_reducible refine Cs.alloc ?_ _ | with_reducible refine Cs.drewN ?_ _ | with_reducible refine Cs.drew ?_ | with_reducible refine Cs.set4 ?_ _ _ _ _ | (with_reducible refine Cs.other4 ?_ ?_ _ _ _ _; rotate_left; focus (first | assumption | omega | (simp; done) | (simp; omega))) | with_reducible refine Cs.set2 ?_ _ _ | (with_reducible refine Cs.other2 ?_ ?_ _ _; rotate_left; focus (first | assumption | omega | (simp; done) | (simp; omega))) | (with_reducible refine Cs.other ?_ ?_ _; rotate_left; focus (first | assumption | omega | (simp; done) | (simp; omega))) | with_reducible refine Cs.keep ?_ (by assumption) | assumption)) hb1
  have cB1 := B1.c
  have fB1 := B1.f
  have lB1 := B1.lt
  go_wp2_with fail
  exact bodyPost_ret (v := .tuple #[.agg #[.int .i64 0, .int .i64 0, .int .i64 0, .int .i64 0], .int .i64 2]) (by simp [results, Tryz.results42, go_sem, cB1, fB1, lB1]) rfl ⟨rfl, (by repeat (first | with_reducible exact Below.refl _ _ | with_reducible assumption | with_reducible refine balloc ?_ _ | with_reducible refine bdrewN ?_ _ | with_reducible refine Below.drew ?_ | (with_reducible refine bset ?_ ?_ _; rotate_left; focus (first | assumption | omega | (simp; done) | (simp; omega))) | with_reducible refine bstep ?_ (by assumption) | assumption))⟩

set_option maxHeartbeats 2000000 in
theorem carried_2 (a b c d : Int) (A : Option Addr) (n cap g : Nat) (zs : List S4) (ch : S4 → S4) (w : World) (hz : Spans w A n zs) (hn : n ≤ 9223372036854775807)
    (eg : ∀ args w, (callFunc g args).run Tryz.prog w = .ok (.enter g args) w) (hch : ∀ x, spanB x = true → spanB (ch x) = true) (hcall : ChAt Tryz.prog g ch w)
    (hs : spanB (a, b, c, d) = true) (h8 : 8 < n) :
    Calls Tryz.prog 42 #[.agg #[.int .i64 a, .int .i64 b, .int .i64 c, .int .i64 d], .slice A n cap, .func (.func g) #[] #[]] w fun e w' => e = RetS (Um.carried (a, b, c, d) zs ch) ∧ Below w.heap.size w w' := by
  have hlen := hz.1
  have k1 := fun W => checkSpan_ok a b c d W hs
  have hfin : Um.carried (a, b, c, d) zs ch = ((0, 0, 0, 0), 6) := by simp [Um.carried, hs, hlen, h8]
  rw [hfin]
  unfold RetS
  clear hs hfin hcall hch hz eg hlen
  go_enter Tryz.func42, Tryz.ntmps42
  go_wp2_with fail
  refine (k1 _).mono ?_
  rintro e w1 ⟨rfl, hb1⟩
  have B1 : Cs w1 (w.heap.size + 1) #[.int .i64 0, .int .i64 0, .int .i64 0, .int .i64 0] := Cs.keep (by repeat (first | with_reducible assumption | (with_reducible refine Cs.new _ _ _ _ ?_; first | rfl | (simp; done)) | with_reducible refine Cs.alloc ?_ _ | with_reducible refine Cs.drewN ?_ _ | with_reducible refine Cs.drew ?_ | with_reducible refine Cs.set4 ?_ _ _ _ _ | (with_reducible refine Cs.other4 ?_ ?_ _ _ _ _; rotate_left; focus (first | assumption | omega | (simp; done) | (simp; omega))) | with_reducible refine Cs.set2 ?_ _ _ | (with_reducible refine Cs.other2 ?_ ?_ _ _; rotate_left; focus (first | assumption | omega | (simp; done) | (simp; omega))) | (with_reducible refine Cs.other ?_ ?_ _; rotate_left; focus (first | assumption | omega | (simp; done) | (simp; omega))) | with_reducible refine Cs.keep ?_ (by assumption) | assumption)) hb1
  have cB1 := B1.c
  have fB1 := B1.f
  have lB1 := B1.lt
  go_wp2_with fail
  exact bodyPost_ret (v := .tuple #[.agg #[.int .i64 0, .int .i64 0, .int .i64 0, .int .i64 0], .int .i64 6]) (by simp [results, Tryz.results42, go_sem, cB1, fB1, lB1]) rfl ⟨rfl, (by repeat (first | with_reducible exact Below.refl _ _ | with_reducible assumption | with_reducible refine balloc ?_ _ | with_reducible refine bdrewN ?_ _ | with_reducible refine Below.drew ?_ | (with_reducible refine bset ?_ ?_ _; rotate_left; focus (first | assumption | omega | (simp; done) | (simp; omega))) | with_reducible refine bstep ?_ (by assumption) | assumption))⟩

set_option maxHeartbeats 2000000 in
theorem carried_3 (a b c d : Int) (A : Option Addr) (n cap g : Nat) (zs : List S4) (ch : S4 → S4) (w : World) (hz : Spans w A n zs) (hn : n ≤ 9223372036854775807)
    (eg : ∀ args w, (callFunc g args).run Tryz.prog w = .ok (.enter g args) w) (hch : ∀ x, spanB x = true → spanB (ch x) = true) (hcall : ChAt Tryz.prog g ch w)
    (hs : spanB (a, b, c, d) = true) (hn8 : n ≤ 8) (hany : zs.any (fun d => !spanB d) = true) :
    Calls Tryz.prog 42 #[.agg #[.int .i64 a, .int .i64 b, .int .i64 c, .int .i64 d], .slice A n cap, .func (.func g) #[] #[]] w fun e w' => e = RetS (Um.carried (a, b, c, d) zs ch) ∧ Below w.heap.size w w' := by
  have hlen := hz.1
  have k1 := fun W => checkSpan_ok a b c d W hs
  have k2 := fun (W : World) (hb : Below w.heap.size w W) => containsSpans_any A n cap 99 zs #[] (fun d => !spanB d) W (enters_of Tryz.func99 (by kernel_rfl) rfl) (hz.below hb) hn
    (fun x _ W' hW' => (badSpanC_any x.1 x.2.1 x.2.2.1 x.2.2.2 W').mono fun e W'' ⟨he, hb'⟩ => ⟨he, bstep hW' hb'⟩)
  have hfin : Um.carried (a, b, c, d) zs ch = ((0, 0, 0, 0), 2) := by
    unfold Um.carried
    rw [if_neg (by rw [hs]; decide), if_neg (by omega), if_pos hany]
  rw [hfin]
  unfold RetS
  rw [hany] at k2
  clear hs hfin hcall hch hz eg hlen hany
  go_enter Tryz.func42, Tryz.ntmps42
  go_wp2_with fail
  refine (k1 _).mono ?_
  rintro e w1 ⟨rfl, hb1⟩
  have B1 : Cs w1 (w.heap.size + 1) #[.int .i64 0, .int .i64 0, .int .i64 0, .int .i64 0] := Cs.keep (by repeat (first | with_reducible assumption | (with_reducible refine Cs.new _ _ _ _ ?_; first | rfl | (simp; done)) | with_reducible refine Cs.alloc ?_ _ | with_reducible refine Cs.drewN ?_ _ | with_reducible refine Cs.drew ?_ | with_reducible refine Cs.set4 ?_ _ _ _ _ | (with_reducible refine Cs.other4 ?_ ?_ _ _ _ _; rotate_left; focus (first | assumption | omega | (simp; done) | (simp; omega))) | with_reducible refine Cs.set2 ?_ _ _ | (with_reducible refine Cs.other2 ?_ ?_ _ _; rotate_left; focus (first | assumption | omega | (simp; done) | (simp; omega))) | (with_reducible refine Cs.other ?_ ?_ _; rotate_left; focus (first | assumption | omega | (simp; done) | (simp; omega))) | with_reducible refine Cs.keep ?_ (by assumption) | assumption)) hb1
  have hbl : Below w.heap.size w w1 := (by repeat (first | with_reducible exact Below.refl _ _ | with_reducible assumption | with_reducible refine balloc ?_ _ | with_reducible refine bdrewN ?_ _ | with_reducible refine Below.drew ?_ | (with_reducible refine bset ?_ ?_ _; rotate_left; focus (first | assumption | omega | (simp; done) | (simp; omega))) | with_reducible refine bstep ?_ (by assumption) | assumption))
  go_wp2_with fail
  refine (k2 _ hbl).mono ?_
  rintro e w2 ⟨rfl, hb2⟩
  have B1' := B1.keep hb2
  have cB1' := B1'.c
  have fB1' := B1'.f
  have lB1' := B1'.lt
  go_wp2_with fail
  exact bodyPost_ret (v := .tuple #[.agg #[.int .i64 0, .int .i64 0, .int .i64 0, .int .i64 0], .int .i64 2]) (by simp [results, Tryz.results42, go_sem, cB1', fB1', lB1']) rfl ⟨rfl, (by repeat (first | with_reducible exact Below.refl _ _ | with_reducible assumption | with_reducible refine balloc ?_ _ | with_reducible refine bdrewN ?_ _ | with_reducible refine Below.drew ?_ | (with_reducible refine bset ?_ ?_ _; rotate_left; focus (first | assumption | omega | (simp; done) | (simp; omega))) | with_reducible refine bstep ?_ (by assumption) | assumption))⟩

end Go.Proofs.YtminplfgadhnnaaGreatDoor
end

/- Walks of package unit: carried, Carry. -/
section
namespace Go.Proofs.YtminplfgadhnnaaGreatDoor
open Go.RowKit Go.Shelf
set_option linter.unusedSimpArgs false
set_option linter.unusedVariables false
open Um (frac S4 spanB spanE prodR mulR mul4 frac4 carryL)

set_option maxHeartbeats 2000000 in
theorem carried_4 (a b c d : Int) (A : Option Addr) (n cap g : Nat) (zs : List S4) (ch : S4 → S4) (w : World) (hz : Spans w A n zs) (hn : n ≤ 9223372036854775807)
    (eg : ∀ args w, (callFunc g args).run Tryz.prog w = .ok (.enter g args) w) (hch : ∀ x, spanB x = true → spanB (ch x) = true) (hcall : ChAt Tryz.prog g ch w)
    (hs : spanB (a, b, c, d) = true) (hn8 : n ≤ 8) (hany : zs.any (fun d => !spanB d) = false) :
    Calls Tryz.prog 42 #[.agg #[.int .i64 a, .int .i64 b, .int .i64 c, .int .i64 d], .slice A n cap, .func (.func g) #[] #[]] w fun e w' => e = RetS (Um.carried (a, b, c, d) zs ch) ∧ Below w.heap.size w w' := by
  have hlen := hz.1
  have k1 := fun W => checkSpan_ok a b c d W hs
  have k2 := fun (W : World) (hb : Below w.heap.size w W) => containsSpans_any A n cap 99 zs #[] (fun d => !spanB d) W (enters_of Tryz.func99 (by kernel_rfl) rfl) (hz.below hb) hn
    (fun x _ W' hW' => (badSpanC_any x.1 x.2.1 x.2.2.1 x.2.2.2 W').mono fun e W'' ⟨he, hb'⟩ => ⟨he, bstep hW' hb'⟩)
  have hall : ∀ x ∈ zs, spanB x = true := by
    intro x hx
    have := List.any_eq_false.1 hany x hx
    simpa using this
  have hfin : Um.carried (a, b, c, d) zs ch = match carryL (a, b, c, d) (zs.map ch) with | none => ((0, 0, 0, 0), 4) | some t => (t, 0) := by
    unfold Um.carried
    rw [if_neg (by rw [hs]; decide), if_neg (by omega), if_neg (by rw [hany]; decide)]
    rfl
  have Hfin := Lib.hid hfin
  have Hall := Lib.hid hall
  have Hz := Lib.hid hz
  have Hcall := Lib.hid hcall
  have Hch := Lib.hid hch
  rw [hany] at k2
  obtain ⟨hf1, hf2, _⟩ := (Um.spanB_iff _).1 hs
  have Hf0 : Hid (frac4 (a, b, c, d) = true) := (Um.frac4_iff _).2 ⟨hf1, hf2⟩
  clear hs hfin hcall hch hz hlen hany hall hf1 hf2
  go_enter Tryz.func42, Tryz.ntmps42
  go_wp2_with fail
  refine (k1 _).mono ?_
  rintro e w1 ⟨rfl, hb1⟩
  have B0 : Cs w1 (w.heap.size) #[.int .i64 a, .int .i64 b, .int .i64 c, .int .i64 d] := Cs.keep (by repeat (first | with_reducible assumption | (with_reducible refine Cs.new _ _ _ _ ?_; first | rfl | (simp; done)) | with_reducible refine Cs.alloc ?_ _ | with_reducible refine Cs.drewN ?_ _ | with_reducible refine Cs.drew ?_ | with_reducible refine Cs.set4 ?_ _ _ _ _ | (with_reducible refine Cs.other4 ?_ ?_ _ _ _ _; rotate_left; focus (first | assumption | omega | (simp; done) | (simp; omega))) | with_reducible refine Cs.set2 ?_ _ _ | (with_reducible refine Cs.other2 ?_ ?_ _ _; rotate_left; focus (first | assumption | omega | (simp; done) | (simp; omega))) | (with_reducible refine Cs.other ?_ ?_ _; rotate_left; focus (first | assumption | omega | (simp; done) | (simp; omega))) | with_reducible refine Cs.keep ?_ (by assumption) | assumption)) hb1
  have B1 : Cs w1 (w.heap.size + 1) #[.int .i64 0, .int .i64 0, .int .i64 0, .int .i64 0] := Cs.keep (by repeat (first | with_reducible assumption | (with_reducible refine Cs.new _ _ _ _ ?_; first | rfl | (simp; done)) | with_reducible refine Cs.alloc ?_ _ | with_reducible refine Cs.drewN ?_ _ | with_reducible refine Cs.drew ?_ | with_reducible refine Cs.set4 ?_ _ _ _ _ | (with_reducible refine Cs.other4 ?_ ?_ _ _ _ _; rotate_left; focus (first | assumption | omega | (simp; done) | (simp; omega))) | with_reducible refine Cs.set2 ?_ _ _ | (with_reducible refine Cs.other2 ?_ ?_ _ _; rotate_left; focus (first | assumption | omega | (simp; done) | (simp; omega))) | (with_reducible refine Cs.other ?_ ?_ _; rotate_left; focus (first | assumption | omega | (simp; done) | (simp; omega))) | with_reducible refine Cs.keep ?_ (by assumption) | assumption)) hb1
  have hbl : Below w.heap.size w w1 := (by repeat (first | with_reducible exact Below.refl _ _ | with_reducible assumption | with_reducible refine balloc ?_ _ | with_reducible refine bdrewN ?_ _ | with_reducible refine Below.drew ?_ | (with_reducible refine bset ?_ ?_ _; rotate_left; focus (first | assumption | omega | (simp; done) | (simp; omega))) | with_reducible refine bstep ?_ (by assumption) | assumption))
  go_wp2_with fail
  refine (k2 _ hbl).mono ?_
  rintro e w2 ⟨rfl, hb2⟩
  have B0' := B0.keep hb2
  have B1' := B1.keep hb2
  have hbl2 : Below w.heap.size w w2 := (by repeat (first | with_reducible exact Below.refl _ _ | with_reducible assumption | with_reducible refine balloc ?_ _ | with_reducible refine bdrewN ?_ _ | with_reducible refine Below.drew ?_ | (with_reducible refine bset ?_ ?_ _; rotate_left; focus (first | assumption | omega | (simp; done) | (simp; omega))) | with_reducible refine bstep ?_ (by assumption) | assumption))
  have cB0' := B0'.c
  have fB0' := B0'.f
  have lB0' := B0'.lt
  clear k1 k2 hb1 hb2 B0 B1
  go_wp2_with fail
  clear cB0' fB0' lB0'
  go_loopw [35] (fun i wr => ∃ (k : Nat) (v : S4), k ≤ n ∧ i = .int .i64 k ∧ Hid (frac4 v = true) ∧ Hid (carryL (a, b, c, d) (zs.map ch) = carryL v ((zs.drop k).map ch)) ∧ Cs wr w2.heap.size #[.int .i64 v.1, .int .i64 v.2.1, .int .i64 v.2.2.1, .int .i64 v.2.2.2] ∧ Cs wr (w.heap.size + 1) #[.int .i64 0, .int .i64 0, .int .i64 0, .int .i64 0] ∧ Below w.heap.size w wr) (fun i _ => n - (intOf i).toNat)
  case atStart => exact ⟨0, (a, b, c, d), Nat.zero_le _, rfl, Hf0, rfl, (by repeat (first | with_reducible assumption | (with_reducible refine Cs.new _ _ _ _ ?_; first | rfl | (simp; done)) | with_reducible refine Cs.alloc ?_ _ | with_reducible refine Cs.drewN ?_ _ | with_reducible refine Cs.drew ?_ | with_reducible refine Cs.set4 ?_ _ _ _ _ | (with_reducible refine Cs.other4 ?_ ?_ _ _ _ _; rotate_left; focus (first | assumption | omega | (simp; done) | (simp; omega))) | with_reducible refine Cs.set2 ?_ _ _ | (with_reducible refine Cs.other2 ?_ ?_ _ _; rotate_left; focus (first | assumption | omega | (simp; done) | (simp; omega))) | (with_reducible refine Cs.other ?_ ?_ _; rotate_left; focus (first | assumption | omega | (simp; done) | (simp; omega))) | with_reducible refine Cs.keep ?_ (by assumption) | assumption)), B1'.alloc _, balloc hbl2 _⟩
  case round =>
    obtain ⟨k, v, hk, rfl, Hfv, Hcl, Bv, BR, hblr⟩ := hrel
    have hr1 : w.heap.size + 1 ≠ w2.heap.size := by have := B1'.lt; omega
    have hr2 : w.heap.size ≤ w2.heap.size := hbl2.size
    by_cases hlt : k < n
    · obtain ⟨b', off, x, y, z, u, rfl, hget, hdrop, e0, e1, e2, e3⟩ := Hz.out.at_ hblr hlt
      have hsx := Hall.out _ (List.mem_of_getElem? hget)
      have hcx := Hch.out _ hsx
      have Hdrop := Lib.hid hdrop
      have kc := fun W hb => Hcall.out (x, y, z, u) W hb
      have Hstep : Hid (carryL v ((zs.drop k).map ch) = if frac4 (mul4 v (ch (x, y, z, u))) = true then carryL (mul4 v (ch (x, y, z, u))) ((zs.drop (k + 1)).map ch) else none) := by
        show _ = _
        rw [hdrop, List.map_cons, carryL]
      have Ht4 : Hid (frac4 (ch (x, y, z, u)) = true) := by
        obtain ⟨f1, f2, _⟩ := (Um.spanB_iff _).1 hcx
        exact (Um.frac4_iff _).2 ⟨f1, f2⟩
      clear hdrop hget hsx hcx Hdrop
      generalize ch (x, y, z, u) = t at *
      have hbA : Below w.heap.size w (wr.alloc (.cells #[.int .i64 x, .int .i64 y, .int .i64 z, .int .i64 u] 43)) := balloc hblr _
      have BvA := Bv.alloc (.cells #[.int .i64 x, .int .i64 y, .int .i64 z, .int .i64 u] 43)
      have BRA := BR.alloc (.cells #[.int .i64 x, .int .i64 y, .int .i64 z, .int .i64 u] 43)
      have cBvA := BvA.c
      have fBvA := BvA.f
      have lBvA := BvA.lt
      go_wp2_with (go_at_fn g; refine (kc _ hbA).mono ?_; rintro e w3 ⟨rfl, hb3⟩)
      clear cBvA fBvA lBvA
      have hb3' : Below w.heap.size w w3 := bstep hbA hb3
      cases hm : frac4 (mul4 v t) with
      | true =>
        have Hm := Lib.hid hm
        have k5 := fun W => carry_ok v t W Hfv.out Ht4.out hm
        clear hm kc
        refine (k5 _).mono ?_
        rintro e w4 ⟨rfl, hb4⟩
        have Bw := (BvA.keep hb3).keep hb4
        have cBw := Bw.c
        have fBw := Bw.f
        have lBw := Bw.lt
        go_wp2_with fail
        go_roundw
        case rel =>
          refine ⟨k + 1, mul4 v t, by omega, by go_num, Hm.out, ?_, ?_, ?_, ?_⟩
          · show _ = _
            rw [Hcl.out, Hstep.out, if_pos Hm.out]
          · exact (Bw.set4 _ _ _ _).alloc _
          · exact (((BRA.keep hb3).keep hb4).other4 hr1 _ _ _ _).alloc _
          · exact balloc (bset4 (bstep (bstep hbA hb3) hb4) hr2 _ _ _ _) _
        case measure => simp [intOf]; omega
      | false =>
        have Hm := Lib.hid hm
        have k5 := fun W => carry_no v t W Hfv.out Ht4.out hm
        have hnone : Um.carried (a, b, c, d) zs ch = ((0, 0, 0, 0), 4) := by
          rw [Hfin.out, Hcl.out, Hstep.out, if_neg (by rw [hm]; decide)]
        clear hm kc
        refine (k5 _).mono ?_
        rintro e w4 ⟨z0, z1, z2, z3, rfl, hb4⟩
        have Bw := (BRA.keep hb3).keep hb4
        have cBw := Bw.c
        have fBw := Bw.f
        have lBw := Bw.lt
        go_wp2_with fail
        rw [hnone]
        unfold RetS
        exact bodyPost_ret (v := .tuple #[.agg #[.int .i64 0, .int .i64 0, .int .i64 0, .int .i64 0], .int .i64 4]) (by simp [results, Tryz.results42, go_sem, cBw, fBw, lBw]) rfl ⟨rfl, (by repeat (first | with_reducible exact Below.refl _ _ | with_reducible assumption | with_reducible refine balloc ?_ _ | with_reducible refine bdrewN ?_ _ | with_reducible refine Below.drew ?_ | (with_reducible refine bset ?_ ?_ _; rotate_left; focus (first | assumption | omega | (simp; done) | (simp; omega))) | with_reducible refine bstep ?_ (by assumption) | assumption))⟩
    · have hkn : k = n := by omega
      subst hkn
      have hsome : Um.carried (a, b, c, d) zs ch = (v, 0) := by
        rw [Hfin.out, Hcl.out, List.drop_of_length_le (by have := Hz.out.1; omega)]; rfl
      have cBv := Bv.c
      have fBv := Bv.f
      have lBv := Bv.lt
      have cBR := BR.c
      have fBR := BR.f
      have lBR := BR.lt
      go_wp2_with fail
      rw [hsome]
      unfold RetS
      exact bodyPost_ret (v := .tuple #[.agg #[.int .i64 v.1, .int .i64 v.2.1, .int .i64 v.2.2.1, .int .i64 v.2.2.2], .int .i64 0]) (by simp [results, Tryz.results42, go_sem, cBR, fBR, lBR]) rfl ⟨rfl, (by repeat (first | with_reducible exact Below.refl _ _ | with_reducible assumption | with_reducible refine balloc ?_ _ | with_reducible refine bdrewN ?_ _ | with_reducible refine Below.drew ?_ | (with_reducible refine bset ?_ ?_ _; rotate_left; focus (first | assumption | omega | (simp; done) | (simp; omega))) | with_reducible refine bstep ?_ (by assumption) | assumption))⟩

theorem carried_any (a b c d : Int) (A : Option Addr) (n cap g : Nat) (zs : List S4) (ch : S4 → S4) (w : World) (hz : Spans w A n zs) (hn : n ≤ 9223372036854775807)
    (eg : ∀ args w, (callFunc g args).run Tryz.prog w = .ok (.enter g args) w) (hch : ∀ x, spanB x = true → spanB (ch x) = true) (hcall : ChAt Tryz.prog g ch w) :
    Calls Tryz.prog 42 #[.agg #[.int .i64 a, .int .i64 b, .int .i64 c, .int .i64 d], .slice A n cap, .func (.func g) #[] #[]] w fun e w' => e = RetS (Um.carried (a, b, c, d) zs ch) ∧ Below w.heap.size w w' := by
  cases hs : spanB (a, b, c, d) with
  | false => exact carried_1 a b c d A n cap g zs ch w hz hn eg hch hcall hs
  | true =>
    by_cases h8 : 8 < n
    · exact carried_2 a b c d A n cap g zs ch w hz hn eg hch hcall hs h8
    · cases hany : zs.any (fun d => !spanB d) with
      | true => exact carried_3 a b c d A n cap g zs ch w hz hn eg hch hcall hs (by omega) hany
      | false => exact carried_4 a b c d A n cap g zs ch w hz hn eg hch hcall hs (by omega) hany

end Go.Proofs.YtminplfgadhnnaaGreatDoor
end

/- Walks of package unit: Carry; what Back changes. -/
section
namespace Go.Proofs.YtminplfgadhnnaaGreatDoor
open Go.RowKit Go.Shelf
set_option linter.unusedSimpArgs false
set_option linter.unusedVariables false
open Um (frac S4 spanB spanE prodR mulR mul4 frac4 carryL turn4)

set_option maxHeartbeats 400000 in
theorem carryC_any (a b c d : Int) (w : World) :
    Calls Tryz.prog 43 #[.agg #[.int .i64 a, .int .i64 b, .int .i64 c, .int .i64 d]] w fun e w' => e = .returned (.agg #[.int .i64 a, .int .i64 b, .int .i64 c, .int .i64 d]) ∧ Below w.heap.size w w' := by
  go_enter Tryz.func43, Tryz.ntmps43
  go_wp2_with fail
  exact bodyPost_ret (v := .agg #[.int .i64 a, .int .i64 b, .int .i64 c, .int .i64 d]) (by simp [results, Tryz.results43, go_sem]) rfl ⟨rfl, (by repeat (first | with_reducible exact Below.refl _ _ | with_reducible assumption | with_reducible refine balloc ?_ _ | with_reducible refine bdrewN ?_ _ | with_reducible refine Below.drew ?_ | (with_reducible refine bset ?_ ?_ _; rotate_left; focus (first | assumption | omega | (simp; done) | (simp; omega))) | with_reducible refine bstep ?_ (by assumption) | assumption))⟩

set_option maxHeartbeats 1000000 in
theorem Carry_any (a b c d : Int) (A : Option Addr) (n cap : Nat) (zs : List S4) (w : World) (hz : Spans w A n zs) (hn : n ≤ 9223372036854775807) :
    Calls Tryz.prog 13 #[.agg #[.int .i64 a, .int .i64 b, .int .i64 c, .int .i64 d], .slice A n cap] w fun e w' => e = RetS (Um.carried (a, b, c, d) zs fun d => d) ∧ Below w.heap.size w w' := by
  have k1 := fun (W : World) (hb : Below w.heap.size w W) => carried_any a b c d A n cap 43 zs (fun d => d) W (hz.below hb) hn (enters_of Tryz.func43 (by kernel_rfl) rfl) (fun x h => h)
    (fun x W' _ => carryC_any x.1 x.2.1 x.2.2.1 x.2.2.2 W')
  generalize Um.carried (a, b, c, d) zs (fun d => d) = r at *
  unfold RetS at *
  generalize r.1.1 = r1 at *
  generalize r.1.2.1 = r2 at *
  generalize r.1.2.2.1 = r3 at *
  generalize r.1.2.2.2 = r4 at *
  generalize r.2 = r5 at *
  clear hz
  go_enter Tryz.func13, Tryz.ntmps13
  go_wp2_with fail
  refine (k1 _ (by repeat (first | with_reducible exact Below.refl _ _ | with_reducible assumption | with_reducible refine balloc ?_ _ | with_reducible refine bdrewN ?_ _ | with_reducible refine Below.drew ?_ | (with_reducible refine bset ?_ ?_ _; rotate_left; focus (first | assumption | omega | (simp; done) | (simp; omega))) | with_reducible refine bstep ?_ (by assumption) | assumption))).mono ?_
  rintro e w1 ⟨rfl, hb1⟩
  have B1 : Cs w1 (w.heap.size + 1) #[.int .i64 0, .int .i64 0, .int .i64 0, .int .i64 0] := Cs.keep (by repeat (first | with_reducible assumption | (with_reducible refine Cs.new _ _ _ _ ?_; first | rfl | (simp; done)) | with_reducible refine Cs.alloc ?_ _ | with_reducible refine Cs.drewN ?_ _ | with_reducible refine Cs.drew ?_ | with_reducible refine Cs.set4 ?_ _ _ _ _ | (with_reducible refine Cs.other4 ?_ ?_ _ _ _ _; rotate_left; focus (first | assumption | omega | (simp; done) | (simp; omega))) | with_reducible refine Cs.set2 ?_ _ _ | (with_reducible refine Cs.other2 ?_ ?_ _ _; rotate_left; focus (first | assumption | omega | (simp; done) | (simp; omega))) | (with_reducible refine Cs.other ?_ ?_ _; rotate_left; focus (first | assumption | omega | (simp; done) | (simp; omega))) | with_reducible refine Cs.keep ?_ (by assumption) | assumption)) hb1
  have cB1 := B1.c
  have fB1 := B1.f
  have lB1 := B1.lt
  go_wp2_with fail
  exact bodyPost_ret (v := .tuple #[.agg #[.int .i64 r1, .int .i64 r2, .int .i64 r3, .int .i64 r4], .int .i64 r5]) (by simp [results, Tryz.results13, go_sem, cB1, fB1, lB1]) rfl ⟨rfl, (by repeat (first | with_reducible exact Below.refl _ _ | with_reducible assumption | with_reducible refine balloc ?_ _ | with_reducible refine bdrewN ?_ _ | with_reducible refine Below.drew ?_ | (with_reducible refine bset ?_ ?_ _; rotate_left; focus (first | assumption | omega | (simp; done) | (simp; omega))) | with_reducible refine bstep ?_ (by assumption) | assumption))⟩

set_option maxHeartbeats 1000000 in
theorem backC_any (a b c d : Int) (w : World) :
    Calls Tryz.prog 114 #[.agg #[.int .i64 a, .int .i64 b, .int .i64 c, .int .i64 d]] w fun e w' => e = .returned (.agg #[.int .i64 d, .int .i64 c, .int .i64 b, .int .i64 a]) ∧ Below w.heap.size w w' := by
  go_enter Tryz.func114, Tryz.ntmps114
  go_wp2_with fail
  obtain ⟨W, hW⟩ : ∃ W, ((w.alloc (.cells #[.int .i64 a, .int .i64 b, .int .i64 c, .int .i64 d] 43)).alloc (.cells #[.int .i64 0, .int .i64 0, .int .i64 0, .int .i64 0] 43)) = W := ⟨_, rfl⟩
  have B0 : Cs W w.heap.size #[.int .i64 a, .int .i64 b, .int .i64 c, .int .i64 d] := by rw [← hW]; exact (by repeat (first | with_reducible assumption | (with_reducible refine Cs.new _ _ _ _ ?_; first | rfl | (simp; done)) | with_reducible refine Cs.alloc ?_ _ | with_reducible refine Cs.drewN ?_ _ | with_reducible refine Cs.drew ?_ | with_reducible refine Cs.set4 ?_ _ _ _ _ | (with_reducible refine Cs.other4 ?_ ?_ _ _ _ _; rotate_left; focus (first | assumption | omega | (simp; done) | (simp; omega))) | with_reducible refine Cs.set2 ?_ _ _ | (with_reducible refine Cs.other2 ?_ ?_ _ _; rotate_left; focus (first | assumption | omega | (simp; done) | (simp; omega))) | (with_reducible refine Cs.other ?_ ?_ _; rotate_left; focus (first | assumption | omega | (simp; done) | (simp; omega))) | with_reducible refine Cs.keep ?_ (by assumption) | assumption))
  have B1 : Cs W (w.heap.size + 1) #[.int .i64 0, .int .i64 0, .int .i64 0, .int .i64 0] := by rw [← hW]; exact (by repeat (first | with_reducible assumption | (with_reducible refine Cs.new _ _ _ _ ?_; first | rfl | (simp; done)) | with_reducible refine Cs.alloc ?_ _ | with_reducible refine Cs.drewN ?_ _ | with_reducible refine Cs.drew ?_ | with_reducible refine Cs.set4 ?_ _ _ _ _ | (with_reducible refine Cs.other4 ?_ ?_ _ _ _ _; rotate_left; focus (first | assumption | omega | (simp; done) | (simp; omega))) | with_reducible refine Cs.set2 ?_ _ _ | (with_reducible refine Cs.other2 ?_ ?_ _ _; rotate_left; focus (first | assumption | omega | (simp; done) | (simp; omega))) | (with_reducible refine Cs.other ?_ ?_ _; rotate_left; focus (first | assumption | omega | (simp; done) | (simp; omega))) | with_reducible refine Cs.keep ?_ (by assumption) | assumption))
  have hb : Below w.heap.size w W := by rw [← hW]; exact (by repeat (first | with_reducible exact Below.refl _ _ | with_reducible assumption | with_reducible refine balloc ?_ _ | with_reducible refine bdrewN ?_ _ | with_reducible refine Below.drew ?_ | (with_reducible refine bset ?_ ?_ _; rotate_left; focus (first | assumption | omega | (simp; done) | (simp; omega))) | with_reducible refine bstep ?_ (by assumption) | assumption))
  rw [hW]
  clear hW
  have cB0 := B0.c
  have fB0 := B0.f
  have lB0 := B0.lt
  have cB1 := B1.c
  have fB1 := B1.f
  have lB1 := B1.lt
  go_region_held3 (fun w' => w'.cell? ⟨w.heap.size, 0, none⟩ = some (.int .i64 a) ∧ w'.cell? ⟨w.heap.size, 1, none⟩ = some (.int .i64 b) ∧ w'.cell? ⟨w.heap.size, 2, none⟩ = some (.int .i64 c) ∧ w'.cell? ⟨w.heap.size, 3, none⟩ = some (.int .i64 d))
    (first | exact ⟨Bn.c 0, Bn.c 1, Bn.c 2, Bn.c 3⟩ | go_keep)
    ((go_at_call 103; refine (turned_any _ _ _).mono ?_; rintro e w1 ⟨rfl, hb1⟩; have Bn : Cs w1 w.heap.size #[.int .i64 a, .int .i64 b, .int .i64 c, .int .i64 d] := Cs.keep (by first | assumption | exact Cs.drew (by assumption)) hb1; have Bm : Cs w1 (w.heap.size + 1) #[.int .i64 0, .int .i64 0, .int .i64 0, .int .i64 0] := Cs.keep (by first | assumption | exact Cs.drew (by assumption)) hb1; have cBm := Bm.c; have fBm := Bm.f))
  go_wp2_with fail
  exact bodyPost_ret (v := .agg #[.int .i64 d, .int .i64 c, .int .i64 b, .int .i64 a]) (by simp [results, Tryz.results114, go_sem, cBm, fBm]) rfl ⟨rfl, (by repeat (first | with_reducible exact Below.refl _ _ | with_reducible assumption | with_reducible refine balloc ?_ _ | with_reducible refine bdrewN ?_ _ | with_reducible refine Below.drew ?_ | (with_reducible refine bset ?_ ?_ _; rotate_left; focus (first | assumption | omega | (simp; done) | (simp; omega))) | with_reducible refine bstep ?_ (by assumption) | assumption))⟩

end Go.Proofs.YtminplfgadhnnaaGreatDoor
end

/- Walks of the reference of units: products. -/
section
namespace Go.Proofs.YtminplfgadhnnaaGreatDoor
open Go.RowKit Go.Shelf
set_option linter.unusedSimpArgs false
set_option linter.unusedVariables false
open Um (frac S4 spanB spanE prodR mulR mul4 frac4 carryL turn4)

set_option maxHeartbeats 1000000 in
theorem reduced_any (n d : Int) (w : World) (hn : 1 ≤ n) (hd : 1 ≤ d) (hN : n ≤ 9223372036854775807) (hD : d ≤ 9223372036854775807) :
    Calls Tryz.prog 41 #[.int .i64 n, .int .i64 d] w fun e w' => e = .returned (.agg #[.int .i64 (n / (Int.gcd n d : Int)), .int .i64 (d / (Int.gcd n d : Int))]) ∧ Below w.heap.size w w' := by
  have hg : 1 ≤ (Int.gcd n d : Int) := by
    have : 0 < Int.gcd n d := Int.gcd_pos_of_ne_zero_left _ (by omega)
    omega
  have k1 := fun W => rgcd_any n d W (by omega) (by omega) hN hD
  generalize (Int.gcd n d : Int) = g at *
  have l1 : 0 ≤ n / g := Int.ediv_nonneg (by omega) (by omega)
  have l2 : 0 ≤ d / g := Int.ediv_nonneg (by omega) (by omega)
  have l3 : n / g ≤ n := Int.ediv_le_self _ (by omega)
  have l4 : d / g ≤ d := Int.ediv_le_self _ (by omega)
  have f1 : n.tdiv g = n / g := Int.tdiv_eq_ediv_of_nonneg (by omega)
  have f2 : d.tdiv g = d / g := Int.tdiv_eq_ediv_of_nonneg (by omega)
  have e1 : IntKind.i64.wrap (n / g) = n / g := IntWalk.i64_in _ (by omega)
  have e2 : IntKind.i64.wrap (d / g) = d / g := IntWalk.i64_in _ (by omega)
  have g0 : (g == 0) = false := by simp; omega
  go_enter Tryz.func41, Tryz.ntmps41
  go_wp2_with fail
  refine (k1 _).mono ?_
  rintro e w1 ⟨rfl, hb1⟩
  have B1 : Cs w1 (w.heap.size) #[.int .i64 0, .int .i64 0] := Cs.keep (by repeat (first | with_reducible assumption | (with_reducible refine Cs.new _ _ _ _ ?_; first | rfl | (simp; done)) | with_reducible refine Cs.alloc ?_ _ | with_reducible refine Cs.drewN ?_ _ | with_reducible refine Cs.drew ?_ | with_reducible refine Cs.set4 ?_ _ _ _ _ | (with_reducible refine Cs.other4 ?_ ?_ _ _ _ _; rotate_left; focus (first | assumption | omega | (simp; done) | (simp; omega))) | with_reducible refine Cs.set2 ?_ _ _ | (with_reducible refine Cs.other2 ?_ ?_ _ _; rotate_left; focus (first | assumption | omega | (simp; done) | (simp; omega))) | (with_reducible refine Cs.other ?_ ?_ _; rotate_left; focus (first | assumption | omega | (simp; done) | (simp; omega))) | with_reducible refine Cs.keep ?_ (by assumption) | assumption)) hb1
  have cB1 := B1.c
  have fB1 := B1.f
  have lB1 := B1.lt
  go_wp2_with fail
  go_region
  go_wp2_with fail
  exact bodyPost_ret (v := .agg #[.int .i64 (n / g), .int .i64 (d / g)]) (by simp [results, Tryz.results41, go_sem, cB1, fB1, lB1]) rfl ⟨rfl, (by repeat (first | with_reducible exact Below.refl _ _ | with_reducible assumption | with_reducible refine balloc ?_ _ | with_reducible refine bdrewN ?_ _ | with_reducible refine Below.drew ?_ | (with_reducible refine bset ?_ ?_ _; rotate_left; focus (first | assumption | omega | (simp; done) | (simp; omega))) | with_reducible refine bstep ?_ (by assumption) | assumption))⟩

end Go.Proofs.YtminplfgadhnnaaGreatDoor
end

/- Walks of the reference of layer 1: the errors of decrees; a fraction in a span. -/
section
namespace Go.Proofs.YtminplfgadhnnaaGreatDoor
open Go.RowKit Go.Shelf
set_option linter.unusedSimpArgs false
set_option linter.unusedVariables false
open Um (frac S4 spanB spanE)

/-- In: is a fraction in a span? -/
def inB (n d : Int) (s : S4) : Bool := decide (s.1 * d ≤ n * s.2.1) && decide (n * s.2.2.2 ≤ s.2.2.1 * d)

set_option maxHeartbeats 1000000 in
theorem rIn_any (n d a b c e : Int) (w : World) (h1 : 0 ≤ n) (h2 : 0 ≤ d) (h3 : 0 ≤ a) (h4 : 0 ≤ b) (h5 : 0 ≤ c) (h6 : 0 ≤ e) (H1 : n ≤ 2000000000) (H2 : d ≤ 2000000000) (H3 : a ≤ 2000000000) (H4 : b ≤ 2000000000) (H5 : c ≤ 2000000000) (H6 : e ≤ 2000000000) :
    Calls Tryz.prog 16 #[.agg #[.int .i64 n, .int .i64 d], .agg #[.int .i64 a, .int .i64 b, .int .i64 c, .int .i64 e]] w fun ed w' => ed = .returned (.bool (inB n d (a, b, c, e))) ∧ Below w.heap.size w w' := by
  have k1 := fun W => rless_any n d a b W h1 h2 h3 h4 H1 H2 H3 H4
  have k2 := fun W => rless_any c e n d W h5 h6 h1 h2 H5 H6 H1 H2
  have e1 : decide (a * d ≤ n * b) = !decide (n * b < a * d) := by rw [Bool.eq_iff_iff]; simp
  have e2 : decide (n * e ≤ c * d) = !decide (c * d < n * e) := by rw [Bool.eq_iff_iff]; simp
  unfold inB
  simp only
  rw [e1, e2]
  clear e1 e2
  generalize decide (n * b < a * d) = p at *
  generalize decide (c * d < n * e) = q at *
  cases p with
  | true =>
    go_enter Tryz.func16, Tryz.ntmps16
    go_wp2_with fail
    refine (k1 _).mono ?_
    rintro e w1 ⟨rfl, hb1⟩
    replace hbw : Below w.heap.size w w1 := (by repeat (first | with_reducible exact Below.refl _ _ | with_reducible assumption | with_reducible refine balloc ?_ _ | with_reducible refine bdrewN ?_ _ | with_reducible refine Below.drew ?_ | (with_reducible refine bset ?_ ?_ _; rotate_left; focus (first | assumption | omega | (simp; done) | (simp; omega))) | with_reducible refine bstep ?_ (by assumption) | assumption))
    clear hb1
    go_wp2_with fail
    go_ret
    exact ⟨by simp, (by repeat (first | with_reducible exact Below.refl _ _ | with_reducible assumption | with_reducible refine balloc ?_ _ | with_reducible refine bdrewN ?_ _ | with_reducible refine Below.drew ?_ | (with_reducible refine bset ?_ ?_ _; rotate_left; focus (first | assumption | omega | (simp; done) | (simp; omega))) | with_reducible refine bstep ?_ (by assumption) | assumption))⟩
  | false =>
    go_enter Tryz.func16, Tryz.ntmps16
    go_wp2_with fail
    refine (k1 _).mono ?_
    rintro e w1 ⟨rfl, hb1⟩
    replace B0 : Cs w1 (w.heap.size) #[.int .i64 n, .int .i64 d] := Cs.keep (by repeat (first | with_reducible assumption | (with_reducible refine Cs.new _ _ _ _ ?_; first | rfl | (simp; done)) | with_reducible refine Cs.alloc ?_ _ | with_reducible refine Cs.drewN ?_ _ | with_reducible refine Cs.drew ?_ | with_reducible refine Cs.set4 ?_ _ _ _ _ | (with_reducible refine Cs.other4 ?_ ?_ _ _ _ _; rotate_left; focus (first | assumption | omega | (simp; done) | (simp; omega))) | with_reducible refine Cs.set2 ?_ _ _ | (with_reducible refine Cs.other2 ?_ ?_ _ _; rotate_left; focus (first | assumption | omega | (simp; done) | (simp; omega))) | (with_reducible refine Cs.other ?_ ?_ _; rotate_left; focus (first | assumption | omega | (simp; done) | (simp; omega))) | with_reducible refine Cs.keep ?_ (by assumption) | assumption)) hb1
    replace B1 : Cs w1 (w.heap.size + 1) #[.int .i64 a, .int .i64 b, .int .i64 c, .int .i64 e] := Cs.keep (by repeat (first | with_reducible assumption | (with_reducible refine Cs.new _ _ _ _ ?_; first | rfl | (simp; done)) | with_reducible refine Cs.alloc ?_ _ | with_reducible refine Cs.drewN ?_ _ | with_reducible refine Cs.drew ?_ | with_reducible refine Cs.set4 ?_ _ _ _ _ | (with_reducible refine Cs.other4 ?_ ?_ _ _ _ _; rotate_left; focus (first | assumption | omega | (simp; done) | (simp; omega))) | with_reducible refine Cs.set2 ?_ _ _ | (with_reducible refine Cs.other2 ?_ ?_ _ _; rotate_left; focus (first | assumption | omega | (simp; done) | (simp; omega))) | (with_reducible refine Cs.other ?_ ?_ _; rotate_left; focus (first | assumption | omega | (simp; done) | (simp; omega))) | with_reducible refine Cs.keep ?_ (by assumption) | assumption)) hb1
    replace hbw : Below w.heap.size w w1 := (by repeat (first | with_reducible exact Below.refl _ _ | with_reducible assumption | with_reducible refine balloc ?_ _ | with_reducible refine bdrewN ?_ _ | with_reducible refine Below.drew ?_ | (with_reducible refine bset ?_ ?_ _; rotate_left; focus (first | assumption | omega | (simp; done) | (simp; omega))) | with_reducible refine bstep ?_ (by assumption) | assumption))
    replace cB0 := B0.c
    replace fB0 := B0.f
    replace lB0 := B0.lt
    replace cB1 := B1.c
    replace fB1 := B1.f
    replace lB1 := B1.lt
    clear hb1
    go_wp2_with fail
    refine (k2 _).mono ?_
    rintro e w2 ⟨rfl, hb2⟩
    try clear cB0 fB0 lB0
    try clear B0
    try clear cB1 fB1 lB1
    try clear B1
    replace hbw : Below w.heap.size w w2 := (by repeat (first | with_reducible exact Below.refl _ _ | with_reducible assumption | with_reducible refine balloc ?_ _ | with_reducible refine bdrewN ?_ _ | with_reducible refine Below.drew ?_ | (with_reducible refine bset ?_ ?_ _; rotate_left; focus (first | assumption | omega | (simp; done) | (simp; omega))) | with_reducible refine bstep ?_ (by assumption) | assumption))
    clear hb2
    go_wp2_with fail
    go_ret
    exact ⟨by simp, (by repeat (first | with_reducible exact Below.refl _ _ | with_reducible assumption | with_reducible refine balloc ?_ _ | with_reducible refine bdrewN ?_ _ | with_reducible refine Below.drew ?_ | (with_reducible refine bset ?_ ?_ _; rotate_left; focus (first | assumption | omega | (simp; done) | (simp; omega))) | with_reducible refine bstep ?_ (by assumption) | assumption))⟩

end Go.Proofs.YtminplfgadhnnaaGreatDoor
end

/- Walks of the reference of layer 1: Carry. -/
section
namespace Go.Proofs.YtminplfgadhnnaaGreatDoor
open Go.RowKit Go.Shelf
set_option linter.unusedSimpArgs false
set_option linter.unusedVariables false
open Um (frac S4 spanB spanE mul4 frac4 carryL turn4)

end Go.Proofs.YtminplfgadhnnaaGreatDoor
end

/- Walks of the reference of layer 1: Back. -/
section
namespace Go.Proofs.YtminplfgadhnnaaGreatDoor
open Go.RowKit Go.Shelf
set_option linter.unusedSimpArgs false
set_option linter.unusedVariables false
open Um (frac S4 spanB spanE mul4 frac4 carryL turn4)

end Go.Proofs.YtminplfgadhnnaaGreatDoor
end

/- Walks of the reference of layer 1: Found. -/
section
namespace Go.Proofs.YtminplfgadhnnaaGreatDoor
open Go.RowKit Go.Shelf
set_option linter.unusedSimpArgs false
set_option linter.unusedVariables false
open Um (frac S4 spanB spanE Simp)

end Go.Proofs.YtminplfgadhnnaaGreatDoor
end

/- Plain laws of programmes: rows, rows of dark and bright lamps, the principle of zeros and ones. -/
section
set_option linter.unusedSimpArgs false
set_option linter.unusedVariables false
namespace Bm

abbrev Pr := Nat × Nat
/-- a pair compares two lamps of a row -/
def cex (x : Pr) (l : List Int) : List Int := (l.set x.1 (max (l.getD x.1 0) (l.getD x.2 0))).set x.2 (min (l.getD x.1 0) (l.getD x.2 0))
def runL (p : List Pr) (l : List Int) : List Int := p.foldl (fun l x => cex x l) l
def OkP (n : Nat) (p : List Pr) : Prop := ∀ x ∈ p, x.1 < x.2 ∧ x.2 < n
/-- the same for rows that are functions -/
def cexF (x : Pr) (f : Nat → Int) : Nat → Int := fun i => if i = x.2 then min (f x.1) (f x.2) else if i = x.1 then max (f x.1) (f x.2) else f i
def runF (p : List Pr) (f : Nat → Int) : Nat → Int := p.foldl (fun f x => cexF x f) f
/-- the same for rows of dark and bright lamps -/
def xch (x : Pr) (r : Nat → Bool) : Nat → Bool := fun i => if i = x.2 then r x.1 && r x.2 else if i = x.1 then r x.1 || r x.2 else r i
def runB (p : List Pr) (r : Nat → Bool) : Nat → Bool := p.foldl (fun r x => xch x r) r

theorem OkP.tail {n : Nat} {x : Pr} {p : List Pr} (h : OkP n (x :: p)) : OkP n p := fun y hy => h y (List.mem_cons_of_mem _ hy)
theorem OkP.sub {n : Nat} {p q : List Pr} (h : OkP n p) (hq : ∀ x ∈ q, x ∈ p) : OkP n q := fun x hx => h x (hq x hx)

/-- which lamps reach a power -/
def thr (t : Int) (f : Nat → Int) : Nat → Bool := fun i => decide (t ≤ f i)
def b2i (b : Bool) : Int := if b then 1 else 0
/-- the lamps of the row with a number -/
def tab (n k : Nat) : Nat → Bool := fun i => k.testBit (n - 1 - i)
def rowL (n k : Nat) : List Int := (List.range n).map fun i => b2i (tab n k i)
/-- the number of a row -/
def num (r : Nat → Bool) : Nat → Nat
  | 0 => 0
  | n + 1 => 2 * num r n + (if r n then 1 else 0)
/-- some pair of places is wrong -/
def unord (n : Nat) (bf : Nat → Nat → Bool) (r : Nat → Bool) : Bool := (List.range n).any fun k => (List.range k).any fun i => bf i k && (r k && !r i)
/-- the same of a row of powers -/
def UnF (n : Nat) (bf : Nat → Nat → Bool) (f : Nat → Int) : Prop := ∃ k i, k < n ∧ i < k ∧ bf i k = true ∧ f i < f k

/-- a row in order -/
def ordB (l : List Int) : Bool := (List.range (l.length - 1)).all fun i => decide (l.getD (i + 1) 0 ≤ l.getD i 0)
theorem ordB_iff {l : List Int} : ordB l = true ↔ ∀ i, i + 1 < l.length → l.getD (i + 1) 0 ≤ l.getD i 0 := by
  unfold ordB
  simp only [List.all_eq_true, List.mem_range, decide_eq_true_eq]
  exact ⟨fun h i hi => h i (by omega), fun h i hi => h i (by omega)⟩
theorem ordB_le {l : List Int} (h : ordB l = true) : ∀ i k, i ≤ k → k < l.length → l.getD k 0 ≤ l.getD i 0 := by
  intro i k hik
  induction hik with
  | refl => intro _; exact Int.le_refl _
  | step _ ih => intro hk; exact Int.le_trans (ordB_iff.1 h _ hk) (ih (by omega))
/-- a row of which the first places are picked -/
def pickB (l : List Int) (m : Nat) : Bool := (List.range m).all fun i => (List.range l.length).all fun k => decide (k < m) || decide (l.getD k 0 ≤ l.getD i 0)
def bfP (m : Nat) (i k : Nat) : Bool := decide (i < m) && decide (m ≤ k)
/-- the first number of a row that is wrong -/
def fstBad (n : Nat) (bad : Nat → Bool) : Option Nat := (List.range (2 ^ n)).find? bad
end Bm
end

/- Plain laws of bars: fractions in least terms, the power of a lamp, its span; places. -/
section
set_option linter.unusedSimpArgs false
set_option linter.unusedVariables false
namespace Bm

def red (n d : Int) : Int × Int := (n / (Int.gcd n d : Int), d / (Int.gcd n d : Int))
theorem gcd_pos {n d : Int} (hd : 1 ≤ d) : 1 ≤ (Int.gcd n d : Int) := by
  have : 0 < Int.gcd n d := Int.gcd_pos_of_ne_zero_right _ (by omega)
  omega
theorem red_spec {n d : Int} (hn : 0 ≤ n) (hd : 1 ≤ d) : ∃ g : Int, 1 ≤ g ∧ n = (red n d).1 * g ∧ d = (red n d).2 * g ∧ 0 ≤ (red n d).1 ∧ 1 ≤ (red n d).2 ∧ Int.gcd (red n d).1 (red n d).2 = 1 ∧ (red n d).1 ≤ n ∧ (red n d).2 ≤ d := by
  have hg := gcd_pos (n := n) hd
  have e1 : n = (red n d).1 * (Int.gcd n d : Int) := (Int.ediv_mul_cancel (Int.gcd_dvd_left ..)).symm
  have e2 : d = (red n d).2 * (Int.gcd n d : Int) := (Int.ediv_mul_cancel (Int.gcd_dvd_right ..)).symm
  refine ⟨_, hg, e1, e2, Int.ediv_nonneg hn (by omega), ?_, ?_, ?_, ?_⟩
  · rcases Int.lt_or_le 0 (red n d).2 with h | h
    · omega
    · have : (red n d).2 * (Int.gcd n d : Int) ≤ 0 := Int.mul_nonpos_of_nonpos_of_nonneg h (by omega)
      omega
  · exact Int.gcd_ediv_gcd_ediv_gcd (Int.gcd_pos_of_ne_zero_right _ (by omega))
  · exact Int.ediv_le_self _ hn
  · exact Int.ediv_le_self _ (by omega)
theorem dvd_of_cop {a b c : Int} (h : a ∣ c * b) (hg : Int.gcd a b = 1) : a ∣ c := by
  have h1 : (a.natAbs : Nat) ∣ c.natAbs * b.natAbs := by rw [← Int.natAbs_mul]; exact Int.natAbs_dvd_natAbs.2 h
  have h2 : Nat.Coprime a.natAbs b.natAbs := hg
  exact Int.natAbs_dvd_natAbs.1 (h2.dvd_of_dvd_mul_right h1)
theorem red_uniq {a b c d : Int} (hb : 0 < b) (hd : 0 < d) (h1 : Int.gcd a b = 1) (h2 : Int.gcd c d = 1) (h : a * d = c * b) : a = c ∧ b = d := by
  have e1 : b ∣ d := by
    have : b ∣ d * a := ⟨c, by rw [Int.mul_comm d a, h, Int.mul_comm]⟩
    exact dvd_of_cop this (by rw [Int.gcd_comm]; exact h1)
  have e2 : d ∣ b := by
    have : d ∣ b * c := ⟨a, by rw [Int.mul_comm b c, ← h, Int.mul_comm]⟩
    exact dvd_of_cop this (by rw [Int.gcd_comm]; exact h2)
  have e3 : b = d := Int.dvd_antisymm (by omega) (by omega) e1 e2
  subst e3
  exact ⟨Int.eq_of_mul_eq_mul_right (by omega) h, rfl⟩
theorem red_of {n d a b : Int} (hn : 0 ≤ n) (hd : 1 ≤ d) (hb : 1 ≤ b) (hg : Int.gcd a b = 1) (h : a * d = n * b) : red n d = (a, b) := by
  obtain ⟨g, g1, e1, e2, p1, p2, hg2, -, -⟩ := red_spec hn hd
  generalize red n d = r at *
  obtain ⟨x, y⟩ := r
  dsimp only at *
  have hx : a * y = x * b := by
    have : (a * y) * g = (x * b) * g := by
      rw [e1, e2] at h
      calc a * y * g = a * (y * g) := by rw [Int.mul_assoc]
        _ = x * g * b := h
        _ = x * b * g := by rw [Int.mul_assoc, Int.mul_assoc, Int.mul_comm g b]
    exact Int.eq_of_mul_eq_mul_right (by omega) this
  obtain ⟨h3, h4⟩ := red_uniq (by omega) (by omega) hg hg2 hx
  rw [h3, h4]
theorem red_self {a b : Int} (ha : 0 ≤ a) (hb : 1 ≤ b) (hg : Int.gcd a b = 1) : red a b = (a, b) := red_of ha hb hb hg rfl

/-- the light of the lamp alone -/
def lgt (p s t : Int) : Int := max 0 (1000000 * p - t * s * s)
/-- the power of the lamp by a truth -/
def pwr (l p s t : Int) : Int × Int := red (lgt p s t * (l - s) * (l - s)) (1000000 * s * s)
/-- the power as the reference finds it -/
def rpw (f n L : Int) : Int × Int :=
  ((red (red f n).1 (red L 1000000).2).1 * (red (red L 1000000).1 (red f n).2).1, (red (red f n).1 (red L 1000000).2).2 * (red (red L 1000000).1 (red f n).2).2)
/-- one fraction is at most another one -/
def leR (a b : Int × Int) : Prop := a.1 * b.2 ≤ b.1 * a.2
end Bm
end

/- Small words for lists of numbers. -/
section
namespace Go.Proofs.YtminplfgadhnnaaGreatDoor
open Go.RowKit Go.Shelf

theorem Ints.alloc {w : World} {A : Option Addr} {n : Nat} {zs : List Int} (h : Ints w A n zs) (o : Obj) : Ints (w.alloc o) A n zs := h.below (balloc (Below.refl _ _) o)
theorem Ints.drewN {w : World} {A : Option Addr} {n : Nat} {zs : List Int} (h : Ints w A n zs) (k : Nat) : Ints (w.drewN k) A n zs := h
theorem Ints.drew {w : World} {A : Option Addr} {n : Nat} {zs : List Int} (h : Ints w A n zs) : Ints w.drew A n zs := h
theorem Ints.new1 (w : World) (H : Nat) (x : Int) (t : TypeId) (hH : w.heap.size = H) : Ints (w.alloc (.cells #[.int .i64 x] t)) (some ⟨H, 0, none⟩) 1 [x] := Ints.new w H [x] t hH
theorem Ints.new2 (w : World) (H : Nat) (x y : Int) (t : TypeId) (hH : w.heap.size = H) : Ints (w.alloc (.cells #[.int .i64 x, .int .i64 y] t)) (some ⟨H, 0, none⟩) 2 [x, y] := Ints.new w H [x, y] t hH
theorem Ints.nil (w : World) (A : Option Addr) : Ints w A 0 [] := ⟨rfl, fun h => absurd h (by omega)⟩
theorem Ints.cell0 {w : World} {b o n : Nat} {zs : List Int} (h : Ints w (some ⟨b, o, none⟩) n zs) (k : Nat) (hk : k < n) : w.cell? ⟨b, o + k, none⟩ = some (.int .i64 (zs.getD k 0)) := by
  obtain ⟨b', o', e, _, hc⟩ := h.2 (by omega)
  injection e with e
  injection e with e1 e2
  subst e1 e2
  exact hc k hk

end Go.Proofs.YtminplfgadhnnaaGreatDoor
end

/- Walks of the small functions of package bench: divisor, within, ratio. -/
section
namespace Go.Proofs.YtminplfgadhnnaaGreatDoor
open Go.RowKit Go.Shelf
set_option linter.unusedSimpArgs false
set_option linter.unusedVariables false

/-- what a predicate on numbers that is handed on gives, whatever has been made since -/
def PredInts (P : Program) (g : Nat) (lb : Array Value) (p : Int → Bool) (zs : List Int) (w : World) : Prop :=
  ∀ x, x ∈ zs → ∀ W, Below w.heap.size w W → Calls P g (#[.int .i64 x] ++ lb) W fun e W' => e = .returned (.bool (p x)) ∧ Below w.heap.size w W'

set_option maxHeartbeats 400000 in
theorem indexInts_any (A : Option Addr) (n c g : Nat) (zs : List Int) (lb : Array Value) (p : Int → Bool) (w : World) (eg : ∀ args w, (callFunc g args).run Tryz.prog w = .ok (.enter g args) w)
    (hz : Ints w A n zs) (hn : n ≤ 9223372036854775807) (hp : PredInts Tryz.prog g lb p zs w) :
    Calls Tryz.prog 151 #[.slice A n c, .func (.func g) #[] lb] w fun e w' => e = .returned (.int .i64 (Um.idx p zs)) ∧ Below w.heap.size w w' := by
  obtain ⟨hl, hcell⟩ := hz
  have Hcell := Lib.hid hcell
  have Hp := Lib.hid hp
  have Hl := Lib.hid hl
  clear hcell hp hl
  go_enter Tryz.func151, Tryz.ntmps151
  go_wp2
  go_loopw [5, 8] (fun _ i wr => ∃ k : Nat, k ≤ n ∧ i = .int .i64 k ∧ Hid (∀ i y, i < k → zs[i]? = some y → p y = false) ∧ Below w.heap.size w wr) (fun _ i _ => n - (intOf i).toNat)
  case atStart => exact ⟨0, Nat.zero_le _, rfl, fun i y hi => by omega, Below.refl _ _⟩
  case round =>
    obtain ⟨k, hk, rfl, hpre, hbl⟩ := hrel
    by_cases hlt : k < n
    · obtain ⟨b, off, rfl, hb, hc⟩ := Hcell.out (by omega)
      have hx : wr.cell? ⟨b, off + k, none⟩ = some (.int .i64 (zs.getD k 0)) := (hbl.cell (p := ⟨b, off + k, none⟩) hb).trans (hc k hlt)
      have hget : zs[k]? = some (zs.getD k 0) := by
        rw [List.getD_eq_getElem?_getD, List.getElem?_eq_getElem (by have := Hl.out; omega)]; rfl
      have Hget := Lib.hid hget
      have hcall := Hp.out (zs.getD k 0) (List.mem_of_getElem? hget) wr hbl
      clear hc hget
      generalize zs.getD k 0 = x at *
      cases hq : p x with
      | true =>
        rw [hq] at hcall
        have Hq := Lib.hid hq
        clear hq
        go_wp2_with (go_at_fn g; refine hcall.mono ?_; rintro e w' ⟨rfl, hb'⟩)
        go_ret
        exact ⟨ret_int (Um.idx_at p k zs x hpre.out Hget.out Hq.out).symm, hb'⟩
      | false =>
        rw [hq] at hcall
        have Hq := Lib.hid hq
        clear hq
        go_wp2_with (go_at_fn g; refine hcall.mono ?_; rintro e w' ⟨rfl, hb'⟩)
        go_roundw
        case rel =>
          refine ⟨k + 1, by omega, by go_num, fun i y hi hy => ?_, hb'⟩
          by_cases hik : i < k
          · exact hpre.out i y hik hy
          · have : i = k := by omega
            subst this
            have := Hget.out
            rw [hy] at this
            injection this with this
            rw [this]; exact Hq.out
        case measure => simp [intOf]; omega
    · go_wp2
      go_ret
      refine ⟨ret_int (Um.idx_none p zs (fun y hy => ?_)).symm, hbl⟩
      obtain ⟨i, hi, hiy⟩ := List.mem_iff_getElem.1 hy
      exact hpre.out i y (by have := Hl.out; omega) (by rw [List.getElem?_eq_getElem hi, hiy])

set_option maxHeartbeats 400000 in
theorem containsInts_any (A : Option Addr) (n c g : Nat) (zs : List Int) (lb : Array Value) (p : Int → Bool) (w : World) (eg : ∀ args w, (callFunc g args).run Tryz.prog w = .ok (.enter g args) w)
    (hz : Ints w A n zs) (hn : n ≤ 9223372036854775807) (hp : PredInts Tryz.prog g lb p zs w) :
    Calls Tryz.prog 105 #[.slice A n c, .func (.func g) #[] lb] w fun e w' => e = .returned (.bool (zs.any p)) ∧ Below w.heap.size w w' := by
  have h1 := indexInts_any A n c g zs lb p w eg hz hn hp
  have h2 := Um.idx_any p zs
  have H2 := Lib.hid h2
  clear h2 hz hp eg
  generalize zs.any p = r at *
  generalize Um.idx p zs = ix at *
  go_enter Tryz.func105, Tryz.ntmps105
  go_wp2_with (go_at_call 151; refine h1.mono ?_; rintro e w' ⟨rfl, hb'⟩)
  go_ret
  exact ⟨ret_bool H2.out, hb'⟩

/-- a number is not from lo to hi -/
def out (lo hi n : Int) : Bool := decide (n < lo) || decide (hi < n)

theorem Ints.at0 {w wr : World} {A : Option Addr} {n k : Nat} {zs : List Int} (h : Ints w A n zs) (hb : Below w.heap.size w wr) (hk : k < n) :
    ∃ b off, A = some ⟨b, off, none⟩ ∧ b < w.heap.size ∧ wr.cell? ⟨b, off + k, none⟩ = some (.int .i64 (zs.getD k 0)) := by
  obtain ⟨b, off, rfl, hlt, hc⟩ := h.2 (by omega)
  exact ⟨b, off, rfl, hlt, (hb.cell (p := ⟨b, off + k, none⟩) hlt).trans (hc k hk)⟩

end Go.Proofs.YtminplfgadhnnaaGreatDoor
end

/- Walks of package bench: pairs in slices; CheckProgramme. -/
section
namespace Go.Proofs.YtminplfgadhnnaaGreatDoor
open Go.RowKit Go.Shelf
set_option linter.unusedSimpArgs false
set_option linter.unusedVariables false

/-- a slice value that reads as a list of pairs of numbers -/
def Prs (w : World) (A : Option Addr) (n : Nat) (zs : List (Int × Int)) : Prop :=
  zs.length = n ∧ (0 < n → ∃ b off, A = some ⟨b, off, none⟩ ∧ b < w.heap.size ∧ ∀ i x y, zs[i]? = some (x, y) →
    w.cell? ⟨b, off + i * 2, none⟩ = some (.int .i64 x) ∧ w.cell? ⟨b, off + i * 2 + 1, none⟩ = some (.int .i64 y))

theorem Prs.below {w w' : World} {A : Option Addr} {n : Nat} {zs : List (Int × Int)} (h : Prs w A n zs) (hb : Below w.heap.size w w') : Prs w' A n zs := by
  refine ⟨h.1, fun hn => ?_⟩
  obtain ⟨b, off, rfl, hlt, hc⟩ := h.2 hn
  exact ⟨b, off, rfl, Nat.lt_of_lt_of_le hlt hb.size, fun i x y hp => ⟨(hb.cell (p := ⟨b, _, none⟩) hlt).trans (hc i x y hp).1, (hb.cell (p := ⟨b, _, none⟩) hlt).trans (hc i x y hp).2⟩⟩

/-- what is needed of one pair, in a later world -/
theorem Prs.at_ {w wr : World} {A : Option Addr} {n k : Nat} {zs : List (Int × Int)} (h : Prs w A n zs) (hb : Below w.heap.size w wr) (hk : k < n) :
    ∃ b off x y, A = some ⟨b, off, none⟩ ∧ zs[k]? = some (x, y) ∧ wr.cell? ⟨b, off + k * 2, none⟩ = some (.int .i64 x) ∧ wr.cell? ⟨b, off + k * 2 + 1, none⟩ = some (.int .i64 y) := by
  obtain ⟨b, off, rfl, hlt, hc⟩ := h.2 (by omega)
  have hl : k < zs.length := by rw [h.1]; exact hk
  obtain ⟨c0, c1⟩ := hc k zs[k].1 zs[k].2 (List.getElem?_eq_getElem hl)
  exact ⟨b, off, zs[k].1, zs[k].2, rfl, List.getElem?_eq_getElem hl, (hb.cell (p := ⟨b, _, none⟩) hlt).trans c0, (hb.cell (p := ⟨b, _, none⟩) hlt).trans c1⟩
theorem Prs.nil (w : World) (A : Option Addr) : Prs w A 0 [] := ⟨rfl, fun h => absurd h (by omega)⟩
theorem Prs.alloc {w : World} {A : Option Addr} {n : Nat} {zs : List (Int × Int)} (h : Prs w A n zs) (o : Obj) : Prs (w.alloc o) A n zs := h.below (balloc (Below.refl _ _) o)
theorem Prs.drewN {w : World} {A : Option Addr} {n : Nat} {zs : List (Int × Int)} (h : Prs w A n zs) (k : Nat) : Prs (w.drewN k) A n zs := h
theorem Prs.drew {w : World} {A : Option Addr} {n : Nat} {zs : List (Int × Int)} (h : Prs w A n zs) : Prs w.drew A n zs := h

/-- what a predicate on pairs that is handed on gives, whatever has been made since -/
def PredPrs (P : Program) (g : Nat) (lb : Array Value) (p : Int × Int → Bool) (zs : List (Int × Int)) (w : World) : Prop :=
  ∀ x, x ∈ zs → ∀ W, Below w.heap.size w W → Calls P g (#[.agg #[.int .i64 x.1, .int .i64 x.2]] ++ lb) W fun e W' => e = .returned (.bool (p x)) ∧ Below w.heap.size w W'

end Go.Proofs.YtminplfgadhnnaaGreatDoor
end

/- Walks: the reference's CheckProgramme; which programmes the law package looks at. -/
section
namespace Go.Proofs.YtminplfgadhnnaaGreatDoor
open Go.RowKit Go.Shelf
set_option linter.unusedSimpArgs false
set_option linter.unusedVariables false

end Go.Proofs.YtminplfgadhnnaaGreatDoor
end
