/- Walks of package unit: carried, Carry. -/
import Derived.Test.YtkjoamindolonaaDoorUA5
namespace Go.Proofs.YtkjoamindolonaaDoor
open Go.RowKit Go.Shelf
set_option linter.unusedSimpArgs false
set_option linter.unusedVariables false
open Um (frac S4 spanB spanE prodR mulR mul4 frac4 carryL)

set_option maxHeartbeats 2000000 in
theorem carried_4 (a b c d : Int) (A : Option Addr) (n cap g : Nat) (zs : List S4) (ch : S4 → S4) (w : World) (hz : Spans w A n zs) (hn : n ≤ 9223372036854775807)
    (eg : ∀ args w, (callFunc g args).run Tryd.prog w = .ok (.enter g args) w) (hch : ∀ x, spanB x = true → spanB (ch x) = true) (hcall : ChAt Tryd.prog g ch w)
    (hs : spanB (a, b, c, d) = true) (hn8 : n ≤ 8) (hany : zs.any (fun d => !spanB d) = false) :
    Calls Tryd.prog 44 #[.agg #[.int .i64 a, .int .i64 b, .int .i64 c, .int .i64 d], .slice A n cap, .func (.func g) #[] #[]] w fun e w' => e = RetS (Um.carried (a, b, c, d) zs ch) ∧ Below w.heap.size w w' := by
  have hlen := hz.1
  have k1 := fun W => checkSpan_ok a b c d W hs
  have k2 := fun (W : World) (hb : Below w.heap.size w W) => containsSpans_any A n cap 65 zs #[] (fun d => !spanB d) W (enters_of Tryd.func65 (by kernel_rfl) rfl) (hz.below hb) hn
    (fun x _ W' hW' => (badSpanC_any x.1 x.2.1 x.2.2.1 x.2.2.2 W').mono fun e W'' ⟨he, hb'⟩ => ⟨he, bstep hW' hb'⟩)
  have hall : ∀ x ∈ zs, spanB x = true := by
    intro x hx
    have := List.any_eq_false.1 hany x hx
    simpa using this
  have hfin : Um.carried (a, b, c, d) zs ch = match carryL (a, b, c, d) (zs.map ch) with | none => ((0, 0, 0, 0), 4) | some t => (t, 0) := by
    unfold Um.carried
    rw [if_neg (by rw [hs]; decide), if_neg (by omega), if_neg (by rw [hany]; decide)]
    rfl
  have Hfin := Lib.hid hfin
  have Hall := Lib.hid hall
  have Hz := Lib.hid hz
  have Hcall := Lib.hid hcall
  have Hch := Lib.hid hch
  rw [hany] at k2
  obtain ⟨hf1, hf2, _⟩ := (Um.spanB_iff _).1 hs
  have Hf0 : Hid (frac4 (a, b, c, d) = true) := (Um.frac4_iff _).2 ⟨hf1, hf2⟩
  clear hs hfin hcall hch hz hlen hany hall hf1 hf2
  go_enter Tryd.func44, Tryd.ntmps44
  go_wp2_with fail
  refine (k1 _).mono ?_
  rintro e w1 ⟨rfl, hb1⟩
  have B0 : Cs w1 (w.heap.size) #[.int .i64 a, .int .i64 b, .int .i64 c, .int .i64 d] := Cs.keep (by repeat (first | with_reducible assumption | (with_reducible refine Cs.new _ _ _ _ ?_; first | rfl | (simp; done)) | with_reducible refine Cs.alloc ?_ _ | with_reducible refine Cs.drewN ?_ _ | with_reducible refine Cs.drew ?_ | with_reducible refine Cs.set4 ?_ _ _ _ _ | (with_reducible refine Cs.other4 ?_ ?_ _ _ _ _; rotate_left; focus (first | assumption | omega | (simp; done) | (simp; omega))) | with_reducible refine Cs.set2 ?_ _ _ | (with_reducible refine Cs.other2 ?_ ?_ _ _; rotate_left; focus (first | assumption | omega | (simp; done) | (simp; omega))) | (with_reducible refine Cs.other ?_ ?_ _; rotate_left; focus (first | assumption | omega | (simp; done) | (simp; omega))) | with_reducible refine Cs.keep ?_ (by assumption) | assumption)) hb1
  have B1 : Cs w1 (w.heap.size + 1) #[.int .i64 0, .int .i64 0, .int .i64 0, .int .i64 0] := Cs.keep (by repeat (first | with_reducible assumption | (with_reducible refine Cs.new _ _ _ _ ?_; first | rfl | (simp; done)) | with_reducible refine Cs.alloc ?_ _ | with_reducible refine Cs.drewN ?_ _ | with_reducible refine Cs.drew ?_ | with_reducible refine Cs.set4 ?_ _ _ _ _ | (with_reducible refine Cs.other4 ?_ ?_ _ _ _ _; rotate_left; focus (first | assumption | omega | (simp; done) | (simp; omega))) | with_reducible refine Cs.set2 ?_ _ _ | (with_reducible refine Cs.other2 ?_ ?_ _ _; rotate_left; focus (first | assumption | omega | (simp; done) | (simp; omega))) | (with_reducible refine Cs.other ?_ ?_ _; rotate_left; focus (first | assumption | omega | (simp; done) | (simp; omega))) | with_reducible refine Cs.keep ?_ (by assumption) | assumption)) hb1
  have hbl : Below w.heap.size w w1 := (by repeat (first | with_reducible exact Below.refl _ _ | with_reducible assumption | with_reducible refine balloc ?_ _ | with_reducible refine bdrewN ?_ _ | with_reducible refine Below.drew ?_ | (with_reducible refine bset ?_ ?_ _; rotate_left; focus (first | assumption | omega | (simp; done) | (simp; omega))) | with_reducible refine bstep ?_ (by assumption) | assumption))
  go_wp2_with fail
  refine (k2 _ hbl).mono ?_
  rintro e w2 ⟨rfl, hb2⟩
  have B0' := B0.keep hb2
  have B1' := B1.keep hb2
  have hbl2 : Below w.heap.size w w2 := (by repeat (first | with_reducible exact Below.refl _ _ | with_reducible assumption | with_reducible refine balloc ?_ _ | with_reducible refine bdrewN ?_ _ | with_reducible refine Below.drew ?_ | (with_reducible refine bset ?_ ?_ _; rotate_left; focus (first | assumption | omega | (simp; done) | (simp; omega))) | with_reducible refine bstep ?_ (by assumption) | assumption))
  have cB0' := B0'.c
  have fB0' := B0'.f
  have lB0' := B0'.lt
  clear k1 k2 hb1 hb2 B0 B1
  go_wp2_with fail
  clear cB0' fB0' lB0'
  go_loopw [35] (fun i wr => ∃ (k : Nat) (v : S4), k ≤ n ∧ i = .int .i64 k ∧ Hid (frac4 v = true) ∧ Hid (carryL (a, b, c, d) (zs.map ch) = carryL v ((zs.drop k).map ch)) ∧ Cs wr w2.heap.size #[.int .i64 v.1, .int .i64 v.2.1, .int .i64 v.2.2.1, .int .i64 v.2.2.2] ∧ Cs wr (w.heap.size + 1) #[.int .i64 0, .int .i64 0, .int .i64 0, .int .i64 0] ∧ Below w.heap.size w wr) (fun i _ => n - (intOf i).toNat)
  case atStart => exact ⟨0, (a, b, c, d), Nat.zero_le _, rfl, Hf0, rfl, (by repeat (first | with_reducible assumption | (with_reducible refine Cs.new _ _ _ _ ?_; first | rfl | (simp; done)) | with_reducible refine Cs.alloc ?_ _ | with_reducible refine Cs.drewN ?_ _ | with_reducible refine Cs.drew ?_ | with_reducible refine Cs.set4 ?_ _ _ _ _ | (with_reducible refine Cs.other4 ?_ ?_ _ _ _ _; rotate_left; focus (first | assumption | omega | (simp; done) | (simp; omega))) | with_reducible refine Cs.set2 ?_ _ _ | (with_reducible refine Cs.other2 ?_ ?_ _ _; rotate_left; focus (first | assumption | omega | (simp; done) | (simp; omega))) | (with_reducible refine Cs.other ?_ ?_ _; rotate_left; focus (first | assumption | omega | (simp; done) | (simp; omega))) | with_reducible refine Cs.keep ?_ (by assumption) | assumption)), B1'.alloc _, balloc hbl2 _⟩
  case round =>
    obtain ⟨k, v, hk, rfl, Hfv, Hcl, Bv, BR, hblr⟩ := hrel
    have hr1 : w.heap.size + 1 ≠ w2.heap.size := by have := B1'.lt; omega
    have hr2 : w.heap.size ≤ w2.heap.size := hbl2.size
    by_cases hlt : k < n
    · obtain ⟨b', off, x, y, z, u, rfl, hget, hdrop, e0, e1, e2, e3⟩ := Hz.out.at_ hblr hlt
      have hsx := Hall.out _ (List.mem_of_getElem? hget)
      have hcx := Hch.out _ hsx
      have Hdrop := Lib.hid hdrop
      have kc := fun W hb => Hcall.out (x, y, z, u) W hb
      have Hstep : Hid (carryL v ((zs.drop k).map ch) = if frac4 (mul4 v (ch (x, y, z, u))) = true then carryL (mul4 v (ch (x, y, z, u))) ((zs.drop (k + 1)).map ch) else none) := by
        show _ = _
        rw [hdrop, List.map_cons, carryL]
      have Ht4 : Hid (frac4 (ch (x, y, z, u)) = true) := by
        obtain ⟨f1, f2, _⟩ := (Um.spanB_iff _).1 hcx
        exact (Um.frac4_iff _).2 ⟨f1, f2⟩
      clear hdrop hget hsx hcx Hdrop
      generalize ch (x, y, z, u) = t at *
      have hbA : Below w.heap.size w (wr.alloc (.cells #[.int .i64 x, .int .i64 y, .int .i64 z, .int .i64 u] 25)) := balloc hblr _
      have BvA := Bv.alloc (.cells #[.int .i64 x, .int .i64 y, .int .i64 z, .int .i64 u] 25)
      have BRA := BR.alloc (.cells #[.int .i64 x, .int .i64 y, .int .i64 z, .int .i64 u] 25)
      have cBvA := BvA.c
      have fBvA := BvA.f
      have lBvA := BvA.lt
      go_wp2_with (go_at_fn g; refine (kc _ hbA).mono ?_; rintro e w3 ⟨rfl, hb3⟩)
      clear cBvA fBvA lBvA
      have hb3' : Below w.heap.size w w3 := bstep hbA hb3
      cases hm : frac4 (mul4 v t) with
      | true =>
        have Hm := Lib.hid hm
        have k5 := fun W => carry_ok v t W Hfv.out Ht4.out hm
        clear hm kc
        refine (k5 _).mono ?_
        rintro e w4 ⟨rfl, hb4⟩
        have Bw := (BvA.keep hb3).keep hb4
        have cBw := Bw.c
        have fBw := Bw.f
        have lBw := Bw.lt
        go_wp2_with fail
        go_roundw
        case rel =>
          refine ⟨k + 1, mul4 v t, by omega, by go_num, Hm.out, ?_, ?_, ?_, ?_⟩
          · show _ = _
            rw [Hcl.out, Hstep.out, if_pos Hm.out]
          · exact (Bw.set4 _ _ _ _).alloc _
          · exact (((BRA.keep hb3).keep hb4).other4 hr1 _ _ _ _).alloc _
          · exact balloc (bset4 (bstep (bstep hbA hb3) hb4) hr2 _ _ _ _) _
        case measure => simp [intOf]; omega
      | false =>
        have Hm := Lib.hid hm
        have k5 := fun W => carry_no v t W Hfv.out Ht4.out hm
        have hnone : Um.carried (a, b, c, d) zs ch = ((0, 0, 0, 0), 4) := by
          rw [Hfin.out, Hcl.out, Hstep.out, if_neg (by rw [hm]; decide)]
        clear hm kc
        refine (k5 _).mono ?_
        rintro e w4 ⟨z0, z1, z2, z3, rfl, hb4⟩
        have Bw := (BRA.keep hb3).keep hb4
        have cBw := Bw.c
        have fBw := Bw.f
        have lBw := Bw.lt
        go_wp2_with fail
        rw [hnone]
        unfold RetS
        exact bodyPost_ret (v := .tuple #[.agg #[.int .i64 0, .int .i64 0, .int .i64 0, .int .i64 0], .int .i64 4]) (by simp [results, Tryd.results44, go_sem, cBw, fBw, lBw]) rfl ⟨rfl, (by repeat (first | with_reducible exact Below.refl _ _ | with_reducible assumption | with_reducible refine balloc ?_ _ | with_reducible refine bdrewN ?_ _ | with_reducible refine Below.drew ?_ | (with_reducible refine bset ?_ ?_ _; rotate_left; focus (first | assumption | omega | (simp; done) | (simp; omega))) | with_reducible refine bstep ?_ (by assumption) | assumption))⟩
    · have hkn : k = n := by omega
      subst hkn
      have hsome : Um.carried (a, b, c, d) zs ch = (v, 0) := by
        rw [Hfin.out, Hcl.out, List.drop_of_length_le (by have := Hz.out.1; omega)]; rfl
      have cBv := Bv.c
      have fBv := Bv.f
      have lBv := Bv.lt
      have cBR := BR.c
      have fBR := BR.f
      have lBR := BR.lt
      go_wp2_with fail
      rw [hsome]
      unfold RetS
      exact bodyPost_ret (v := .tuple #[.agg #[.int .i64 v.1, .int .i64 v.2.1, .int .i64 v.2.2.1, .int .i64 v.2.2.2], .int .i64 0]) (by simp [results, Tryd.results44, go_sem, cBR, fBR, lBR]) rfl ⟨rfl, (by repeat (first | with_reducible exact Below.refl _ _ | with_reducible assumption | with_reducible refine balloc ?_ _ | with_reducible refine bdrewN ?_ _ | with_reducible refine Below.drew ?_ | (with_reducible refine bset ?_ ?_ _; rotate_left; focus (first | assumption | omega | (simp; done) | (simp; omega))) | with_reducible refine bstep ?_ (by assumption) | assumption))⟩

theorem carried_any (a b c d : Int) (A : Option Addr) (n cap g : Nat) (zs : List S4) (ch : S4 → S4) (w : World) (hz : Spans w A n zs) (hn : n ≤ 9223372036854775807)
    (eg : ∀ args w, (callFunc g args).run Tryd.prog w = .ok (.enter g args) w) (hch : ∀ x, spanB x = true → spanB (ch x) = true) (hcall : ChAt Tryd.prog g ch w) :
    Calls Tryd.prog 44 #[.agg #[.int .i64 a, .int .i64 b, .int .i64 c, .int .i64 d], .slice A n cap, .func (.func g) #[] #[]] w fun e w' => e = RetS (Um.carried (a, b, c, d) zs ch) ∧ Below w.heap.size w w' := by
  cases hs : spanB (a, b, c, d) with
  | false => exact carried_1 a b c d A n cap g zs ch w hz hn eg hch hcall hs
  | true =>
    by_cases h8 : 8 < n
    · exact carried_2 a b c d A n cap g zs ch w hz hn eg hch hcall hs h8
    · cases hany : zs.any (fun d => !spanB d) with
      | true => exact carried_3 a b c d A n cap g zs ch w hz hn eg hch hcall hs (by omega) hany
      | false => exact carried_4 a b c d A n cap g zs ch w hz hn eg hch hcall hs (by omega) hany

end Go.Proofs.YtkjoamindolonaaDoor
