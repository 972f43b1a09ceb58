/- Walks of the reference of layer 1: Carry. -/
import Derived.Test.YtkjoamindolonaaDoorRA4
import Derived.Test.YtkjoamindolonaaDoorUA5
import Derived.Deep.RegionHeld3
import Derived.Deep.RegionLaw
namespace Go.Proofs.YtkjoamindolonaaDoor
open Go.RowKit Go.Shelf
set_option linter.unusedSimpArgs false
set_option linter.unusedVariables false
open Um (frac S4 spanB spanE mul4 frac4 carryL turn4)

theorem decE_err {s : S4} {l : List S4} (ch : S4 → S4) (h : decE s l ≠ 0) : Um.carried s l ch = ((0, 0, 0, 0), decE s l) := by
  unfold Um.carried
  unfold decE at *
  by_cases h1 : spanB s = false
  · simp [h1]
  · by_cases h2 : 8 < l.length
    · simp [h1, h2]
    · by_cases h3 : l.any (fun d => !spanB d) = true
      · simp only [if_neg h1, if_neg h2, if_pos h3]
      · rw [if_neg h1, if_neg h2, if_neg h3] at h; exact absurd rfl h

theorem decE_ok {s : S4} {l : List S4} (h : decE s l = 0) : spanB s = true ∧ l.length ≤ 8 ∧ (∀ x ∈ l, spanB x = true) ∧ ∀ ch, Um.carried s l ch = match carryL s (l.map ch) with | none => ((0, 0, 0, 0), 4) | some t => (t, 0) := by
  unfold Um.carried
  unfold decE at h
  by_cases h1 : spanB s = false
  · rw [if_pos h1] at h; exact absurd h (by decide)
  · rw [if_neg h1] at h
    by_cases h2 : 8 < l.length
    · rw [if_pos h2] at h; exact absurd h (by decide)
    · rw [if_neg h2] at h
      by_cases h3 : l.any (fun d => !spanB d) = true
      · rw [if_pos h3] at h; exact absurd h (by decide)
      · refine ⟨by simpa using h1, by omega, fun x hx => ?_, fun ch => by rw [if_neg h1, if_neg h2, if_neg h3]; rfl⟩
        have := List.any_eq_false.1 (Bool.eq_false_iff.2 h3) x hx
        simpa using this

theorem frac4_span {s : S4} (h : spanB s = true) : frac4 s = true := by
  obtain ⟨h1, h2, _⟩ := (Um.spanB_iff s).1 h
  exact (Um.frac4_iff s).2 ⟨h1, h2⟩

set_option maxHeartbeats 1000000 in
theorem rCarry_bad (a b c d : Int) (A : Option Addr) (n cap : Nat) (zs : List S4) (w : World) (hz : Spans w A n zs) (hn : n ≤ 9223372036854775807) (h : decE (a, b, c, d) zs ≠ 0) :
    Calls Tryd.prog 17 #[.agg #[.int .i64 a, .int .i64 b, .int .i64 c, .int .i64 d], .slice A n cap] w fun e w' => e = RetS ((0, 0, 0, 0), decE (a, b, c, d) zs) ∧ Below w.heap.size w w' := by
  have k1 := fun (W : World) (hb : Below w.heap.size w W) => decrees_any a b c d A n cap zs W (hz.below hb) hn
  unfold RetS
  simp only
  clear hz
  generalize decE (a, b, c, d) zs = r at *
  have h1 : (r == 0) = false := by simpa using h
  have h2 : ¬ r = 0 := h
  clear h
  go_enter Tryd.func17, Tryd.ntmps17
  go_wp2_with fail
  refine (k1 _ (by repeat (first | with_reducible exact Below.refl _ _ | with_reducible assumption | with_reducible refine balloc ?_ _ | with_reducible refine bdrewN ?_ _ | with_reducible refine Below.drew ?_ | (with_reducible refine bset ?_ ?_ _; rotate_left; focus (first | assumption | omega | (simp; done) | (simp; omega))) | with_reducible refine bstep ?_ (by assumption) | assumption))).mono ?_
  rintro e w1 ⟨rfl, hb1⟩
  replace B0 : Cs w1 (w.heap.size) #[.int .i64 a, .int .i64 b, .int .i64 c, .int .i64 d] := Cs.keep (by repeat (first | with_reducible assumption | (with_reducible refine Cs.new _ _ _ _ ?_; first | rfl | (simp; done)) | with_reducible refine Cs.alloc ?_ _ | with_reducible refine Cs.drewN ?_ _ | with_reducible refine Cs.drew ?_ | with_reducible refine Cs.set4 ?_ _ _ _ _ | (with_reducible refine Cs.other4 ?_ ?_ _ _ _ _; rotate_left; focus (first | assumption | omega | (simp; done) | (simp; omega))) | with_reducible refine Cs.set2 ?_ _ _ | (with_reducible refine Cs.other2 ?_ ?_ _ _; rotate_left; focus (first | assumption | omega | (simp; done) | (simp; omega))) | (with_reducible refine Cs.other ?_ ?_ _; rotate_left; focus (first | assumption | omega | (simp; done) | (simp; omega))) | with_reducible refine Cs.keep ?_ (by assumption) | assumption)) hb1
  replace B1 : Cs w1 (w.heap.size + 1) #[.int .i64 0, .int .i64 0, .int .i64 0, .int .i64 0] := Cs.keep (by repeat (first | with_reducible assumption | (with_reducible refine Cs.new _ _ _ _ ?_; first | rfl | (simp; done)) | with_reducible refine Cs.alloc ?_ _ | with_reducible refine Cs.drewN ?_ _ | with_reducible refine Cs.drew ?_ | with_reducible refine Cs.set4 ?_ _ _ _ _ | (with_reducible refine Cs.other4 ?_ ?_ _ _ _ _; rotate_left; focus (first | assumption | omega | (simp; done) | (simp; omega))) | with_reducible refine Cs.set2 ?_ _ _ | (with_reducible refine Cs.other2 ?_ ?_ _ _; rotate_left; focus (first | assumption | omega | (simp; done) | (simp; omega))) | (with_reducible refine Cs.other ?_ ?_ _; rotate_left; focus (first | assumption | omega | (simp; done) | (simp; omega))) | with_reducible refine Cs.keep ?_ (by assumption) | assumption)) hb1
  replace hbw : Below w.heap.size w w1 := (by repeat (first | with_reducible exact Below.refl _ _ | with_reducible assumption | with_reducible refine balloc ?_ _ | with_reducible refine bdrewN ?_ _ | with_reducible refine Below.drew ?_ | (with_reducible refine bset ?_ ?_ _; rotate_left; focus (first | assumption | omega | (simp; done) | (simp; omega))) | with_reducible refine bstep ?_ (by assumption) | assumption))
  replace cB0 := B0.c
  replace fB0 := B0.f
  replace lB0 := B0.lt
  replace cB1 := B1.c
  replace fB1 := B1.f
  replace lB1 := B1.lt
  clear hb1
  go_wp2_with fail
  refine (k1 _ (by repeat (first | with_reducible exact Below.refl _ _ | with_reducible assumption | with_reducible refine balloc ?_ _ | with_reducible refine bdrewN ?_ _ | with_reducible refine Below.drew ?_ | (with_reducible refine bset ?_ ?_ _; rotate_left; focus (first | assumption | omega | (simp; done) | (simp; omega))) | with_reducible refine bstep ?_ (by assumption) | assumption))).mono ?_
  rintro e w2 ⟨rfl, hb2⟩
  try clear cB0 fB0 lB0
  try clear B0
  replace B1 : Cs w2 (w.heap.size + 1) #[.int .i64 0, .int .i64 0, .int .i64 0, .int .i64 0] := Cs.keep (by repeat (first | with_reducible assumption | (with_reducible refine Cs.new _ _ _ _ ?_; first | rfl | (simp; done)) | with_reducible refine Cs.alloc ?_ _ | with_reducible refine Cs.drewN ?_ _ | with_reducible refine Cs.drew ?_ | with_reducible refine Cs.set4 ?_ _ _ _ _ | (with_reducible refine Cs.other4 ?_ ?_ _ _ _ _; rotate_left; focus (first | assumption | omega | (simp; done) | (simp; omega))) | with_reducible refine Cs.set2 ?_ _ _ | (with_reducible refine Cs.other2 ?_ ?_ _ _; rotate_left; focus (first | assumption | omega | (simp; done) | (simp; omega))) | (with_reducible refine Cs.other ?_ ?_ _; rotate_left; focus (first | assumption | omega | (simp; done) | (simp; omega))) | with_reducible refine Cs.keep ?_ (by assumption) | assumption)) hb2
  replace hbw : Below w.heap.size w w2 := (by repeat (first | with_reducible exact Below.refl _ _ | with_reducible assumption | with_reducible refine balloc ?_ _ | with_reducible refine bdrewN ?_ _ | with_reducible refine Below.drew ?_ | (with_reducible refine bset ?_ ?_ _; rotate_left; focus (first | assumption | omega | (simp; done) | (simp; omega))) | with_reducible refine bstep ?_ (by assumption) | assumption))
  replace cB1 := B1.c
  replace fB1 := B1.f
  replace lB1 := B1.lt
  clear hb2
  go_wp2_with fail
  exact bodyPost_ret (v := .tuple #[.agg #[.int .i64 0, .int .i64 0, .int .i64 0, .int .i64 0], .int .i64 r]) (by simp [results, Tryd.results17, go_sem, cB1, fB1, lB1]) rfl ⟨rfl, (by repeat (first | with_reducible exact Below.refl _ _ | with_reducible assumption | with_reducible refine balloc ?_ _ | with_reducible refine bdrewN ?_ _ | with_reducible refine Below.drew ?_ | (with_reducible refine bset ?_ ?_ _; rotate_left; focus (first | assumption | omega | (simp; done) | (simp; omega))) | with_reducible refine bstep ?_ (by assumption) | assumption))⟩

set_option maxHeartbeats 2000000 in
theorem rCarry_ok (a b c d : Int) (A : Option Addr) (n cap : Nat) (zs : List S4) (w : World) (hz : Spans w A n zs) (hn : n ≤ 9223372036854775807) (h : decE (a, b, c, d) zs = 0) :
    Calls Tryd.prog 17 #[.agg #[.int .i64 a, .int .i64 b, .int .i64 c, .int .i64 d], .slice A n cap] w fun e w' => e = RetS (Um.carried (a, b, c, d) zs fun d => d) ∧ Below w.heap.size w w' := by
  have k1 := fun (W : World) (hb : Below w.heap.size w W) => decrees_any a b c d A n cap zs W (hz.below hb) hn
  rw [h] at k1
  obtain ⟨hs, hn8, hall, hfin⟩ := decE_ok h
  have Hfin := Lib.hid (hfin fun d => d)
  have Hf0 := Lib.hid (frac4_span hs)
  have Hall := Lib.hid hall
  have Hz := Lib.hid hz
  clear hz h hs hall hfin hn8
  generalize Um.carried (a, b, c, d) zs (fun d => d) = r at *
  go_enter Tryd.func17, Tryd.ntmps17
  go_wp2_with fail
  refine (k1 _ (by repeat (first | with_reducible exact Below.refl _ _ | with_reducible assumption | with_reducible refine balloc ?_ _ | with_reducible refine bdrewN ?_ _ | with_reducible refine Below.drew ?_ | (with_reducible refine bset ?_ ?_ _; rotate_left; focus (first | assumption | omega | (simp; done) | (simp; omega))) | with_reducible refine bstep ?_ (by assumption) | assumption))).mono ?_
  rintro e w1 ⟨rfl, hb1⟩
  replace B0 : Cs w1 (w.heap.size) #[.int .i64 a, .int .i64 b, .int .i64 c, .int .i64 d] := Cs.keep (by repeat (first | with_reducible assumption | (with_reducible refine Cs.new _ _ _ _ ?_; first | rfl | (simp; done)) | with_reducible refine Cs.alloc ?_ _ | with_reducible refine Cs.drewN ?_ _ | with_reducible refine Cs.drew ?_ | with_reducible refine Cs.set4 ?_ _ _ _ _ | (with_reducible refine Cs.other4 ?_ ?_ _ _ _ _; rotate_left; focus (first | assumption | omega | (simp; done) | (simp; omega))) | with_reducible refine Cs.set2 ?_ _ _ | (with_reducible refine Cs.other2 ?_ ?_ _ _; rotate_left; focus (first | assumption | omega | (simp; done) | (simp; omega))) | (with_reducible refine Cs.other ?_ ?_ _; rotate_left; focus (first | assumption | omega | (simp; done) | (simp; omega))) | with_reducible refine Cs.keep ?_ (by assumption) | assumption)) hb1
  replace B1 : Cs w1 (w.heap.size + 1) #[.int .i64 0, .int .i64 0, .int .i64 0, .int .i64 0] := Cs.keep (by repeat (first | with_reducible assumption | (with_reducible refine Cs.new _ _ _ _ ?_; first | rfl | (simp; done)) | with_reducible refine Cs.alloc ?_ _ | with_reducible refine Cs.drewN ?_ _ | with_reducible refine Cs.drew ?_ | with_reducible refine Cs.set4 ?_ _ _ _ _ | (with_reducible refine Cs.other4 ?_ ?_ _ _ _ _; rotate_left; focus (first | assumption | omega | (simp; done) | (simp; omega))) | with_reducible refine Cs.set2 ?_ _ _ | (with_reducible refine Cs.other2 ?_ ?_ _ _; rotate_left; focus (first | assumption | omega | (simp; done) | (simp; omega))) | (with_reducible refine Cs.other ?_ ?_ _; rotate_left; focus (first | assumption | omega | (simp; done) | (simp; omega))) | with_reducible refine Cs.keep ?_ (by assumption) | assumption)) hb1
  replace hbw : Below w.heap.size w w1 := (by repeat (first | with_reducible exact Below.refl _ _ | with_reducible assumption | with_reducible refine balloc ?_ _ | with_reducible refine bdrewN ?_ _ | with_reducible refine Below.drew ?_ | (with_reducible refine bset ?_ ?_ _; rotate_left; focus (first | assumption | omega | (simp; done) | (simp; omega))) | with_reducible refine bstep ?_ (by assumption) | assumption))
  replace cB0 := B0.c
  replace fB0 := B0.f
  replace lB0 := B0.lt
  replace cB1 := B1.c
  replace fB1 := B1.f
  replace lB1 := B1.lt
  clear hb1
  clear k1
  go_wp2_with fail
  clear cB0 fB0 lB0 cB1 fB1 lB1
  go_loopw [6, 7] (fun _ i wr => ∃ (k : Nat) (v : S4), k ≤ n ∧ i = .int .i64 k ∧ Hid (frac4 v = true) ∧ Hid (carryL (a, b, c, d) (zs.map fun d => d) = carryL v (zs.drop k)) ∧ Cs wr w.heap.size #[.int .i64 v.1, .int .i64 v.2.1, .int .i64 v.2.2.1, .int .i64 v.2.2.2] ∧ Cs wr (w.heap.size + 1) #[.int .i64 0, .int .i64 0, .int .i64 0, .int .i64 0] ∧ Below w.heap.size w wr) (fun _ i _ => n - (intOf i).toNat)
  case atStart => exact ⟨0, (a, b, c, d), Nat.zero_le _, rfl, Hf0, Lib.hid (by simp), B0, B1, hbw⟩
  case round =>
    clear B0 B1 hbw
    obtain ⟨k, v, hk, rfl, Hfv, Hcl, B0, B1, hbw⟩ := hrel
    by_cases hlt : k < n
    · obtain ⟨b', off, x, y, z, u, rfl, hget, hdrop, e0, e1, e2, e3⟩ := Hz.out.at_ hbw hlt
      have Hx : Hid (frac4 (x, y, z, u) = true) := Lib.hid (frac4_span (Hall.out _ (List.mem_of_getElem? hget)))
      have Hd := Lib.hid hdrop
      have hlt' : b' < w.heap.size := by
        obtain ⟨b2, off2, he, hlt2, _⟩ := Hz.out.2 (by omega)
        injection he with he
        injection he with he1 he2
        rw [he1]; exact hlt2
      clear hget hdrop
      have kp := fun W => rproduct_any v (x, y, z, u) W Hfv.out Hx.out
      have Hstep : Hid (carryL v (zs.drop k) = if frac4 (mul4 v (x, y, z, u)) = true then carryL (mul4 v (x, y, z, u)) (zs.drop (k + 1)) else none) := Lib.hid (by
        rw [Hd.out, carryL])
      clear Hd
      generalize mul4 v (x, y, z, u) = t at *
      obtain ⟨v1, v2, v3, v4⟩ := v
      obtain ⟨t1, t2, t3, t4⟩ := t
      dsimp only at kp
      have cB0 := B0.c
      have fB0 := B0.f
      have lB0 := B0.lt
      cases hm : frac4 (t1, t2, t3, t4) with
      | true =>
        rw [hm] at kp
        have Hm := Lib.hid hm
        clear hm
        go_wp2_with fail
        go_region_law (first | (go_simp; go_at_call 47; refine (kp _).mono ?_; rintro e w2 ⟨rfl, hb2⟩; have N0 : Cs w2 w.heap.size #[.int .i64 v1, .int .i64 v2, .int .i64 v3, .int .i64 v4] := Cs.keep (by repeat (first | with_reducible assumption | (with_reducible refine Cs.new _ _ _ _ ?_; first | rfl | (simp; done)) | with_reducible refine Cs.alloc ?_ _ | with_reducible refine Cs.drewN ?_ _ | with_reducible refine Cs.drew ?_ | with_reducible refine Cs.set4 ?_ _ _ _ _ | (with_reducible refine Cs.other4 ?_ ?_ _ _ _ _; rotate_left; focus (first | assumption | omega | (simp; done) | (simp; omega))) | with_reducible refine Cs.set2 ?_ _ _ | (with_reducible refine Cs.other2 ?_ ?_ _ _; rotate_left; focus (first | assumption | omega | (simp; done) | (simp; omega))) | (with_reducible refine Cs.other ?_ ?_ _; rotate_left; focus (first | assumption | omega | (simp; done) | (simp; omega))) | with_reducible refine Cs.keep ?_ (by assumption) | assumption)) hb2; have N1 : Cs w2 (w.heap.size + 1) #[.int .i64 0, .int .i64 0, .int .i64 0, .int .i64 0] := Cs.keep (by repeat (first | with_reducible assumption | (with_reducible refine Cs.new _ _ _ _ ?_; first | rfl | (simp; done)) | with_reducible refine Cs.alloc ?_ _ | with_reducible refine Cs.drewN ?_ _ | with_reducible refine Cs.drew ?_ | with_reducible refine Cs.set4 ?_ _ _ _ _ | (with_reducible refine Cs.other4 ?_ ?_ _ _ _ _; rotate_left; focus (first | assumption | omega | (simp; done) | (simp; omega))) | with_reducible refine Cs.set2 ?_ _ _ | (with_reducible refine Cs.other2 ?_ ?_ _ _; rotate_left; focus (first | assumption | omega | (simp; done) | (simp; omega))) | (with_reducible refine Cs.other ?_ ?_ _; rotate_left; focus (first | assumption | omega | (simp; done) | (simp; omega))) | with_reducible refine Cs.keep ?_ (by assumption) | assumption)) hb2; have hbw2 : Below w.heap.size w w2 := (by repeat (first | with_reducible exact Below.refl _ _ | with_reducible assumption | with_reducible refine balloc ?_ _ | with_reducible refine bdrewN ?_ _ | with_reducible refine Below.drew ?_ | (with_reducible refine bset ?_ ?_ _; rotate_left; focus (first | assumption | omega | (simp; done) | (simp; omega))) | with_reducible refine bstep ?_ (by assumption) | assumption)); have cN0 := N0.c; have fN0 := N0.f; have lN0 := N0.lt; clear hb2))
        all_goals (
          go_wp2_with fail
          go_roundw
          case rel =>
            refine ⟨k + 1, (t1, t2, t3, t4), by omega, by go_num, Hm, ?_, ?_, ?_, ?_⟩
            · exact Lib.hid (by rw [Hcl.out, Hstep.out, if_pos Hm.out])
            · first | exact N0.set4 _ _ _ _ | exact (N0.set4 _ _ _ _).drew | exact (N0.set4 _ _ _ _).drewN _
            · first | exact N1.other4 (by omega) _ _ _ _ | exact (N1.other4 (by omega) _ _ _ _).drew | exact (N1.other4 (by omega) _ _ _ _).drewN _
            · first | exact bset4 hbw2 (Nat.le_refl _) _ _ _ _ | exact (bset4 hbw2 (Nat.le_refl _) _ _ _ _).drew | exact bdrewN (bset4 hbw2 (Nat.le_refl _) _ _ _ _) _
          case measure => simp [intOf]; omega)
      | false =>
        rw [hm] at kp
        have hres : Hid (r = ((0, 0, 0, 0), 4)) := Lib.hid (by rw [Hfin.out, Hcl.out, Hstep.out, hm]; rfl)
        clear hm
        go_wp2_with fail
        go_region_law (first | (go_simp; go_at_call 47; refine (kp _).mono ?_; rintro e w2 ⟨rfl, hb2⟩; have N0 : Cs w2 w.heap.size #[.int .i64 v1, .int .i64 v2, .int .i64 v3, .int .i64 v4] := Cs.keep (by repeat (first | with_reducible assumption | (with_reducible refine Cs.new _ _ _ _ ?_; first | rfl | (simp; done)) | with_reducible refine Cs.alloc ?_ _ | with_reducible refine Cs.drewN ?_ _ | with_reducible refine Cs.drew ?_ | with_reducible refine Cs.set4 ?_ _ _ _ _ | (with_reducible refine Cs.other4 ?_ ?_ _ _ _ _; rotate_left; focus (first | assumption | omega | (simp; done) | (simp; omega))) | with_reducible refine Cs.set2 ?_ _ _ | (with_reducible refine Cs.other2 ?_ ?_ _ _; rotate_left; focus (first | assumption | omega | (simp; done) | (simp; omega))) | (with_reducible refine Cs.other ?_ ?_ _; rotate_left; focus (first | assumption | omega | (simp; done) | (simp; omega))) | with_reducible refine Cs.keep ?_ (by assumption) | assumption)) hb2; have N1 : Cs w2 (w.heap.size + 1) #[.int .i64 0, .int .i64 0, .int .i64 0, .int .i64 0] := Cs.keep (by repeat (first | with_reducible assumption | (with_reducible refine Cs.new _ _ _ _ ?_; first | rfl | (simp; done)) | with_reducible refine Cs.alloc ?_ _ | with_reducible refine Cs.drewN ?_ _ | with_reducible refine Cs.drew ?_ | with_reducible refine Cs.set4 ?_ _ _ _ _ | (with_reducible refine Cs.other4 ?_ ?_ _ _ _ _; rotate_left; focus (first | assumption | omega | (simp; done) | (simp; omega))) | with_reducible refine Cs.set2 ?_ _ _ | (with_reducible refine Cs.other2 ?_ ?_ _ _; rotate_left; focus (first | assumption | omega | (simp; done) | (simp; omega))) | (with_reducible refine Cs.other ?_ ?_ _; rotate_left; focus (first | assumption | omega | (simp; done) | (simp; omega))) | with_reducible refine Cs.keep ?_ (by assumption) | assumption)) hb2; have cN1 := N1.c; have fN1 := N1.f; have lN1 := N1.lt; have hbw2 : Below w.heap.size w w2 := (by repeat (first | with_reducible exact Below.refl _ _ | with_reducible assumption | with_reducible refine balloc ?_ _ | with_reducible refine bdrewN ?_ _ | with_reducible refine Below.drew ?_ | (with_reducible refine bset ?_ ?_ _; rotate_left; focus (first | assumption | omega | (simp; done) | (simp; omega))) | with_reducible refine bstep ?_ (by assumption) | assumption)); have cN0 := N0.c; have fN0 := N0.f; have lN0 := N0.lt; clear hb2))
        all_goals (
          go_wp2_with fail
          rw [hres.out]
          unfold RetS
          exact bodyPost_ret (v := .tuple #[.agg #[.int .i64 0, .int .i64 0, .int .i64 0, .int .i64 0], .int .i64 4]) (by simp [results, Tryd.results17, go_sem, cN1, fN1, lN1]) rfl ⟨rfl, (by repeat (first | with_reducible exact Below.refl _ _ | with_reducible assumption | with_reducible refine balloc ?_ _ | with_reducible refine bdrewN ?_ _ | with_reducible refine Below.drew ?_ | (with_reducible refine bset ?_ ?_ _; rotate_left; focus (first | assumption | omega | (simp; done) | (simp; omega))) | with_reducible refine bstep ?_ (by assumption) | assumption))⟩)
    · obtain rfl : k = n := by omega
      have hres : Hid (r = (v, 0)) := Lib.hid (by rw [Hfin.out, Hcl.out, List.drop_eq_nil_of_le (by have := Hz.out.1; omega)]; rfl)
      have cB0 := B0.c
      have fB0 := B0.f
      have lB0 := B0.lt
      have cB1 := B1.c
      have fB1 := B1.f
      have lB1 := B1.lt
      go_wp2_with fail
      rw [hres.out]
      unfold RetS
      exact bodyPost_ret (v := .tuple #[.agg #[.int .i64 v.1, .int .i64 v.2.1, .int .i64 v.2.2.1, .int .i64 v.2.2.2], .int .i64 0]) (by simp [results, Tryd.results17, go_sem, cB1, fB1, lB1]) rfl ⟨rfl, (by repeat (first | with_reducible exact Below.refl _ _ | with_reducible assumption | with_reducible refine balloc ?_ _ | with_reducible refine bdrewN ?_ _ | with_reducible refine Below.drew ?_ | (with_reducible refine bset ?_ ?_ _; rotate_left; focus (first | assumption | omega | (simp; done) | (simp; omega))) | with_reducible refine bstep ?_ (by assumption) | assumption))⟩

end Go.Proofs.YtkjoamindolonaaDoor
