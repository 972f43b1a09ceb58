/- The walk of UnitCarried: it answers true. -/
import Derived.Test.YtkjoamindolonaaDoorL05
import Derived.Deep.DeepCutAuto
import Derived.BigQuiet
namespace Go.Proofs.YtkjoamindolonaaDoor
open Go.RowKit Go.Shelf
set_option linter.unusedSimpArgs false
set_option linter.unusedVariables false
open Um (frac S4 spanB spanE turn4 pt inS)

set_option maxRecDepth 100000 in
set_option maxHeartbeats 16000000 in
theorem unitCarried_A (a b c d : Int) (A Ab : Option Addr) (n m cap capb : Nat) (zs : List S4) (bs : List Int) (w : World) (hs : spanB (a, b, c, d) = true) (hz : Spans w A n zs) (hy : Byts w Ab m bs) (hn : n ≤ 8) (hm : m ≤ 20) (hm0 : m = 0) (hfa : FirstAt w) :
    Calls Tryd.prog 7 #[.agg #[.int .i64 a, .int .i64 b, .int .i64 c, .int .i64 d], .slice A n cap, .slice Ab m capb] w fun e w' => e = .returned (.bool true) ∧ Below w.heap.size w w' := by
  have kw := fun W hf => works_any W hf
  have Hfa := Lib.hid hfa
  have Hz := Lib.hid hz
  have Hy := Lib.hid hy
  have Hs := Lib.hid hs
  have hn1 : ¬ (8 : Int) < (n : Int) := by omega
  have hm1 : ¬ (20 : Int) < (m : Int) := by omega
  have k0 := fun W => fine_any a b c d W
  rw [hs] at k0
  subst hm0
  obtain ⟨g1, g2, g3⟩ := (Um.spanB_iff _).1 hs
  have hX : frac a b = true ∧ inS (a, b) (a, b, c, d) := ⟨g1, Int.le_refl _, g3⟩
  clear g1 g2 g3
  have HX := Lib.hid hX
  clear hfa hz hy hs hX hn
  go_enter Tryd.func7, Tryd.ntmps7
  go_wp2_with fail
  refine (k0 _).mono ?_
  rintro e w1 ⟨rfl, hb1⟩
  replace B0 : Cs w1 (w.heap.size) #[.int .i64 a, .int .i64 b, .int .i64 c, .int .i64 d] := Cs.keep (by repeat (first | with_reducible assumption | (with_reducible refine Cs.new _ _ _ _ ?_; first | rfl | (simp; done)) | with_reducible refine Cs.alloc ?_ _ | with_reducible refine Cs.drewN ?_ _ | with_reducible refine Cs.drew ?_ | with_reducible refine Cs.set4 ?_ _ _ _ _ | (with_reducible refine Cs.other4 ?_ ?_ _ _ _ _; rotate_left; focus (first | assumption | omega | (simp; done) | (simp; omega))) | with_reducible refine Cs.set2 ?_ _ _ | (with_reducible refine Cs.other2 ?_ ?_ _ _; rotate_left; focus (first | assumption | omega | (simp; done) | (simp; omega))) | (with_reducible refine Cs.other ?_ ?_ _; rotate_left; focus (first | assumption | omega | (simp; done) | (simp; omega))) | with_reducible refine Cs.keep ?_ (by assumption) | assumption)) hb1
  replace hbw : Below w.heap.size w w1 := (by repeat (first | with_reducible exact Below.refl _ _ | with_reducible assumption | with_reducible refine balloc ?_ _ | with_reducible refine bdrewN ?_ _ | with_reducible refine Below.drew ?_ | (with_reducible refine bset ?_ ?_ _; rotate_left; focus (first | assumption | omega | (simp; done) | (simp; omega))) | with_reducible refine bstep ?_ (by assumption) | assumption))
  replace cB0 := B0.c
  replace fB0 := B0.f
  replace lB0 := B0.lt
  clear hb1
  go_wp2_with fail
  have Bg : Cs (w1.alloc (.cells #[.int .i64 a, .int .i64 b, .int .i64 a, .int .i64 b] 25)) w1.heap.size #[.int .i64 a, .int .i64 b, .int .i64 a, .int .i64 b] := (by repeat (first | with_reducible assumption | (with_reducible refine Cs.new _ _ _ _ ?_; first | rfl | (simp; done)) | with_reducible refine Cs.alloc ?_ _ | with_reducible refine Cs.drewN ?_ _ | with_reducible refine Cs.drew ?_ | with_reducible refine Cs.set4 ?_ _ _ _ _ | (with_reducible refine Cs.other4 ?_ ?_ _ _ _ _; rotate_left; focus (first | assumption | omega | (simp; done) | (simp; omega))) | with_reducible refine Cs.set2 ?_ _ _ | (with_reducible refine Cs.other2 ?_ ?_ _ _; rotate_left; focus (first | assumption | omega | (simp; done) | (simp; omega))) | (with_reducible refine Cs.other ?_ ?_ _; rotate_left; focus (first | assumption | omega | (simp; done) | (simp; omega))) | with_reducible refine Cs.keep ?_ (by assumption) | assumption))
  have hgw : w.heap.size < w1.heap.size := lB0
  generalize hg7 : w1.heap.size = g7 at *
  go_loopw [8, 9, 10] (fun s8 s9 s10 wr => ∃ (k : Nat) (ex : Bool), k ≤ n ∧ s8 = .bool ex ∧ s10 = .int .i64 k ∧ Hid (ex = true → ∀ j, j < k → (zs.getD j (0, 0, 0, 0)).1 = (zs.getD j (0, 0, 0, 0)).2.2.1 ∧ (zs.getD j (0, 0, 0, 0)).2.1 = (zs.getD j (0, 0, 0, 0)).2.2.2) ∧ Hid (∀ j, j < k → spanB (zs.getD j (0, 0, 0, 0)) = true) ∧
      wr.ownsRow (g7 + 1) 25 4 s9 k ((trues zs bs k).flatMap enc4) ∧ Cs wr w.heap.size #[.int .i64 a, .int .i64 b, .int .i64 c, .int .i64 d] ∧ Cs wr g7 #[.int .i64 a, .int .i64 b, .int .i64 a, .int .i64 b] ∧ Below w.heap.size w wr) (fun _ _ s10 _ => n - (intOf s10).toNat)
  case atStart =>
    exact ⟨0, true, Nat.zero_le _, rfl, rfl, Lib.hid (fun _ j hj => absurd hj (by omega)), Lib.hid (fun j hj => absurd hj (by omega)), ⟨rfl, Or.inl ⟨rfl, rfl⟩⟩, (by repeat (first | with_reducible assumption | (with_reducible refine Cs.new _ _ _ _ ?_; first | rfl | (simp; done)) | with_reducible refine Cs.alloc ?_ _ | with_reducible refine Cs.drewN ?_ _ | with_reducible refine Cs.drew ?_ | with_reducible refine Cs.set4 ?_ _ _ _ _ | (with_reducible refine Cs.other4 ?_ ?_ _ _ _ _; rotate_left; focus (first | assumption | omega | (simp; done) | (simp; omega))) | with_reducible refine Cs.set2 ?_ _ _ | (with_reducible refine Cs.other2 ?_ ?_ _ _; rotate_left; focus (first | assumption | omega | (simp; done) | (simp; omega))) | (with_reducible refine Cs.other ?_ ?_ _; rotate_left; focus (first | assumption | omega | (simp; done) | (simp; omega))) | with_reducible refine Cs.keep ?_ (by assumption) | assumption)), (by repeat (first | with_reducible assumption | (with_reducible refine Cs.new _ _ _ _ ?_; first | rfl | (simp; done)) | with_reducible refine Cs.alloc ?_ _ | with_reducible refine Cs.drewN ?_ _ | with_reducible refine Cs.drew ?_ | with_reducible refine Cs.set4 ?_ _ _ _ _ | (with_reducible refine Cs.other4 ?_ ?_ _ _ _ _; rotate_left; focus (first | assumption | omega | (simp; done) | (simp; omega))) | with_reducible refine Cs.set2 ?_ _ _ | (with_reducible refine Cs.other2 ?_ ?_ _ _; rotate_left; focus (first | assumption | omega | (simp; done) | (simp; omega))) | (with_reducible refine Cs.other ?_ ?_ _; rotate_left; focus (first | assumption | omega | (simp; done) | (simp; omega))) | with_reducible refine Cs.keep ?_ (by assumption) | assumption)), (by repeat (first | with_reducible exact Below.refl _ _ | with_reducible assumption | with_reducible refine balloc ?_ _ | with_reducible refine bdrewN ?_ _ | with_reducible refine Below.drew ?_ | (with_reducible refine bset ?_ ?_ _; rotate_left; focus (first | assumption | omega | (simp; done) | (simp; omega))) | with_reducible refine bstep ?_ (by assumption) | assumption))⟩
  case round =>
    clear B0 Bg hbw
    obtain ⟨k, ex, hk, rfl, rfl, Hex, Hsp, hown, B0, Bg, hbw⟩ := hrel
    have hbr := hbw
    by_cases hkn : k < n
    · have hkI : (k : Int) < (n : Int) := by omega
      obtain ⟨b', off, x, y, z, u, rfl, hget, hdrop, c0, c1, c2, c3⟩ := Hz.out.at_ hbw hkn
      have Hget := Lib.hid hget
      have hz4 : zs.getD k (0, 0, 0, 0) = (x, y, z, u) := by rw [List.getD_eq_getElem?_getD, hget]; rfl
      have Hz4 := Lib.hid hz4
      clear hget hdrop hz4
      have k2 := fun W => fine_any x y z u W
      cases hs4 : spanB (x, y, z, u) with
      | false =>
        rw [hs4] at k2
        clear hs4
        go_wp2_with fail
        refine (k2 _).mono ?_
        rintro e w2 ⟨rfl, hb2⟩
        try clear cB0 fB0 lB0
        try clear B0
        try clear cBg fBg lBg
        try clear Bg
        replace hbw : Below w.heap.size w w2 := (by repeat (first | with_reducible exact Below.refl _ _ | with_reducible assumption | with_reducible refine balloc ?_ _ | with_reducible refine bdrewN ?_ _ | with_reducible refine Below.drew ?_ | (with_reducible refine bset ?_ ?_ _; rotate_left; focus (first | assumption | omega | (simp; done) | (simp; omega))) | with_reducible refine bstep ?_ (by assumption) | assumption))
        clear hb2
        go_wp2_with fail
        refine (kw _ (Hfa.out.below (by repeat (first | with_reducible exact Below.refl _ _ | with_reducible assumption | with_reducible refine balloc ?_ _ | with_reducible refine bdrewN ?_ _ | with_reducible refine Below.drew ?_ | (with_reducible refine bset ?_ ?_ _; rotate_left; focus (first | assumption | omega | (simp; done) | (simp; omega))) | with_reducible refine bstep ?_ (by assumption) | assumption)))).mono ?_
        rintro e w3 ⟨rfl, hb3⟩
        try clear cB0 fB0 lB0
        try clear B0
        try clear cBg fBg lBg
        try clear Bg
        replace hbw : Below w.heap.size w w3 := (by repeat (first | with_reducible exact Below.refl _ _ | with_reducible assumption | with_reducible refine balloc ?_ _ | with_reducible refine bdrewN ?_ _ | with_reducible refine Below.drew ?_ | (with_reducible refine bset ?_ ?_ _; rotate_left; focus (first | assumption | omega | (simp; done) | (simp; omega))) | with_reducible refine bstep ?_ (by assumption) | assumption))
        clear hb3
        go_wp2_with fail
        go_ret
        exact ⟨rfl, (by repeat (first | with_reducible exact Below.refl _ _ | with_reducible assumption | with_reducible refine balloc ?_ _ | with_reducible refine bdrewN ?_ _ | with_reducible refine Below.drew ?_ | (with_reducible refine bset ?_ ?_ _; rotate_left; focus (first | assumption | omega | (simp; done) | (simp; omega))) | with_reducible refine bstep ?_ (by assumption) | assumption))⟩
      | true =>
        rw [hs4] at k2
        have Hs4 := Lib.hid hs4
        clear hs4
        go_wp2_with fail
        refine (k2 _).mono ?_
        rintro _ w2 ⟨rfl, hb2⟩
        have hx2 : Below wr.heap.size wr w2 := (by repeat (first | with_reducible exact Below.refl _ _ | with_reducible assumption | with_reducible refine balloc ?_ _ | with_reducible refine bdrewN ?_ _ | with_reducible refine Below.drew ?_ | (with_reducible refine bset ?_ ?_ _; rotate_left; focus (first | assumption | omega | (simp; done) | (simp; omega))) | with_reducible refine bstep ?_ (by assumption) | assumption))
        replace B0 : Cs w2 (w.heap.size) #[.int .i64 a, .int .i64 b, .int .i64 c, .int .i64 d] := Cs.keep (by repeat (first | with_reducible assumption | (with_reducible refine Cs.new _ _ _ _ ?_; first | rfl | (simp; done)) | with_reducible refine Cs.alloc ?_ _ | with_reducible refine Cs.drewN ?_ _ | with_reducible refine Cs.drew ?_ | with_reducible refine Cs.set4 ?_ _ _ _ _ | (with_reducible refine Cs.other4 ?_ ?_ _ _ _ _; rotate_left; focus (first | assumption | omega | (simp; done) | (simp; omega))) | with_reducible refine Cs.set2 ?_ _ _ | (with_reducible refine Cs.other2 ?_ ?_ _ _; rotate_left; focus (first | assumption | omega | (simp; done) | (simp; omega))) | (with_reducible refine Cs.other ?_ ?_ _; rotate_left; focus (first | assumption | omega | (simp; done) | (simp; omega))) | with_reducible refine Cs.keep ?_ (by assumption) | assumption)) hb2
        replace Bg : Cs w2 g7 #[.int .i64 a, .int .i64 b, .int .i64 a, .int .i64 b] := Cs.keep (by repeat (first | with_reducible assumption | (with_reducible refine Cs.new _ _ _ _ ?_; first | rfl | (simp; done)) | with_reducible refine Cs.alloc ?_ _ | with_reducible refine Cs.drewN ?_ _ | with_reducible refine Cs.drew ?_ | with_reducible refine Cs.set4 ?_ _ _ _ _ | (with_reducible refine Cs.other4 ?_ ?_ _ _ _ _; rotate_left; focus (first | assumption | omega | (simp; done) | (simp; omega))) | with_reducible refine Cs.set2 ?_ _ _ | (with_reducible refine Cs.other2 ?_ ?_ _ _; rotate_left; focus (first | assumption | omega | (simp; done) | (simp; omega))) | (with_reducible refine Cs.other ?_ ?_ _; rotate_left; focus (first | assumption | omega | (simp; done) | (simp; omega))) | with_reducible refine Cs.keep ?_ (by assumption) | assumption)) hb2
        replace hbw : Below w.heap.size w w2 := (by repeat (first | with_reducible exact Below.refl _ _ | with_reducible assumption | with_reducible refine balloc ?_ _ | with_reducible refine bdrewN ?_ _ | with_reducible refine Below.drew ?_ | (with_reducible refine bset ?_ ?_ _; rotate_left; focus (first | assumption | omega | (simp; done) | (simp; omega))) | with_reducible refine bstep ?_ (by assumption) | assumption))
        replace cB0 := B0.c
        replace fB0 := B0.f
        replace lB0 := B0.lt
        replace cBg := Bg.c
        replace fBg := Bg.f
        replace lBg := Bg.lt
        clear hb2
        obtain ⟨d0, d1, d2, d3⟩ := Hz.out.cells hbw hkn Hget.out
        clear c0 c1 c2 c3 k2
        go_upto_region 14 with fail
        go_cut [8] (fun s8 wx => ∃ (ex2 : Bool) (w3 : World), s8 = .bool ex2 ∧ Hid (w3 = wx) ∧ Hid (ex2 = true → ex = true ∧ x = z ∧ y = u) ∧ Below w2.heap.size w2 wx)
        case first =>
          clear kw Hz Hy Hfa
          cases ex with
          | false =>
            go_quiet (fail)
            go_wp2_with fail
            go_meet
            exact ⟨false, _, rfl, Lib.hid rfl, Lib.hid (fun h => by cases h), (by repeat (first | with_reducible exact Below.refl _ _ | with_reducible assumption | with_reducible refine balloc ?_ _ | with_reducible refine bdrewN ?_ _ | with_reducible refine Below.drew ?_ | (with_reducible refine bset ?_ ?_ _; rotate_left; focus (first | assumption | omega | (simp; done) | (simp; omega))) | with_reducible refine bstep ?_ (by assumption) | assumption))⟩
          | true =>
            by_cases e1 : x = z
            · by_cases e2 : y = u
              · subst e1 e2
                go_quiet (fail)
                go_wp2_with fail
                go_meet
                exact ⟨true, _, rfl, Lib.hid rfl, Lib.hid (fun _ => by simp), (by repeat (first | with_reducible exact Below.refl _ _ | with_reducible assumption | with_reducible refine balloc ?_ _ | with_reducible refine bdrewN ?_ _ | with_reducible refine Below.drew ?_ | (with_reducible refine bset ?_ ?_ _; rotate_left; focus (first | assumption | omega | (simp; done) | (simp; omega))) | with_reducible refine bstep ?_ (by assumption) | assumption))⟩
              · have g1 : (y == u) = false := by simp [e2]
                subst e1
                go_quiet (fail)
                go_wp2_with fail
                go_meet
                exact ⟨false, _, rfl, Lib.hid rfl, Lib.hid (fun h => by cases h), (by repeat (first | with_reducible exact Below.refl _ _ | with_reducible assumption | with_reducible refine balloc ?_ _ | with_reducible refine bdrewN ?_ _ | with_reducible refine Below.drew ?_ | (with_reducible refine bset ?_ ?_ _; rotate_left; focus (first | assumption | omega | (simp; done) | (simp; omega))) | with_reducible refine bstep ?_ (by assumption) | assumption))⟩
            · have g1 : (x == z) = false := by simp [e1]
              go_quiet (fail)
              go_wp2_with fail
              go_meet
              exact ⟨false, _, rfl, Lib.hid rfl, Lib.hid (fun h => by cases h), (by repeat (first | with_reducible exact Below.refl _ _ | with_reducible assumption | with_reducible refine balloc ?_ _ | with_reducible refine bdrewN ?_ _ | with_reducible refine Below.drew ?_ | (with_reducible refine bset ?_ ?_ _; rotate_left; focus (first | assumption | omega | (simp; done) | (simp; omega))) | with_reducible refine bstep ?_ (by assumption) | assumption))⟩
        case rest =>
          obtain ⟨ex2, w3, rfl, Hw, Hex2, hb3⟩ := hcut
          obtain rfl := Hw.out
          have hx3 : Below wr.heap.size wr w3 := (by repeat (first | with_reducible exact Below.refl _ _ | with_reducible assumption | with_reducible refine balloc ?_ _ | with_reducible refine bdrewN ?_ _ | with_reducible refine Below.drew ?_ | (with_reducible refine bset ?_ ?_ _; rotate_left; focus (first | assumption | omega | (simp; done) | (simp; omega))) | with_reducible refine bstep ?_ (by assumption) | assumption))
          replace B0 : Cs w3 (w.heap.size) #[.int .i64 a, .int .i64 b, .int .i64 c, .int .i64 d] := Cs.keep (by repeat (first | with_reducible assumption | (with_reducible refine Cs.new _ _ _ _ ?_; first | rfl | (simp; done)) | with_reducible refine Cs.alloc ?_ _ | with_reducible refine Cs.drewN ?_ _ | with_reducible refine Cs.drew ?_ | with_reducible refine Cs.set4 ?_ _ _ _ _ | (with_reducible refine Cs.other4 ?_ ?_ _ _ _ _; rotate_left; focus (first | assumption | omega | (simp; done) | (simp; omega))) | with_reducible refine Cs.set2 ?_ _ _ | (with_reducible refine Cs.other2 ?_ ?_ _ _; rotate_left; focus (first | assumption | omega | (simp; done) | (simp; omega))) | (with_reducible refine Cs.other ?_ ?_ _; rotate_left; focus (first | assumption | omega | (simp; done) | (simp; omega))) | with_reducible refine Cs.keep ?_ (by assumption) | assumption)) hb3
          replace Bg : Cs w3 g7 #[.int .i64 a, .int .i64 b, .int .i64 a, .int .i64 b] := Cs.keep (by repeat (first | with_reducible assumption | (with_reducible refine Cs.new _ _ _ _ ?_; first | rfl | (simp; done)) | with_reducible refine Cs.alloc ?_ _ | with_reducible refine Cs.drewN ?_ _ | with_reducible refine Cs.drew ?_ | with_reducible refine Cs.set4 ?_ _ _ _ _ | (with_reducible refine Cs.other4 ?_ ?_ _ _ _ _; rotate_left; focus (first | assumption | omega | (simp; done) | (simp; omega))) | with_reducible refine Cs.set2 ?_ _ _ | (with_reducible refine Cs.other2 ?_ ?_ _ _; rotate_left; focus (first | assumption | omega | (simp; done) | (simp; omega))) | (with_reducible refine Cs.other ?_ ?_ _; rotate_left; focus (first | assumption | omega | (simp; done) | (simp; omega))) | with_reducible refine Cs.keep ?_ (by assumption) | assumption)) hb3
          replace hbw : Below w.heap.size w w3 := (by repeat (first | with_reducible exact Below.refl _ _ | with_reducible assumption | with_reducible refine balloc ?_ _ | with_reducible refine bdrewN ?_ _ | with_reducible refine Below.drew ?_ | (with_reducible refine bset ?_ ?_ _; rotate_left; focus (first | assumption | omega | (simp; done) | (simp; omega))) | with_reducible refine bstep ?_ (by assumption) | assumption))
          replace cB0 := B0.c
          replace fB0 := B0.f
          replace lB0 := B0.lt
          replace cBg := Bg.c
          replace fBg := Bg.f
          replace lBg := Bg.lt
          clear hb3
          obtain ⟨c0, c1, c2, c3⟩ := Hz.out.cells hbw hkn Hget.out
          have Hex3 : Hid (ex2 = true → ∀ j, j < k + 1 → (zs.getD j (0, 0, 0, 0)).1 = (zs.getD j (0, 0, 0, 0)).2.2.1 ∧ (zs.getD j (0, 0, 0, 0)).2.1 = (zs.getD j (0, 0, 0, 0)).2.2.2) := Lib.hid (fun h j hj => by
            obtain ⟨h1, h2, h3⟩ := Hex2.out h
            by_cases e : j = k
            · rw [e, Hz4.out]; exact ⟨h2, h3⟩
            · exact Hex.out h1 j (by omega))
          have Hsp3 : Hid (∀ j, j < k + 1 → spanB (zs.getD j (0, 0, 0, 0)) = true) := Lib.hid (fun j hj => by
            by_cases e : j = k
            · rw [e, Hz4.out]; exact Hs4.out
            · exact Hsp.out j (by omega))
          have Htr : Hid ((trues zs bs (k + 1)).flatMap enc4 = (trues zs bs k).flatMap enc4 ++ enc4 (x, y, x, y)) := Lib.hid (by
            have e : pt (trueAt zs bs k) = (x, y, x, y) := by
              unfold trueAt; rw [if_neg (by have := Hy.out.1; omega), Hz4.out]; rfl
            rw [trues_succ, e, List.flatMap_append]
            simp)
          clear d0 d1 d2 d3 hx2 Hex2 Hex Hsp Hs4 Hz4 Hget
          have hlg := Bg.lt
          go_wp2_with (at_builtin; (refine list_own4 rfl _ _ rfl (g7 + 1) _ _ (trues zs bs k) rfl (own_keep hown (by repeat (first | with_reducible exact Below.refl _ _ | with_reducible assumption | with_reducible refine balloc ?_ _ | with_reducible refine bdrewN ?_ _ | with_reducible refine Below.drew ?_ | (with_reducible refine bset ?_ ?_ _; rotate_left; focus (first | assumption | omega | (simp; done) | (simp; omega))) | with_reducible refine bstep ?_ (by assumption) | assumption))) _ (x, y, x, y) rfl ?_ (by omega) ?_ ?_))
          · first | exact fun j u h => h | (intro j u h; simpa using h) | (intro j u h; rw [← h]; simp [enc4])
          · first | omega | (simp; omega)
          · intro gr cr w4 hown4 hb4
            rw [← Htr.out] at hown4
            have hbw4 : Below w.heap.size w w4 := by
              refine Below.trans ?_ (hb4.mono (by omega))
              exact (by repeat (first | with_reducible exact Below.refl _ _ | with_reducible assumption | with_reducible refine balloc ?_ _ | with_reducible refine bdrewN ?_ _ | with_reducible refine Below.drew ?_ | (with_reducible refine bset ?_ ?_ _; rotate_left; focus (first | assumption | omega | (simp; done) | (simp; omega))) | with_reducible refine bstep ?_ (by assumption) | assumption))
            have B0' : Cs w4 w.heap.size #[.int .i64 a, .int .i64 b, .int .i64 c, .int .i64 d] := by
              refine Cs.keepB ?_ hb4 (by omega)
              exact (by repeat (first | with_reducible assumption | (with_reducible refine Cs.new _ _ _ _ ?_; first | rfl | (simp; done)) | with_reducible refine Cs.alloc ?_ _ | with_reducible refine Cs.drewN ?_ _ | with_reducible refine Cs.drew ?_ | with_reducible refine Cs.set4 ?_ _ _ _ _ | (with_reducible refine Cs.other4 ?_ ?_ _ _ _ _; rotate_left; focus (first | assumption | omega | (simp; done) | (simp; omega))) | with_reducible refine Cs.set2 ?_ _ _ | (with_reducible refine Cs.other2 ?_ ?_ _ _; rotate_left; focus (first | assumption | omega | (simp; done) | (simp; omega))) | (with_reducible refine Cs.other ?_ ?_ _; rotate_left; focus (first | assumption | omega | (simp; done) | (simp; omega))) | with_reducible refine Cs.keep ?_ (by assumption) | assumption))
            have Bg' : Cs w4 g7 #[.int .i64 a, .int .i64 b, .int .i64 a, .int .i64 b] := by
              refine Cs.keepB ?_ hb4 (by omega)
              exact (by repeat (first | with_reducible assumption | (with_reducible refine Cs.new _ _ _ _ ?_; first | rfl | (simp; done)) | with_reducible refine Cs.alloc ?_ _ | with_reducible refine Cs.drewN ?_ _ | with_reducible refine Cs.drew ?_ | with_reducible refine Cs.set4 ?_ _ _ _ _ | (with_reducible refine Cs.other4 ?_ ?_ _ _ _ _; rotate_left; focus (first | assumption | omega | (simp; done) | (simp; omega))) | with_reducible refine Cs.set2 ?_ _ _ | (with_reducible refine Cs.other2 ?_ ?_ _ _; rotate_left; focus (first | assumption | omega | (simp; done) | (simp; omega))) | (with_reducible refine Cs.other ?_ ?_ _; rotate_left; focus (first | assumption | omega | (simp; done) | (simp; omega))) | with_reducible refine Cs.keep ?_ (by assumption) | assumption))
            clear hown hb4 hx3 B0 Bg hbw hbr cB0 fB0 lB0 cBg fBg lBg Htr
            go_wp2_with fail
            go_roundw
            case rel => exact ⟨k + 1, ex2, by omega, rfl, by go_num, Hex3, Hsp3, hown4, B0', Bg', hbw4⟩
            case measure => simp [intOf]; omega
    · obtain rfl : k = n := by omega
      have hzl := Hz.out.1
      have hsp : ∀ z ∈ zs, spanB z = true := fun z hz => by
        obtain ⟨i, hi, rfl⟩ := List.getElem_of_mem hz
        have := Hsp.out i (by omega)
        rw [List.getD_eq_getElem?_getD, List.getElem?_eq_getElem hi] at this
        exact this
      obtain ⟨t, v, u, e, f, g, C⟩ := cl_of (x := (a, b)) (bs := bs) Hs.out (by omega) hsp HX.out.1 HX.out.2
      rw [hzl] at C
      have hExz : ex = true → ∀ z ∈ zs, z.1 = z.2.2.1 ∧ z.2.1 = z.2.2.2 := fun h z hz => by
        obtain ⟨i, hi, rfl⟩ := List.getElem_of_mem hz
        have := Hex.out h i (by omega)
        rw [List.getD_eq_getElem?_getD, List.getElem?_eq_getElem hi] at this
        exact this
      obtain ⟨At, ct, rfl, hts⟩ := own_spans (trues_len zs bs k) hown
      obtain ⟨t1, t2, t3, t4⟩ := t
      obtain ⟨v1, v2, v3, v4⟩ := v
      obtain ⟨u1, u2, u3, u4⟩ := u
      obtain ⟨h1, h2, h3⟩ := (Um.spanB_iff _).1 Hs.out
      obtain ⟨a1, a2, b1, b2⟩ := Um.frac_bd (n := a) (d := b) h1
      obtain ⟨c1, c2, d1, d2⟩ := Um.frac_bd (n := c) (d := d) h2
      have kt := fun W hb => C.kt A k cap W (Hz.out.below hb) (by omega)
      have kv := fun W hs => C.kv At k ct W hs (by omega)
      have ku0 := C.ku
      have e04 := C.e04
      have f04 := C.f04
      have g040 := C.g04
      have st := C.st
      have sv := C.sv
      have vt := C.vt
      have su0 := C.su
      have lo0 := C.lo
      have hi0 := C.hi
      have hexact0 : e = 0 → g = 0 → ex = true → (u1, u2, u3, u4) = (a, b, c, d) := fun h1 h2 h3 => C.ex h1 h2 (hExz h3)
      generalize trues zs bs k = ts at *
      dsimp only at kt kv ku0 st sv vt su0 lo0 hi0
      clear C hExz hsp Hsp Hex hown h1 h2 h3 hkn hbr
      have cB0 := B0.c
      have fB0 := B0.f
      have lB0 := B0.lt
      have cBg := Bg.c
      have fBg := Bg.f
      have lBg := Bg.lt
      go_wp2_with fail
      refine (kt _ (by repeat (first | with_reducible exact Below.refl _ _ | with_reducible assumption | with_reducible refine balloc ?_ _ | with_reducible refine bdrewN ?_ _ | with_reducible refine Below.drew ?_ | (with_reducible refine bset ?_ ?_ _; rotate_left; focus (first | assumption | omega | (simp; done) | (simp; omega))) | with_reducible refine bstep ?_ (by assumption) | assumption))).mono ?_
      rintro e w2 ⟨rfl, hb2⟩
      replace B0 : Cs w2 (w.heap.size) #[.int .i64 a, .int .i64 b, .int .i64 c, .int .i64 d] := Cs.keep (by repeat (first | with_reducible assumption | (with_reducible refine Cs.new _ _ _ _ ?_; first | rfl | (simp; done)) | with_reducible refine Cs.alloc ?_ _ | with_reducible refine Cs.drewN ?_ _ | with_reducible refine Cs.drew ?_ | with_reducible refine Cs.set4 ?_ _ _ _ _ | (with_reducible refine Cs.other4 ?_ ?_ _ _ _ _; rotate_left; focus (first | assumption | omega | (simp; done) | (simp; omega))) | with_reducible refine Cs.set2 ?_ _ _ | (with_reducible refine Cs.other2 ?_ ?_ _ _; rotate_left; focus (first | assumption | omega | (simp; done) | (simp; omega))) | (with_reducible refine Cs.other ?_ ?_ _; rotate_left; focus (first | assumption | omega | (simp; done) | (simp; omega))) | with_reducible refine Cs.keep ?_ (by assumption) | assumption)) hb2
      replace Bg : Cs w2 g7 #[.int .i64 a, .int .i64 b, .int .i64 a, .int .i64 b] := Cs.keep (by repeat (first | with_reducible assumption | (with_reducible refine Cs.new _ _ _ _ ?_; first | rfl | (simp; done)) | with_reducible refine Cs.alloc ?_ _ | with_reducible refine Cs.drewN ?_ _ | with_reducible refine Cs.drew ?_ | with_reducible refine Cs.set4 ?_ _ _ _ _ | (with_reducible refine Cs.other4 ?_ ?_ _ _ _ _; rotate_left; focus (first | assumption | omega | (simp; done) | (simp; omega))) | with_reducible refine Cs.set2 ?_ _ _ | (with_reducible refine Cs.other2 ?_ ?_ _ _; rotate_left; focus (first | assumption | omega | (simp; done) | (simp; omega))) | (with_reducible refine Cs.other ?_ ?_ _; rotate_left; focus (first | assumption | omega | (simp; done) | (simp; omega))) | with_reducible refine Cs.keep ?_ (by assumption) | assumption)) hb2
      replace hts : Spans w2 At k ts := Spans.below hts (by repeat (first | with_reducible exact Below.refl _ _ | with_reducible assumption | with_reducible refine balloc ?_ _ | with_reducible refine bdrewN ?_ _ | with_reducible refine Below.drew ?_ | (with_reducible refine bset ?_ ?_ _; rotate_left; focus (first | assumption | omega | (simp; done) | (simp; omega))) | with_reducible refine bstep ?_ (by assumption) | assumption))
      replace hbw : Below w.heap.size w w2 := (by repeat (first | with_reducible exact Below.refl _ _ | with_reducible assumption | with_reducible refine balloc ?_ _ | with_reducible refine bdrewN ?_ _ | with_reducible refine Below.drew ?_ | (with_reducible refine bset ?_ ?_ _; rotate_left; focus (first | assumption | omega | (simp; done) | (simp; omega))) | with_reducible refine bstep ?_ (by assumption) | assumption))
      replace cB0 := B0.c
      replace fB0 := B0.f
      replace lB0 := B0.lt
      replace cBg := Bg.c
      replace fBg := Bg.f
      replace lBg := Bg.lt
      clear hb2
      clear kt
      rcases e04 with rfl | rfl
      · have ku := fun W (hb : Below w.heap.size w W) => ku0 rfl A k cap W (Hz.out.below hb) (by omega)
        have g04 := g040 rfl
        have st2 := st rfl
        have vt2 := vt rfl
        have su := su0 rfl
        have lo := lo0 rfl
        have hi := hi0 rfl
        have hexact := hexact0 rfl
        have kft := fun W => fine_any t1 t2 t3 t4 W
        rw [st2] at kft
        obtain ⟨o1, o2, o3⟩ := (Um.spanB_iff _).1 st2
        obtain ⟨p1, p2, p3, p4⟩ := Um.frac_bd (n := t1) (d := t2) o1
        obtain ⟨q1, q2, q3, q4⟩ := Um.frac_bd (n := t3) (d := t4) o2
        clear ku0 g040 st vt su0 lo0 hi0 hexact0 st2 o1 o2 o3
        go_wp2_with fail
        refine (kv _ (Spans.below hts (by repeat (first | with_reducible exact Below.refl _ _ | with_reducible assumption | with_reducible refine balloc ?_ _ | with_reducible refine bdrewN ?_ _ | with_reducible refine Below.drew ?_ | (with_reducible refine bset ?_ ?_ _; rotate_left; focus (first | assumption | omega | (simp; done) | (simp; omega))) | with_reducible refine bstep ?_ (by assumption) | assumption)))).mono ?_
        rintro e w3 ⟨rfl, hb3⟩
        try clear cBg fBg lBg
        try clear Bg
        try clear hts
        replace B0 : Cs w3 (w.heap.size) #[.int .i64 a, .int .i64 b, .int .i64 c, .int .i64 d] := Cs.keep (by repeat (first | with_reducible assumption | (with_reducible refine Cs.new _ _ _ _ ?_; first | rfl | (simp; done)) | with_reducible refine Cs.alloc ?_ _ | with_reducible refine Cs.drewN ?_ _ | with_reducible refine Cs.drew ?_ | with_reducible refine Cs.set4 ?_ _ _ _ _ | (with_reducible refine Cs.other4 ?_ ?_ _ _ _ _; rotate_left; focus (first | assumption | omega | (simp; done) | (simp; omega))) | with_reducible refine Cs.set2 ?_ _ _ | (with_reducible refine Cs.other2 ?_ ?_ _ _; rotate_left; focus (first | assumption | omega | (simp; done) | (simp; omega))) | (with_reducible refine Cs.other ?_ ?_ _; rotate_left; focus (first | assumption | omega | (simp; done) | (simp; omega))) | with_reducible refine Cs.keep ?_ (by assumption) | assumption)) hb3
        replace Bt : Cs w3 (w2.heap.size) #[.int .i64 t1, .int .i64 t2, .int .i64 t3, .int .i64 t4] := Cs.keep (by repeat (first | with_reducible assumption | (with_reducible refine Cs.new _ _ _ _ ?_; first | rfl | (simp; done)) | with_reducible refine Cs.alloc ?_ _ | with_reducible refine Cs.drewN ?_ _ | with_reducible refine Cs.drew ?_ | with_reducible refine Cs.set4 ?_ _ _ _ _ | (with_reducible refine Cs.other4 ?_ ?_ _ _ _ _; rotate_left; focus (first | assumption | omega | (simp; done) | (simp; omega))) | with_reducible refine Cs.set2 ?_ _ _ | (with_reducible refine Cs.other2 ?_ ?_ _ _; rotate_left; focus (first | assumption | omega | (simp; done) | (simp; omega))) | (with_reducible refine Cs.other ?_ ?_ _; rotate_left; focus (first | assumption | omega | (simp; done) | (simp; omega))) | with_reducible refine Cs.keep ?_ (by assumption) | assumption)) hb3
        replace hbw : Below w.heap.size w w3 := (by repeat (first | with_reducible exact Below.refl _ _ | with_reducible assumption | with_reducible refine balloc ?_ _ | with_reducible refine bdrewN ?_ _ | with_reducible refine Below.drew ?_ | (with_reducible refine bset ?_ ?_ _; rotate_left; focus (first | assumption | omega | (simp; done) | (simp; omega))) | with_reducible refine bstep ?_ (by assumption) | assumption))
        replace cB0 := B0.c
        replace fB0 := B0.f
        replace lB0 := B0.lt
        replace cBt := Bt.c
        replace fBt := Bt.f
        replace lBt := Bt.lt
        clear hb3
        clear kv
        go_upto_region 23 with fail
        go_cut [154] (fun s154 wx => s154 = .bool false ∧ ∃ W : World, Hid (W = wx) ∧ Below w3.heap.size w3 W)
        case first =>
          clear kw ku Hfa Hz Hy g04 su lo hi hexact a1 a2 b1 b2 c1 c2 d1 d2
          rcases f04 with rfl | rfl
          · obtain ⟨sv1, sv2, sv3⟩ := sv rfl
            obtain ⟨o1, o2, o3⟩ := (Um.spanB_iff _).1 sv1
            obtain ⟨r1, r2, r3, r4⟩ := Um.frac_bd (n := v1) (d := v2) o1
            have kfv := fun W => fine_any v1 v2 v3 v4 W
            rw [sv1] at kfv
            have kiv := fun W => rIn_any v1 v2 t1 t2 t3 t4 W (by omega) (by omega) (by omega) (by omega) (by omega) (by omega) (by omega) (by omega) (by omega) (by omega) (by omega) (by omega)
            rw [vt2 rfl] at kiv
            have e1 : v1 = v3 := sv2
            have e2 : v2 = v4 := sv3
            subst e1 e2
            clear sv sv1 sv2 sv3 o1 o2 o3 r1 r2 r3 r4 p1 p2 p3 p4 q1 q2 q3 q4 vt2
            go_wp2_with fail
            refine (kft _).mono ?_
            rintro e w4 ⟨rfl, hb4⟩
            replace Bt : Cs w4 (w2.heap.size) #[.int .i64 t1, .int .i64 t2, .int .i64 t3, .int .i64 t4] := Cs.keep (by repeat (first | with_reducible assumption | (with_reducible refine Cs.new _ _ _ _ ?_; first | rfl | (simp; done)) | with_reducible refine Cs.alloc ?_ _ | with_reducible refine Cs.drewN ?_ _ | with_reducible refine Cs.drew ?_ | with_reducible refine Cs.set4 ?_ _ _ _ _ | (with_reducible refine Cs.other4 ?_ ?_ _ _ _ _; rotate_left; focus (first | assumption | omega | (simp; done) | (simp; omega))) | with_reducible refine Cs.set2 ?_ _ _ | (with_reducible refine Cs.other2 ?_ ?_ _ _; rotate_left; focus (first | assumption | omega | (simp; done) | (simp; omega))) | (with_reducible refine Cs.other ?_ ?_ _; rotate_left; focus (first | assumption | omega | (simp; done) | (simp; omega))) | with_reducible refine Cs.keep ?_ (by assumption) | assumption)) hb4
            replace Bv : Cs w4 (w3.heap.size) #[.int .i64 v1, .int .i64 v2, .int .i64 v1, .int .i64 v2] := Cs.keep (by repeat (first | with_reducible assumption | (with_reducible refine Cs.new _ _ _ _ ?_; first | rfl | (simp; done)) | with_reducible refine Cs.alloc ?_ _ | with_reducible refine Cs.drewN ?_ _ | with_reducible refine Cs.drew ?_ | with_reducible refine Cs.set4 ?_ _ _ _ _ | (with_reducible refine Cs.other4 ?_ ?_ _ _ _ _; rotate_left; focus (first | assumption | omega | (simp; done) | (simp; omega))) | with_reducible refine Cs.set2 ?_ _ _ | (with_reducible refine Cs.other2 ?_ ?_ _ _; rotate_left; focus (first | assumption | omega | (simp; done) | (simp; omega))) | (with_reducible refine Cs.other ?_ ?_ _; rotate_left; focus (first | assumption | omega | (simp; done) | (simp; omega))) | with_reducible refine Cs.keep ?_ (by assumption) | assumption)) hb4
            replace hbw : Below w3.heap.size w3 w4 := (by repeat (first | with_reducible exact Below.refl _ _ | with_reducible assumption | with_reducible refine balloc ?_ _ | with_reducible refine bdrewN ?_ _ | with_reducible refine Below.drew ?_ | (with_reducible refine bset ?_ ?_ _; rotate_left; focus (first | assumption | omega | (simp; done) | (simp; omega))) | with_reducible refine bstep ?_ (by assumption) | assumption))
            replace cBt := Bt.c
            replace fBt := Bt.f
            replace lBt := Bt.lt
            replace cBv := Bv.c
            replace fBv := Bv.f
            replace lBv := Bv.lt
            clear hb4
            clear kft
            go_wp2_with fail
            refine (kfv _).mono ?_
            rintro e w5 ⟨rfl, hb5⟩
            replace Bt : Cs w5 (w2.heap.size) #[.int .i64 t1, .int .i64 t2, .int .i64 t3, .int .i64 t4] := Cs.keep (by repeat (first | with_reducible assumption | (with_reducible refine Cs.new _ _ _ _ ?_; first | rfl | (simp; done)) | with_reducible refine Cs.alloc ?_ _ | with_reducible refine Cs.drewN ?_ _ | with_reducible refine Cs.drew ?_ | with_reducible refine Cs.set4 ?_ _ _ _ _ | (with_reducible refine Cs.other4 ?_ ?_ _ _ _ _; rotate_left; focus (first | assumption | omega | (simp; done) | (simp; omega))) | with_reducible refine Cs.set2 ?_ _ _ | (with_reducible refine Cs.other2 ?_ ?_ _ _; rotate_left; focus (first | assumption | omega | (simp; done) | (simp; omega))) | (with_reducible refine Cs.other ?_ ?_ _; rotate_left; focus (first | assumption | omega | (simp; done) | (simp; omega))) | with_reducible refine Cs.keep ?_ (by assumption) | assumption)) hb5
            replace Bv : Cs w5 (w3.heap.size) #[.int .i64 v1, .int .i64 v2, .int .i64 v1, .int .i64 v2] := Cs.keep (by repeat (first | with_reducible assumption | (with_reducible refine Cs.new _ _ _ _ ?_; first | rfl | (simp; done)) | with_reducible refine Cs.alloc ?_ _ | with_reducible refine Cs.drewN ?_ _ | with_reducible refine Cs.drew ?_ | with_reducible refine Cs.set4 ?_ _ _ _ _ | (with_reducible refine Cs.other4 ?_ ?_ _ _ _ _; rotate_left; focus (first | assumption | omega | (simp; done) | (simp; omega))) | with_reducible refine Cs.set2 ?_ _ _ | (with_reducible refine Cs.other2 ?_ ?_ _ _; rotate_left; focus (first | assumption | omega | (simp; done) | (simp; omega))) | (with_reducible refine Cs.other ?_ ?_ _; rotate_left; focus (first | assumption | omega | (simp; done) | (simp; omega))) | with_reducible refine Cs.keep ?_ (by assumption) | assumption)) hb5
            replace hbw : Below w3.heap.size w3 w5 := (by repeat (first | with_reducible exact Below.refl _ _ | with_reducible assumption | with_reducible refine balloc ?_ _ | with_reducible refine bdrewN ?_ _ | with_reducible refine Below.drew ?_ | (with_reducible refine bset ?_ ?_ _; rotate_left; focus (first | assumption | omega | (simp; done) | (simp; omega))) | with_reducible refine bstep ?_ (by assumption) | assumption))
            replace cBt := Bt.c
            replace fBt := Bt.f
            replace lBt := Bt.lt
            replace cBv := Bv.c
            replace fBv := Bv.f
            replace lBv := Bv.lt
            clear hb5
            clear kfv
            go_wp2_with fail
            refine (kiv _).mono ?_
            rintro e w6 ⟨rfl, hb6⟩
            try clear cBt fBt lBt
            try clear Bt
            try clear cBv fBv lBv
            try clear Bv
            replace hbw : Below w3.heap.size w3 w6 := (by repeat (first | with_reducible exact Below.refl _ _ | with_reducible assumption | with_reducible refine balloc ?_ _ | with_reducible refine bdrewN ?_ _ | with_reducible refine Below.drew ?_ | (with_reducible refine bset ?_ ?_ _; rotate_left; focus (first | assumption | omega | (simp; done) | (simp; omega))) | with_reducible refine bstep ?_ (by assumption) | assumption))
            clear hb6
            go_wp2_with fail
            go_meet
            exact ⟨rfl, _, Lib.hid rfl, (by repeat (first | with_reducible exact Below.refl _ _ | with_reducible assumption | with_reducible refine balloc ?_ _ | with_reducible refine bdrewN ?_ _ | with_reducible refine Below.drew ?_ | (with_reducible refine bset ?_ ?_ _; rotate_left; focus (first | assumption | omega | (simp; done) | (simp; omega))) | with_reducible refine bstep ?_ (by assumption) | assumption))⟩
          · clear sv vt2 p1 p2 p3 p4 q1 q2 q3 q4
            go_wp2_with fail
            refine (kft _).mono ?_
            rintro e w4 ⟨rfl, hb4⟩
            try clear cBt fBt lBt
            try clear Bt
            replace hbw : Below w3.heap.size w3 w4 := (by repeat (first | with_reducible exact Below.refl _ _ | with_reducible assumption | with_reducible refine balloc ?_ _ | with_reducible refine bdrewN ?_ _ | with_reducible refine Below.drew ?_ | (with_reducible refine bset ?_ ?_ _; rotate_left; focus (first | assumption | omega | (simp; done) | (simp; omega))) | with_reducible refine bstep ?_ (by assumption) | assumption))
            clear hb4
            go_wp2_with fail
            go_meet
            exact ⟨rfl, _, Lib.hid rfl, (by repeat (first | with_reducible exact Below.refl _ _ | with_reducible assumption | with_reducible refine balloc ?_ _ | with_reducible refine bdrewN ?_ _ | with_reducible refine Below.drew ?_ | (with_reducible refine bset ?_ ?_ _; rotate_left; focus (first | assumption | omega | (simp; done) | (simp; omega))) | with_reducible refine bstep ?_ (by assumption) | assumption))⟩
        case rest =>
          obtain ⟨rfl, w6, Hw, hb6⟩ := hcut
          obtain rfl := Hw.out
          clear sv vt2 p1 p2 p3 p4 q1 q2 q3 q4 kft f04
          replace B0 : Cs w6 (w.heap.size) #[.int .i64 a, .int .i64 b, .int .i64 c, .int .i64 d] := Cs.keep (by repeat (first | with_reducible assumption | (with_reducible refine Cs.new _ _ _ _ ?_; first | rfl | (simp; done)) | with_reducible refine Cs.alloc ?_ _ | with_reducible refine Cs.drewN ?_ _ | with_reducible refine Cs.drew ?_ | with_reducible refine Cs.set4 ?_ _ _ _ _ | (with_reducible refine Cs.other4 ?_ ?_ _ _ _ _; rotate_left; focus (first | assumption | omega | (simp; done) | (simp; omega))) | with_reducible refine Cs.set2 ?_ _ _ | (with_reducible refine Cs.other2 ?_ ?_ _ _; rotate_left; focus (first | assumption | omega | (simp; done) | (simp; omega))) | (with_reducible refine Cs.other ?_ ?_ _; rotate_left; focus (first | assumption | omega | (simp; done) | (simp; omega))) | with_reducible refine Cs.keep ?_ (by assumption) | assumption)) hb6
          replace Bt : Cs w6 (w2.heap.size) #[.int .i64 t1, .int .i64 t2, .int .i64 t3, .int .i64 t4] := Cs.keep (by repeat (first | with_reducible assumption | (with_reducible refine Cs.new _ _ _ _ ?_; first | rfl | (simp; done)) | with_reducible refine Cs.alloc ?_ _ | with_reducible refine Cs.drewN ?_ _ | with_reducible refine Cs.drew ?_ | with_reducible refine Cs.set4 ?_ _ _ _ _ | (with_reducible refine Cs.other4 ?_ ?_ _ _ _ _; rotate_left; focus (first | assumption | omega | (simp; done) | (simp; omega))) | with_reducible refine Cs.set2 ?_ _ _ | (with_reducible refine Cs.other2 ?_ ?_ _ _; rotate_left; focus (first | assumption | omega | (simp; done) | (simp; omega))) | (with_reducible refine Cs.other ?_ ?_ _; rotate_left; focus (first | assumption | omega | (simp; done) | (simp; omega))) | with_reducible refine Cs.keep ?_ (by assumption) | assumption)) hb6
          replace hbw : Below w.heap.size w w6 := (by repeat (first | with_reducible exact Below.refl _ _ | with_reducible assumption | with_reducible refine balloc ?_ _ | with_reducible refine bdrewN ?_ _ | with_reducible refine Below.drew ?_ | (with_reducible refine bset ?_ ?_ _; rotate_left; focus (first | assumption | omega | (simp; done) | (simp; omega))) | with_reducible refine bstep ?_ (by assumption) | assumption))
          replace cB0 := B0.c
          replace fB0 := B0.f
          replace lB0 := B0.lt
          replace cBt := Bt.c
          replace fBt := Bt.f
          replace lBt := Bt.lt
          clear hb6
          go_wp2_with fail
          refine (ku _ (by repeat (first | with_reducible exact Below.refl _ _ | with_reducible assumption | with_reducible refine balloc ?_ _ | with_reducible refine bdrewN ?_ _ | with_reducible refine Below.drew ?_ | (with_reducible refine bset ?_ ?_ _; rotate_left; focus (first | assumption | omega | (simp; done) | (simp; omega))) | with_reducible refine bstep ?_ (by assumption) | assumption))).mono ?_
          rintro e w7 ⟨rfl, hb7⟩
          try clear cBt fBt lBt
          try clear Bt
          replace B0 : Cs w7 (w.heap.size) #[.int .i64 a, .int .i64 b, .int .i64 c, .int .i64 d] := Cs.keep (by repeat (first | with_reducible assumption | (with_reducible refine Cs.new _ _ _ _ ?_; first | rfl | (simp; done)) | with_reducible refine Cs.alloc ?_ _ | with_reducible refine Cs.drewN ?_ _ | with_reducible refine Cs.drew ?_ | with_reducible refine Cs.set4 ?_ _ _ _ _ | (with_reducible refine Cs.other4 ?_ ?_ _ _ _ _; rotate_left; focus (first | assumption | omega | (simp; done) | (simp; omega))) | with_reducible refine Cs.set2 ?_ _ _ | (with_reducible refine Cs.other2 ?_ ?_ _ _; rotate_left; focus (first | assumption | omega | (simp; done) | (simp; omega))) | (with_reducible refine Cs.other ?_ ?_ _; rotate_left; focus (first | assumption | omega | (simp; done) | (simp; omega))) | with_reducible refine Cs.keep ?_ (by assumption) | assumption)) hb7
          replace hbw : Below w.heap.size w w7 := (by repeat (first | with_reducible exact Below.refl _ _ | with_reducible assumption | with_reducible refine balloc ?_ _ | with_reducible refine bdrewN ?_ _ | with_reducible refine Below.drew ?_ | (with_reducible refine bset ?_ ?_ _; rotate_left; focus (first | assumption | omega | (simp; done) | (simp; omega))) | with_reducible refine bstep ?_ (by assumption) | assumption))
          replace cB0 := B0.c
          replace fB0 := B0.f
          replace lB0 := B0.lt
          clear hb7
          clear ku
          rcases g04 with rfl | rfl
          · have su2 := su rfl
            obtain ⟨o1, o2, o3⟩ := (Um.spanB_iff _).1 su2
            obtain ⟨p1, p2, p3, p4⟩ := Um.frac_bd (n := u1) (d := u2) o1
            obtain ⟨q1, q2, q3, q4⟩ := Um.frac_bd (n := u3) (d := u4) o2
            have kf := fun W => fine_any u1 u2 u3 u4 W
            rw [su2] at kf
            have ka := fun W => rIn_any a b u1 u2 u3 u4 W (by omega) (by omega) (by omega) (by omega) (by omega) (by omega) (by omega) (by omega) (by omega) (by omega) (by omega) (by omega)
            rw [lo rfl] at ka
            have kb := fun W => rIn_any c d u1 u2 u3 u4 W (by omega) (by omega) (by omega) (by omega) (by omega) (by omega) (by omega) (by omega) (by omega) (by omega) (by omega) (by omega)
            rw [hi rfl] at kb
            have Hx := Lib.hid (hexact rfl)
            clear o1 o2 o3 p1 p2 p3 p4 q1 q2 q3 q4 su2 su lo hi hexact a1 a2 b1 b2 c1 c2 d1 d2
            go_wp2_with fail
            refine (kf _).mono ?_
            rintro e w8 ⟨rfl, hb8⟩
            try clear cBt fBt lBt
            try clear Bt
            replace B0 : Cs w8 (w.heap.size) #[.int .i64 a, .int .i64 b, .int .i64 c, .int .i64 d] := Cs.keep (by repeat (first | with_reducible assumption | (with_reducible refine Cs.new _ _ _ _ ?_; first | rfl | (simp; done)) | with_reducible refine Cs.alloc ?_ _ | with_reducible refine Cs.drewN ?_ _ | with_reducible refine Cs.drew ?_ | with_reducible refine Cs.set4 ?_ _ _ _ _ | (with_reducible refine Cs.other4 ?_ ?_ _ _ _ _; rotate_left; focus (first | assumption | omega | (simp; done) | (simp; omega))) | with_reducible refine Cs.set2 ?_ _ _ | (with_reducible refine Cs.other2 ?_ ?_ _ _; rotate_left; focus (first | assumption | omega | (simp; done) | (simp; omega))) | (with_reducible refine Cs.other ?_ ?_ _; rotate_left; focus (first | assumption | omega | (simp; done) | (simp; omega))) | with_reducible refine Cs.keep ?_ (by assumption) | assumption)) hb8
            replace Bu : Cs w8 (w7.heap.size) #[.int .i64 u1, .int .i64 u2, .int .i64 u3, .int .i64 u4] := Cs.keep (by repeat (first | with_reducible assumption | (with_reducible refine Cs.new _ _ _ _ ?_; first | rfl | (simp; done)) | with_reducible refine Cs.alloc ?_ _ | with_reducible refine Cs.drewN ?_ _ | with_reducible refine Cs.drew ?_ | with_reducible refine Cs.set4 ?_ _ _ _ _ | (with_reducible refine Cs.other4 ?_ ?_ _ _ _ _; rotate_left; focus (first | assumption | omega | (simp; done) | (simp; omega))) | with_reducible refine Cs.set2 ?_ _ _ | (with_reducible refine Cs.other2 ?_ ?_ _ _; rotate_left; focus (first | assumption | omega | (simp; done) | (simp; omega))) | (with_reducible refine Cs.other ?_ ?_ _; rotate_left; focus (first | assumption | omega | (simp; done) | (simp; omega))) | with_reducible refine Cs.keep ?_ (by assumption) | assumption)) hb8
            replace hbw : Below w.heap.size w w8 := (by repeat (first | with_reducible exact Below.refl _ _ | with_reducible assumption | with_reducible refine balloc ?_ _ | with_reducible refine bdrewN ?_ _ | with_reducible refine Below.drew ?_ | (with_reducible refine bset ?_ ?_ _; rotate_left; focus (first | assumption | omega | (simp; done) | (simp; omega))) | with_reducible refine bstep ?_ (by assumption) | assumption))
            replace cB0 := B0.c
            replace fB0 := B0.f
            replace lB0 := B0.lt
            replace cBu := Bu.c
            replace fBu := Bu.f
            replace lBu := Bu.lt
            clear hb8
            clear kf
            go_wp2_with fail
            refine (ka _).mono ?_
            rintro e w9 ⟨rfl, hb9⟩
            try clear cBt fBt lBt
            try clear Bt
            replace B0 : Cs w9 (w.heap.size) #[.int .i64 a, .int .i64 b, .int .i64 c, .int .i64 d] := Cs.keep (by repeat (first | with_reducible assumption | (with_reducible refine Cs.new _ _ _ _ ?_; first | rfl | (simp; done)) | with_reducible refine Cs.alloc ?_ _ | with_reducible refine Cs.drewN ?_ _ | with_reducible refine Cs.drew ?_ | with_reducible refine Cs.set4 ?_ _ _ _ _ | (with_reducible refine Cs.other4 ?_ ?_ _ _ _ _; rotate_left; focus (first | assumption | omega | (simp; done) | (simp; omega))) | with_reducible refine Cs.set2 ?_ _ _ | (with_reducible refine Cs.other2 ?_ ?_ _ _; rotate_left; focus (first | assumption | omega | (simp; done) | (simp; omega))) | (with_reducible refine Cs.other ?_ ?_ _; rotate_left; focus (first | assumption | omega | (simp; done) | (simp; omega))) | with_reducible refine Cs.keep ?_ (by assumption) | assumption)) hb9
            replace Bu : Cs w9 (w7.heap.size) #[.int .i64 u1, .int .i64 u2, .int .i64 u3, .int .i64 u4] := Cs.keep (by repeat (first | with_reducible assumption | (with_reducible refine Cs.new _ _ _ _ ?_; first | rfl | (simp; done)) | with_reducible refine Cs.alloc ?_ _ | with_reducible refine Cs.drewN ?_ _ | with_reducible refine Cs.drew ?_ | with_reducible refine Cs.set4 ?_ _ _ _ _ | (with_reducible refine Cs.other4 ?_ ?_ _ _ _ _; rotate_left; focus (first | assumption | omega | (simp; done) | (simp; omega))) | with_reducible refine Cs.set2 ?_ _ _ | (with_reducible refine Cs.other2 ?_ ?_ _ _; rotate_left; focus (first | assumption | omega | (simp; done) | (simp; omega))) | (with_reducible refine Cs.other ?_ ?_ _; rotate_left; focus (first | assumption | omega | (simp; done) | (simp; omega))) | with_reducible refine Cs.keep ?_ (by assumption) | assumption)) hb9
            replace hbw : Below w.heap.size w w9 := (by repeat (first | with_reducible exact Below.refl _ _ | with_reducible assumption | with_reducible refine balloc ?_ _ | with_reducible refine bdrewN ?_ _ | with_reducible refine Below.drew ?_ | (with_reducible refine bset ?_ ?_ _; rotate_left; focus (first | assumption | omega | (simp; done) | (simp; omega))) | with_reducible refine bstep ?_ (by assumption) | assumption))
            replace cB0 := B0.c
            replace fB0 := B0.f
            replace lB0 := B0.lt
            replace cBu := Bu.c
            replace fBu := Bu.f
            replace lBu := Bu.lt
            clear hb9
            clear ka
            go_wp2_with fail
            refine (kb _).mono ?_
            rintro e w10 ⟨rfl, hb10⟩
            try clear cBt fBt lBt
            try clear Bt
            replace B0 : Cs w10 (w.heap.size) #[.int .i64 a, .int .i64 b, .int .i64 c, .int .i64 d] := Cs.keep (by repeat (first | with_reducible assumption | (with_reducible refine Cs.new _ _ _ _ ?_; first | rfl | (simp; done)) | with_reducible refine Cs.alloc ?_ _ | with_reducible refine Cs.drewN ?_ _ | with_reducible refine Cs.drew ?_ | with_reducible refine Cs.set4 ?_ _ _ _ _ | (with_reducible refine Cs.other4 ?_ ?_ _ _ _ _; rotate_left; focus (first | assumption | omega | (simp; done) | (simp; omega))) | with_reducible refine Cs.set2 ?_ _ _ | (with_reducible refine Cs.other2 ?_ ?_ _ _; rotate_left; focus (first | assumption | omega | (simp; done) | (simp; omega))) | (with_reducible refine Cs.other ?_ ?_ _; rotate_left; focus (first | assumption | omega | (simp; done) | (simp; omega))) | with_reducible refine Cs.keep ?_ (by assumption) | assumption)) hb10
            replace Bu : Cs w10 (w7.heap.size) #[.int .i64 u1, .int .i64 u2, .int .i64 u3, .int .i64 u4] := Cs.keep (by repeat (first | with_reducible assumption | (with_reducible refine Cs.new _ _ _ _ ?_; first | rfl | (simp; done)) | with_reducible refine Cs.alloc ?_ _ | with_reducible refine Cs.drewN ?_ _ | with_reducible refine Cs.drew ?_ | with_reducible refine Cs.set4 ?_ _ _ _ _ | (with_reducible refine Cs.other4 ?_ ?_ _ _ _ _; rotate_left; focus (first | assumption | omega | (simp; done) | (simp; omega))) | with_reducible refine Cs.set2 ?_ _ _ | (with_reducible refine Cs.other2 ?_ ?_ _ _; rotate_left; focus (first | assumption | omega | (simp; done) | (simp; omega))) | (with_reducible refine Cs.other ?_ ?_ _; rotate_left; focus (first | assumption | omega | (simp; done) | (simp; omega))) | with_reducible refine Cs.keep ?_ (by assumption) | assumption)) hb10
            replace hbw : Below w.heap.size w w10 := (by repeat (first | with_reducible exact Below.refl _ _ | with_reducible assumption | with_reducible refine balloc ?_ _ | with_reducible refine bdrewN ?_ _ | with_reducible refine Below.drew ?_ | (with_reducible refine bset ?_ ?_ _; rotate_left; focus (first | assumption | omega | (simp; done) | (simp; omega))) | with_reducible refine bstep ?_ (by assumption) | assumption))
            replace cB0 := B0.c
            replace fB0 := B0.f
            replace lB0 := B0.lt
            replace cBu := Bu.c
            replace fBu := Bu.f
            replace lBu := Bu.lt
            clear hb10
            clear kb
            cases ex with
            | true =>
              have hu := Hx.out rfl
              injection hu with h1 hu
              injection hu with h2 hu
              injection hu with h3 h4
              have h1 := h1.symm
              have h2 := h2.symm
              have h3 := h3.symm
              have h4 := h4.symm
              subst h1 h2 h3 h4
              clear Hx
              go_wp2_with fail
              refine (kw _ (Hfa.out.below (by repeat (first | with_reducible exact Below.refl _ _ | with_reducible assumption | with_reducible refine balloc ?_ _ | with_reducible refine bdrewN ?_ _ | with_reducible refine Below.drew ?_ | (with_reducible refine bset ?_ ?_ _; rotate_left; focus (first | assumption | omega | (simp; done) | (simp; omega))) | with_reducible refine bstep ?_ (by assumption) | assumption)))).mono ?_
              rintro e w11 ⟨rfl, hb11⟩
              try clear cB0 fB0 lB0
              try clear B0
              try clear cBt fBt lBt
              try clear Bt
              try clear cBu fBu lBu
              try clear Bu
              replace hbw : Below w.heap.size w w11 := (by repeat (first | with_reducible exact Below.refl _ _ | with_reducible assumption | with_reducible refine balloc ?_ _ | with_reducible refine bdrewN ?_ _ | with_reducible refine Below.drew ?_ | (with_reducible refine bset ?_ ?_ _; rotate_left; focus (first | assumption | omega | (simp; done) | (simp; omega))) | with_reducible refine bstep ?_ (by assumption) | assumption))
              clear hb11
              go_wp2_with fail
              go_ret
              exact ⟨rfl, (by repeat (first | with_reducible exact Below.refl _ _ | with_reducible assumption | with_reducible refine balloc ?_ _ | with_reducible refine bdrewN ?_ _ | with_reducible refine Below.drew ?_ | (with_reducible refine bset ?_ ?_ _; rotate_left; focus (first | assumption | omega | (simp; done) | (simp; omega))) | with_reducible refine bstep ?_ (by assumption) | assumption))⟩
            | false =>
              clear Hx
              go_wp2_with fail
              refine (kw _ (Hfa.out.below (by repeat (first | with_reducible exact Below.refl _ _ | with_reducible assumption | with_reducible refine balloc ?_ _ | with_reducible refine bdrewN ?_ _ | with_reducible refine Below.drew ?_ | (with_reducible refine bset ?_ ?_ _; rotate_left; focus (first | assumption | omega | (simp; done) | (simp; omega))) | with_reducible refine bstep ?_ (by assumption) | assumption)))).mono ?_
              rintro e w11 ⟨rfl, hb11⟩
              try clear cB0 fB0 lB0
              try clear B0
              try clear cBt fBt lBt
              try clear Bt
              try clear cBu fBu lBu
              try clear Bu
              replace hbw : Below w.heap.size w w11 := (by repeat (first | with_reducible exact Below.refl _ _ | with_reducible assumption | with_reducible refine balloc ?_ _ | with_reducible refine bdrewN ?_ _ | with_reducible refine Below.drew ?_ | (with_reducible refine bset ?_ ?_ _; rotate_left; focus (first | assumption | omega | (simp; done) | (simp; omega))) | with_reducible refine bstep ?_ (by assumption) | assumption))
              clear hb11
              go_wp2_with fail
              go_ret
              exact ⟨rfl, (by repeat (first | with_reducible exact Below.refl _ _ | with_reducible assumption | with_reducible refine balloc ?_ _ | with_reducible refine bdrewN ?_ _ | with_reducible refine Below.drew ?_ | (with_reducible refine bset ?_ ?_ _; rotate_left; focus (first | assumption | omega | (simp; done) | (simp; omega))) | with_reducible refine bstep ?_ (by assumption) | assumption))⟩
          · clear su lo hi hexact a1 a2 b1 b2 c1 c2 d1 d2
            go_wp2_with fail
            refine (kw _ (Hfa.out.below (by repeat (first | with_reducible exact Below.refl _ _ | with_reducible assumption | with_reducible refine balloc ?_ _ | with_reducible refine bdrewN ?_ _ | with_reducible refine Below.drew ?_ | (with_reducible refine bset ?_ ?_ _; rotate_left; focus (first | assumption | omega | (simp; done) | (simp; omega))) | with_reducible refine bstep ?_ (by assumption) | assumption)))).mono ?_
            rintro e w8 ⟨rfl, hb8⟩
            try clear cB0 fB0 lB0
            try clear B0
            try clear cBt fBt lBt
            try clear Bt
            try clear cBu fBu lBu
            try clear Bu
            replace hbw : Below w.heap.size w w8 := (by repeat (first | with_reducible exact Below.refl _ _ | with_reducible assumption | with_reducible refine balloc ?_ _ | with_reducible refine bdrewN ?_ _ | with_reducible refine Below.drew ?_ | (with_reducible refine bset ?_ ?_ _; rotate_left; focus (first | assumption | omega | (simp; done) | (simp; omega))) | with_reducible refine bstep ?_ (by assumption) | assumption))
            clear hb8
            go_wp2_with fail
            go_ret
            exact ⟨rfl, (by repeat (first | with_reducible exact Below.refl _ _ | with_reducible assumption | with_reducible refine balloc ?_ _ | with_reducible refine bdrewN ?_ _ | with_reducible refine Below.drew ?_ | (with_reducible refine bset ?_ ?_ _; rotate_left; focus (first | assumption | omega | (simp; done) | (simp; omega))) | with_reducible refine bstep ?_ (by assumption) | assumption))⟩
      · clear ku0 g040 st vt su0 lo0 hi0 hexact0 kv sv
        go_wp2_with fail
        refine (kw _ (Hfa.out.below (by repeat (first | with_reducible exact Below.refl _ _ | with_reducible assumption | with_reducible refine balloc ?_ _ | with_reducible refine bdrewN ?_ _ | with_reducible refine Below.drew ?_ | (with_reducible refine bset ?_ ?_ _; rotate_left; focus (first | assumption | omega | (simp; done) | (simp; omega))) | with_reducible refine bstep ?_ (by assumption) | assumption)))).mono ?_
        rintro e w3 ⟨rfl, hb3⟩
        try clear cB0 fB0 lB0
        try clear B0
        try clear cBt fBt lBt
        try clear Bt
        try clear cBu fBu lBu
        try clear Bu
        replace hbw : Below w.heap.size w w3 := (by repeat (first | with_reducible exact Below.refl _ _ | with_reducible assumption | with_reducible refine balloc ?_ _ | with_reducible refine bdrewN ?_ _ | with_reducible refine Below.drew ?_ | (with_reducible refine bset ?_ ?_ _; rotate_left; focus (first | assumption | omega | (simp; done) | (simp; omega))) | with_reducible refine bstep ?_ (by assumption) | assumption))
        clear hb3
        go_wp2_with fail
        go_ret
        exact ⟨rfl, (by repeat (first | with_reducible exact Below.refl _ _ | with_reducible assumption | with_reducible refine balloc ?_ _ | with_reducible refine bdrewN ?_ _ | with_reducible refine Below.drew ?_ | (with_reducible refine bset ?_ ?_ _; rotate_left; focus (first | assumption | omega | (simp; done) | (simp; omega))) | with_reducible refine bstep ?_ (by assumption) | assumption))⟩

end Go.Proofs.YtkjoamindolonaaDoor
