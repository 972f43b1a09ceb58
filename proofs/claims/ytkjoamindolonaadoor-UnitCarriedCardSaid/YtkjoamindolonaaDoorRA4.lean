/- Walks of the reference of layer 1: the errors of decrees; a fraction in a span. -/
import Derived.Test.YtkjoamindolonaaDoorRA3
import Derived.Test.YtkjoamindolonaaDoorUA4
namespace Go.Proofs.YtkjoamindolonaaDoor
open Go.RowKit Go.Shelf
set_option linter.unusedSimpArgs false
set_option linter.unusedVariables false
open Um (frac S4 spanB spanE)

set_option maxHeartbeats 1000000 in
theorem decrees_any (a b c d : Int) (A : Option Addr) (n cap : Nat) (zs : List S4) (w : World) (hz : Spans w A n zs) (hn : n ≤ 9223372036854775807) :
    Calls Tryd.prog 46 #[.agg #[.int .i64 a, .int .i64 b, .int .i64 c, .int .i64 d], .slice A n cap] w fun e w' => e = .returned (.int .i64 (decE (a, b, c, d) zs)) ∧ Below w.heap.size w w' := by
  have hl := hz.1
  unfold decE
  rw [hl]
  cases hs : spanB (a, b, c, d) with
  | false =>
    have k1 := fun W => rcheckSpan_bad a b c d W hs
    clear hs hl hz
    rw [if_pos rfl]
    go_enter Tryd.func46, Tryd.ntmps46
    go_wp2_with fail
    refine (k1 _).mono ?_
    rintro e w1 ⟨rfl, hb1⟩
    replace B0 : Cs w1 (w.heap.size) #[.int .i64 a, .int .i64 b, .int .i64 c, .int .i64 d] := Cs.keep (by repeat (first | with_reducible assumption | (with_reducible refine Cs.new _ _ _ _ ?_; first | rfl | (simp; done)) | with_reducible refine Cs.alloc ?_ _ | with_reducible refine Cs.drewN ?_ _ | with_reducible refine Cs.drew ?_ | with_reducible refine Cs.set4 ?_ _ _ _ _ | (with_reducible refine Cs.other4 ?_ ?_ _ _ _ _; rotate_left; focus (first | assumption | omega | (simp; done) | (simp; omega))) | with_reducible refine Cs.set2 ?_ _ _ | (with_reducible refine Cs.other2 ?_ ?_ _ _; rotate_left; focus (first | assumption | omega | (simp; done) | (simp; omega))) | (with_reducible refine Cs.other ?_ ?_ _; rotate_left; focus (first | assumption | omega | (simp; done) | (simp; omega))) | with_reducible refine Cs.keep ?_ (by assumption) | assumption)) hb1
    replace hbw : Below w.heap.size w w1 := (by repeat (first | with_reducible exact Below.refl _ _ | with_reducible assumption | with_reducible refine balloc ?_ _ | with_reducible refine bdrewN ?_ _ | with_reducible refine Below.drew ?_ | (with_reducible refine bset ?_ ?_ _; rotate_left; focus (first | assumption | omega | (simp; done) | (simp; omega))) | with_reducible refine bstep ?_ (by assumption) | assumption))
    replace cB0 := B0.c
    replace fB0 := B0.f
    replace lB0 := B0.lt
    clear hb1
    go_wp2_with fail
    refine (k1 _).mono ?_
    rintro e w2 ⟨rfl, hb2⟩
    try clear cB0 fB0 lB0
    try clear B0
    replace hbw : Below w.heap.size w w2 := (by repeat (first | with_reducible exact Below.refl _ _ | with_reducible assumption | with_reducible refine balloc ?_ _ | with_reducible refine bdrewN ?_ _ | with_reducible refine Below.drew ?_ | (with_reducible refine bset ?_ ?_ _; rotate_left; focus (first | assumption | omega | (simp; done) | (simp; omega))) | with_reducible refine bstep ?_ (by assumption) | assumption))
    clear hb2
    go_wp2_with fail
    go_ret
    exact ⟨rfl, (by repeat (first | with_reducible exact Below.refl _ _ | with_reducible assumption | with_reducible refine balloc ?_ _ | with_reducible refine bdrewN ?_ _ | with_reducible refine Below.drew ?_ | (with_reducible refine bset ?_ ?_ _; rotate_left; focus (first | assumption | omega | (simp; done) | (simp; omega))) | with_reducible refine bstep ?_ (by assumption) | assumption))⟩
  | true =>
    have k1 := fun W => rcheckSpan_ok a b c d W hs
    clear hs
    rw [if_neg (by decide)]
    by_cases h8 : 8 < n
    · rw [if_pos h8]
      have h8i : (8 : Int) < (n : Int) := by omega
      clear hz hl
      go_enter Tryd.func46, Tryd.ntmps46
      go_wp2_with fail
      refine (k1 _).mono ?_
      rintro e w1 ⟨rfl, hb1⟩
      replace hbw : Below w.heap.size w w1 := (by repeat (first | with_reducible exact Below.refl _ _ | with_reducible assumption | with_reducible refine balloc ?_ _ | with_reducible refine bdrewN ?_ _ | with_reducible refine Below.drew ?_ | (with_reducible refine bset ?_ ?_ _; rotate_left; focus (first | assumption | omega | (simp; done) | (simp; omega))) | with_reducible refine bstep ?_ (by assumption) | assumption))
      clear hb1
      go_wp2_with fail
      go_ret
      exact ⟨rfl, (by repeat (first | with_reducible exact Below.refl _ _ | with_reducible assumption | with_reducible refine balloc ?_ _ | with_reducible refine bdrewN ?_ _ | with_reducible refine Below.drew ?_ | (with_reducible refine bset ?_ ?_ _; rotate_left; focus (first | assumption | omega | (simp; done) | (simp; omega))) | with_reducible refine bstep ?_ (by assumption) | assumption))⟩
    · rw [if_neg h8]
      have h8i : ¬ (8 : Int) < (n : Int) := by omega
      have Hz := Lib.hid hz
      clear hz
      generalize hr : zs.any (fun d => !spanB d) = r
      have Hr := Lib.hid hr
      generalize hq : (if r = true then (2 : Int) else 0) = q
      have Hq := Lib.hid hq
      clear hq
      have Hl := Lib.hid hl
      clear hr hl
      go_enter Tryd.func46, Tryd.ntmps46
      go_wp2_with fail
      refine (k1 _).mono ?_
      rintro e w1 ⟨rfl, hb1⟩
      replace hbw : Below w.heap.size w w1 := (by repeat (first | with_reducible exact Below.refl _ _ | with_reducible assumption | with_reducible refine balloc ?_ _ | with_reducible refine bdrewN ?_ _ | with_reducible refine Below.drew ?_ | (with_reducible refine bset ?_ ?_ _; rotate_left; focus (first | assumption | omega | (simp; done) | (simp; omega))) | with_reducible refine bstep ?_ (by assumption) | assumption))
      clear hb1
      clear k1
      go_wp2_with fail
      go_loopw [5] (fun iv wr => ∃ k : Nat, k ≤ n ∧ iv = .int .i64 k ∧ Hid ((zs.drop k).any (fun d => !spanB d) = r) ∧ Below w.heap.size w wr) (fun iv _ => n - (intOf iv).toNat)
      case atStart => exact ⟨0, Nat.zero_le _, rfl, Lib.hid (by simpa using Hr.out), hbw⟩
      case round =>
        clear hbw
        obtain ⟨k, hk, rfl, Hk, hbw⟩ := hrel
        by_cases hkn : k < n
        · obtain ⟨b', off, x, y, z, u, rfl, hget, hdrop, g1, g2, g3, g4⟩ := Hz.out.at_ hbw hkn
          have Hd := Lib.hid hdrop
          clear hget hdrop
          cases hx : spanB (x, y, z, u) with
          | true =>
            have k2 := fun W => rcheckSpan_ok x y z u W hx
            have Hx := Lib.hid hx
            clear hx
            have Hk2 : Hid ((zs.drop (k + 1)).any (fun d => !spanB d) = r) := Lib.hid (by rw [← Hk.out, Hd.out, List.any_cons, Hx.out]; simp)
            clear Hk Hd Hx
            go_wp2_with fail
            refine (k2 _).mono ?_
            rintro e w2 ⟨rfl, hb2⟩
            replace hbw : Below w.heap.size w w2 := (by repeat (first | with_reducible exact Below.refl _ _ | with_reducible assumption | with_reducible refine balloc ?_ _ | with_reducible refine bdrewN ?_ _ | with_reducible refine Below.drew ?_ | (with_reducible refine bset ?_ ?_ _; rotate_left; focus (first | assumption | omega | (simp; done) | (simp; omega))) | with_reducible refine bstep ?_ (by assumption) | assumption))
            clear hb2
            go_wp2_with fail
            go_roundw
            case rel => exact ⟨k + 1, by omega, by go_num, Hk2, hbw⟩
            case measure => simp [intOf]; omega
          | false =>
            have k2 := fun W => rcheckSpan_bad x y z u W hx
            have hr2 : Hid (q = 2) := Lib.hid (by rw [← Hq.out, ← Hk.out, Hd.out, List.any_cons, hx]; simp)
            clear Hk Hd hx
            go_wp2_with fail
            refine (k2 _).mono ?_
            rintro e w2 ⟨rfl, hb2⟩
            replace hbw : Below w.heap.size w w2 := (by repeat (first | with_reducible exact Below.refl _ _ | with_reducible assumption | with_reducible refine balloc ?_ _ | with_reducible refine bdrewN ?_ _ | with_reducible refine Below.drew ?_ | (with_reducible refine bset ?_ ?_ _; rotate_left; focus (first | assumption | omega | (simp; done) | (simp; omega))) | with_reducible refine bstep ?_ (by assumption) | assumption))
            clear hb2
            go_wp2_with fail
            go_ret
            exact ⟨ret_int hr2.out.symm, hbw⟩
        · obtain rfl : k = n := by omega
          have hr2 : Hid (q = 0) := Lib.hid (by
            rw [← Hq.out, ← Hk.out, List.drop_eq_nil_of_le (by have := Hl.out; omega)]; simp)
          go_wp2_with fail
          go_ret
          exact ⟨ret_int hr2.out.symm, hbw⟩

/-- In: is a fraction in a span? -/
def inB (n d : Int) (s : S4) : Bool := decide (s.1 * d ≤ n * s.2.1) && decide (n * s.2.2.2 ≤ s.2.2.1 * d)

set_option maxHeartbeats 1000000 in
theorem rIn_any (n d a b c e : Int) (w : World) (h1 : 0 ≤ n) (h2 : 0 ≤ d) (h3 : 0 ≤ a) (h4 : 0 ≤ b) (h5 : 0 ≤ c) (h6 : 0 ≤ e) (H1 : n ≤ 2000000000) (H2 : d ≤ 2000000000) (H3 : a ≤ 2000000000) (H4 : b ≤ 2000000000) (H5 : c ≤ 2000000000) (H6 : e ≤ 2000000000) :
    Calls Tryd.prog 25 #[.agg #[.int .i64 n, .int .i64 d], .agg #[.int .i64 a, .int .i64 b, .int .i64 c, .int .i64 e]] w fun ed w' => ed = .returned (.bool (inB n d (a, b, c, e))) ∧ Below w.heap.size w w' := by
  have k1 := fun W => rless_any n d a b W h1 h2 h3 h4 H1 H2 H3 H4
  have k2 := fun W => rless_any c e n d W h5 h6 h1 h2 H5 H6 H1 H2
  have e1 : decide (a * d ≤ n * b) = !decide (n * b < a * d) := by rw [Bool.eq_iff_iff]; simp
  have e2 : decide (n * e ≤ c * d) = !decide (c * d < n * e) := by rw [Bool.eq_iff_iff]; simp
  unfold inB
  simp only
  rw [e1, e2]
  clear e1 e2
  generalize decide (n * b < a * d) = p at *
  generalize decide (c * d < n * e) = q at *
  cases p with
  | true =>
    go_enter Tryd.func25, Tryd.ntmps25
    go_wp2_with fail
    refine (k1 _).mono ?_
    rintro e w1 ⟨rfl, hb1⟩
    replace hbw : Below w.heap.size w w1 := (by repeat (first | with_reducible exact Below.refl _ _ | with_reducible assumption | with_reducible refine balloc ?_ _ | with_reducible refine bdrewN ?_ _ | with_reducible refine Below.drew ?_ | (with_reducible refine bset ?_ ?_ _; rotate_left; focus (first | assumption | omega | (simp; done) | (simp; omega))) | with_reducible refine bstep ?_ (by assumption) | assumption))
    clear hb1
    go_wp2_with fail
    go_ret
    exact ⟨by simp, (by repeat (first | with_reducible exact Below.refl _ _ | with_reducible assumption | with_reducible refine balloc ?_ _ | with_reducible refine bdrewN ?_ _ | with_reducible refine Below.drew ?_ | (with_reducible refine bset ?_ ?_ _; rotate_left; focus (first | assumption | omega | (simp; done) | (simp; omega))) | with_reducible refine bstep ?_ (by assumption) | assumption))⟩
  | false =>
    go_enter Tryd.func25, Tryd.ntmps25
    go_wp2_with fail
    refine (k1 _).mono ?_
    rintro e w1 ⟨rfl, hb1⟩
    replace B0 : Cs w1 (w.heap.size) #[.int .i64 n, .int .i64 d] := Cs.keep (by repeat (first | with_reducible assumption | (with_reducible refine Cs.new _ _ _ _ ?_; first | rfl | (simp; done)) | with_reducible refine Cs.alloc ?_ _ | with_reducible refine Cs.drewN ?_ _ | with_reducible refine Cs.drew ?_ | with_reducible refine Cs.set4 ?_ _ _ _ _ | (with_reducible refine Cs.other4 ?_ ?_ _ _ _ _; rotate_left; focus (first | assumption | omega | (simp; done) | (simp; omega))) | with_reducible refine Cs.set2 ?_ _ _ | (with_reducible refine Cs.other2 ?_ ?_ _ _; rotate_left; focus (first | assumption | omega | (simp; done) | (simp; omega))) | (with_reducible refine Cs.other ?_ ?_ _; rotate_left; focus (first | assumption | omega | (simp; done) | (simp; omega))) | with_reducible refine Cs.keep ?_ (by assumption) | assumption)) hb1
    replace B1 : Cs w1 (w.heap.size + 1) #[.int .i64 a, .int .i64 b, .int .i64 c, .int .i64 e] := Cs.keep (by repeat (first | with_reducible assumption | (with_reducible refine Cs.new _ _ _ _ ?_; first | rfl | (simp; done)) | with_reducible refine Cs.alloc ?_ _ | with_reducible refine Cs.drewN ?_ _ | with_reducible refine Cs.drew ?_ | with_reducible refine Cs.set4 ?_ _ _ _ _ | (with_reducible refine Cs.other4 ?_ ?_ _ _ _ _; rotate_left; focus (first | assumption | omega | (simp; done) | (simp; omega))) | with_reducible refine Cs.set2 ?_ _ _ | (with_reducible refine Cs.other2 ?_ ?_ _ _; rotate_left; focus (first | assumption | omega | (simp; done) | (simp; omega))) | (with_reducible refine Cs.other ?_ ?_ _; rotate_left; focus (first | assumption | omega | (simp; done) | (simp; omega))) | with_reducible refine Cs.keep ?_ (by assumption) | assumption)) hb1
    replace hbw : Below w.heap.size w w1 := (by repeat (first | with_reducible exact Below.refl _ _ | with_reducible assumption | with_reducible refine balloc ?_ _ | with_reducible refine bdrewN ?_ _ | with_reducible refine Below.drew ?_ | (with_reducible refine bset ?_ ?_ _; rotate_left; focus (first | assumption | omega | (simp; done) | (simp; omega))) | with_reducible refine bstep ?_ (by assumption) | assumption))
    replace cB0 := B0.c
    replace fB0 := B0.f
    replace lB0 := B0.lt
    replace cB1 := B1.c
    replace fB1 := B1.f
    replace lB1 := B1.lt
    clear hb1
    go_wp2_with fail
    refine (k2 _).mono ?_
    rintro e w2 ⟨rfl, hb2⟩
    try clear cB0 fB0 lB0
    try clear B0
    try clear cB1 fB1 lB1
    try clear B1
    replace hbw : Below w.heap.size w w2 := (by repeat (first | with_reducible exact Below.refl _ _ | with_reducible assumption | with_reducible refine balloc ?_ _ | with_reducible refine bdrewN ?_ _ | with_reducible refine Below.drew ?_ | (with_reducible refine bset ?_ ?_ _; rotate_left; focus (first | assumption | omega | (simp; done) | (simp; omega))) | with_reducible refine bstep ?_ (by assumption) | assumption))
    clear hb2
    go_wp2_with fail
    go_ret
    exact ⟨by simp, (by repeat (first | with_reducible exact Below.refl _ _ | with_reducible assumption | with_reducible refine balloc ?_ _ | with_reducible refine bdrewN ?_ _ | with_reducible refine Below.drew ?_ | (with_reducible refine bset ?_ ?_ _; rotate_left; focus (first | assumption | omega | (simp; done) | (simp; omega))) | with_reducible refine bstep ?_ (by assumption) | assumption))⟩

end Go.Proofs.YtkjoamindolonaaDoor
