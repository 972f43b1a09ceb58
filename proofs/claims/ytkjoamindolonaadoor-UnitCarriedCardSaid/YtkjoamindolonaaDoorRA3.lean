/- Walks of the reference of units: products. -/
import Derived.Test.YtkjoamindolonaaDoorRA2
import Derived.Test.YtkjoamindolonaaDoorUA7
namespace Go.Proofs.YtkjoamindolonaaDoor
open Go.RowKit Go.Shelf
set_option linter.unusedSimpArgs false
set_option linter.unusedVariables false
open Um (frac S4 spanB spanE prodR mulR mul4 frac4 carryL turn4)

set_option maxHeartbeats 1000000 in
theorem reduced_any (n d : Int) (w : World) (hn : 1 ≤ n) (hd : 1 ≤ d) (hN : n ≤ 9223372036854775807) (hD : d ≤ 9223372036854775807) :
    Calls Tryd.prog 37 #[.int .i64 n, .int .i64 d] w fun e w' => e = .returned (.agg #[.int .i64 (n / (Int.gcd n d : Int)), .int .i64 (d / (Int.gcd n d : Int))]) ∧ Below w.heap.size w w' := by
  have hg : 1 ≤ (Int.gcd n d : Int) := by
    have : 0 < Int.gcd n d := Int.gcd_pos_of_ne_zero_left _ (by omega)
    omega
  have k1 := fun W => rgcd_any n d W (by omega) (by omega) hN hD
  generalize (Int.gcd n d : Int) = g at *
  have l1 : 0 ≤ n / g := Int.ediv_nonneg (by omega) (by omega)
  have l2 : 0 ≤ d / g := Int.ediv_nonneg (by omega) (by omega)
  have l3 : n / g ≤ n := Int.ediv_le_self _ (by omega)
  have l4 : d / g ≤ d := Int.ediv_le_self _ (by omega)
  have f1 : n.tdiv g = n / g := Int.tdiv_eq_ediv_of_nonneg (by omega)
  have f2 : d.tdiv g = d / g := Int.tdiv_eq_ediv_of_nonneg (by omega)
  have e1 : IntKind.i64.wrap (n / g) = n / g := IntWalk.i64_in _ (by omega)
  have e2 : IntKind.i64.wrap (d / g) = d / g := IntWalk.i64_in _ (by omega)
  have g0 : (g == 0) = false := by simp; omega
  go_enter Tryd.func37, Tryd.ntmps37
  go_wp2_with fail
  refine (k1 _).mono ?_
  rintro e w1 ⟨rfl, hb1⟩
  have B1 : Cs w1 (w.heap.size) #[.int .i64 0, .int .i64 0] := Cs.keep (by repeat (first | with_reducible assumption | (with_reducible refine Cs.new _ _ _ _ ?_; first | rfl | (simp; done)) | with_reducible refine Cs.alloc ?_ _ | with_reducible refine Cs.drewN ?_ _ | with_reducible refine Cs.drew ?_ | with_reducible refine Cs.set4 ?_ _ _ _ _ | (with_reducible refine Cs.other4 ?_ ?_ _ _ _ _; rotate_left; focus (first | assumption | omega | (simp; done) | (simp; omega))) | with_reducible refine Cs.set2 ?_ _ _ | (with_reducible refine Cs.other2 ?_ ?_ _ _; rotate_left; focus (first | assumption | omega | (simp; done) | (simp; omega))) | (with_reducible refine Cs.other ?_ ?_ _; rotate_left; focus (first | assumption | omega | (simp; done) | (simp; omega))) | with_reducible refine Cs.keep ?_ (by assumption) | assumption)) hb1
  have cB1 := B1.c
  have fB1 := B1.f
  have lB1 := B1.lt
  go_wp2_with fail
  go_region
  go_wp2_with fail
  exact bodyPost_ret (v := .agg #[.int .i64 (n / g), .int .i64 (d / g)]) (by simp [results, Tryd.results37, go_sem, cB1, fB1, lB1]) rfl ⟨rfl, (by repeat (first | with_reducible exact Below.refl _ _ | with_reducible assumption | with_reducible refine balloc ?_ _ | with_reducible refine bdrewN ?_ _ | with_reducible refine Below.drew ?_ | (with_reducible refine bset ?_ ?_ _; rotate_left; focus (first | assumption | omega | (simp; done) | (simp; omega))) | with_reducible refine bstep ?_ (by assumption) | assumption))⟩

set_option maxHeartbeats 1000000 in
theorem times_any (a b c d : Int) (w : World) (ha : 1 ≤ a ∧ a ≤ 1000000000) (hb : 1 ≤ b ∧ b ≤ 1000000000) (hc : 1 ≤ c ∧ c ≤ 1000000000) (hd : 1 ≤ d ∧ d ≤ 1000000000) :
    Calls Tryd.prog 67 #[.agg #[.int .i64 a, .int .i64 b], .agg #[.int .i64 c, .int .i64 d]] w fun e w' => e = .returned (.tuple #[.agg #[.int .i64 (mulR a b c d).1, .int .i64 (mulR a b c d).2], .bool (frac (mulR a b c d).1 (mulR a b c d).2)]) ∧ Below w.heap.size w w' := by
  obtain ⟨n1, n2⟩ := Um.mul_bd ha.1 ha.2 hc.1 hc.2
  obtain ⟨d1, d2⟩ := Um.mul_bd hb.1 hb.2 hd.1 hd.2
  have k1 := fun W => reduced_any (a * c) (b * d) W (by omega) (by omega) (by omega) (by omega)
  have k2 := fun W => risFraction_any (mulR a b c d).1 (mulR a b c d).2 W
  unfold mulR at *
  simp only at *
  generalize a * c / (Int.gcd (a * c) (b * d) : Int) = x at *
  generalize b * d / (Int.gcd (a * c) (b * d) : Int) = y at *
  generalize frac x y = o at *
  go_enter Tryd.func67, Tryd.ntmps67
  go_wp2_with fail
  refine (k1 _).mono ?_
  rintro e w1 ⟨rfl, hb1⟩
  have B2 : Cs w1 (w.heap.size + 2) #[.int .i64 0, .int .i64 0] := Cs.keep (by repeat (first | with_reducible assumption | (with_reducible refine Cs.new _ _ _ _ ?_; first | rfl | (simp; done)) | with_reducible refine Cs.alloc ?_ _ | with_reducible refine Cs.drewN ?_ _ | with_reducible refine Cs.drew ?_ | with_reducible refine Cs.set4 ?_ _ _ _ _ | (with_reducible refine Cs.other4 ?_ ?_ _ _ _ _; rotate_left; focus (first | assumption | omega | (simp; done) | (simp; omega))) | with_reducible refine Cs.set2 ?_ _ _ | (with_reducible refine Cs.other2 ?_ ?_ _ _; rotate_left; focus (first | assumption | omega | (simp; done) | (simp; omega))) | (with_reducible refine Cs.other ?_ ?_ _; rotate_left; focus (first | assumption | omega | (simp; done) | (simp; omega))) | with_reducible refine Cs.keep ?_ (by assumption) | assumption)) hb1
  have cB2 := B2.c
  have fB2 := B2.f
  have lB2 := B2.lt
  go_wp2_with fail
  have Bx : Cs (w1.alloc (.cells #[.int .i64 x, .int .i64 y] 23)) w1.heap.size #[.int .i64 x, .int .i64 y] := (by repeat (first | with_reducible assumption | (with_reducible refine Cs.new _ _ _ _ ?_; first | rfl | (simp; done)) | with_reducible refine Cs.alloc ?_ _ | with_reducible refine Cs.drewN ?_ _ | with_reducible refine Cs.drew ?_ | with_reducible refine Cs.set4 ?_ _ _ _ _ | (with_reducible refine Cs.other4 ?_ ?_ _ _ _ _; rotate_left; focus (first | assumption | omega | (simp; done) | (simp; omega))) | with_reducible refine Cs.set2 ?_ _ _ | (with_reducible refine Cs.other2 ?_ ?_ _ _; rotate_left; focus (first | assumption | omega | (simp; done) | (simp; omega))) | (with_reducible refine Cs.other ?_ ?_ _; rotate_left; focus (first | assumption | omega | (simp; done) | (simp; omega))) | with_reducible refine Cs.keep ?_ (by assumption) | assumption))
  have B2a : Cs (w1.alloc (.cells #[.int .i64 x, .int .i64 y] 23)) (w.heap.size + 2) #[.int .i64 0, .int .i64 0] := (by repeat (first | with_reducible assumption | (with_reducible refine Cs.new _ _ _ _ ?_; first | rfl | (simp; done)) | with_reducible refine Cs.alloc ?_ _ | with_reducible refine Cs.drewN ?_ _ | with_reducible refine Cs.drew ?_ | with_reducible refine Cs.set4 ?_ _ _ _ _ | (with_reducible refine Cs.other4 ?_ ?_ _ _ _ _; rotate_left; focus (first | assumption | omega | (simp; done) | (simp; omega))) | with_reducible refine Cs.set2 ?_ _ _ | (with_reducible refine Cs.other2 ?_ ?_ _ _; rotate_left; focus (first | assumption | omega | (simp; done) | (simp; omega))) | (with_reducible refine Cs.other ?_ ?_ _; rotate_left; focus (first | assumption | omega | (simp; done) | (simp; omega))) | with_reducible refine Cs.keep ?_ (by assumption) | assumption))
  clear cB2 fB2 lB2
  have hbl : Below w.heap.size w (w1.alloc (.cells #[.int .i64 x, .int .i64 y] 23)) := (by repeat (first | with_reducible exact Below.refl _ _ | with_reducible assumption | with_reducible refine balloc ?_ _ | with_reducible refine bdrewN ?_ _ | with_reducible refine Below.drew ?_ | (with_reducible refine bset ?_ ?_ _; rotate_left; focus (first | assumption | omega | (simp; done) | (simp; omega))) | with_reducible refine bstep ?_ (by assumption) | assumption))
  generalize (w1.alloc (.cells #[.int .i64 x, .int .i64 y] 23)) = W at *
  have hne : w1.heap.size ≠ w.heap.size + 2 := by have := B2.lt; omega
  have cBx := Bx.c
  have fBx := Bx.f
  have lBx := Bx.lt
  have cB2a := B2a.c
  have fB2a := B2a.f
  have lB2a := B2a.lt
  go_region_held3 (fun w' => w'.cell? ⟨w1.heap.size, 0, none⟩ = some (.int .i64 x) ∧ w'.cell? ⟨w1.heap.size, 1, none⟩ = some (.int .i64 y))
    (first | exact ⟨Bn.c 0, Bn.c 1⟩ | exact ⟨(Bn.other2 hne _ _).c 0, (Bn.other2 hne _ _).c 1⟩ | go_keep)
    ((go_at_call 24; refine (k2 _).mono ?_; rintro e w2 ⟨rfl, hb2⟩; have Bn : Cs w2 w1.heap.size #[.int .i64 x, .int .i64 y] := Cs.keep (by first | assumption | exact Cs.drew (by assumption)) hb2; have Bm : Cs w2 (w.heap.size + 2) #[.int .i64 0, .int .i64 0] := Cs.keep (by first | assumption | exact Cs.drew (by assumption)) hb2; have cBm := Bm.c; have fBm := Bm.f))
  go_wp2_with fail
  exact bodyPost_ret (v := .tuple #[.agg #[.int .i64 x, .int .i64 y], .bool o]) (by simp [results, Tryd.results67, go_sem, cBm, fBm]) rfl ⟨rfl, (by repeat (first | with_reducible exact Below.refl _ _ | with_reducible assumption | with_reducible refine balloc ?_ _ | with_reducible refine bdrewN ?_ _ | with_reducible refine Below.drew ?_ | (with_reducible refine bset ?_ ?_ _; rotate_left; focus (first | assumption | omega | (simp; done) | (simp; omega))) | with_reducible refine bstep ?_ (by assumption) | assumption))⟩

set_option maxHeartbeats 1000000 in
theorem rTurned_any (a b c d : Int) (w : World) :
    Calls Tryd.prog 35 #[.agg #[.int .i64 a, .int .i64 b, .int .i64 c, .int .i64 d]] w fun e w' => e = .returned (.agg #[.int .i64 d, .int .i64 c, .int .i64 b, .int .i64 a]) ∧ Below w.heap.size w w' := by
  go_enter Tryd.func35, Tryd.ntmps35
  go_wp2_with fail
  obtain ⟨W, hW⟩ : ∃ W, ((w.alloc (.cells #[.int .i64 a, .int .i64 b, .int .i64 c, .int .i64 d] 25)).alloc (.cells #[.int .i64 0, .int .i64 0, .int .i64 0, .int .i64 0] 25)) = W := ⟨_, rfl⟩
  have B0 : Cs W w.heap.size #[.int .i64 a, .int .i64 b, .int .i64 c, .int .i64 d] := by rw [← hW]; exact (by repeat (first | with_reducible assumption | (with_reducible refine Cs.new _ _ _ _ ?_; first | rfl | (simp; done)) | with_reducible refine Cs.alloc ?_ _ | with_reducible refine Cs.drewN ?_ _ | with_reducible refine Cs.drew ?_ | with_reducible refine Cs.set4 ?_ _ _ _ _ | (with_reducible refine Cs.other4 ?_ ?_ _ _ _ _; rotate_left; focus (first | assumption | omega | (simp; done) | (simp; omega))) | with_reducible refine Cs.set2 ?_ _ _ | (with_reducible refine Cs.other2 ?_ ?_ _ _; rotate_left; focus (first | assumption | omega | (simp; done) | (simp; omega))) | (with_reducible refine Cs.other ?_ ?_ _; rotate_left; focus (first | assumption | omega | (simp; done) | (simp; omega))) | with_reducible refine Cs.keep ?_ (by assumption) | assumption))
  have B1 : Cs W (w.heap.size + 1) #[.int .i64 0, .int .i64 0, .int .i64 0, .int .i64 0] := by rw [← hW]; exact (by repeat (first | with_reducible assumption | (with_reducible refine Cs.new _ _ _ _ ?_; first | rfl | (simp; done)) | with_reducible refine Cs.alloc ?_ _ | with_reducible refine Cs.drewN ?_ _ | with_reducible refine Cs.drew ?_ | with_reducible refine Cs.set4 ?_ _ _ _ _ | (with_reducible refine Cs.other4 ?_ ?_ _ _ _ _; rotate_left; focus (first | assumption | omega | (simp; done) | (simp; omega))) | with_reducible refine Cs.set2 ?_ _ _ | (with_reducible refine Cs.other2 ?_ ?_ _ _; rotate_left; focus (first | assumption | omega | (simp; done) | (simp; omega))) | (with_reducible refine Cs.other ?_ ?_ _; rotate_left; focus (first | assumption | omega | (simp; done) | (simp; omega))) | with_reducible refine Cs.keep ?_ (by assumption) | assumption))
  have hb : Below w.heap.size w W := by rw [← hW]; exact (by repeat (first | with_reducible exact Below.refl _ _ | with_reducible assumption | with_reducible refine balloc ?_ _ | with_reducible refine bdrewN ?_ _ | with_reducible refine Below.drew ?_ | (with_reducible refine bset ?_ ?_ _; rotate_left; focus (first | assumption | omega | (simp; done) | (simp; omega))) | with_reducible refine bstep ?_ (by assumption) | assumption))
  rw [hW]
  clear hW
  have cB0 := B0.c
  have fB0 := B0.f
  have lB0 := B0.lt
  have cB1 := B1.c
  have fB1 := B1.f
  have lB1 := B1.lt
  go_region_held3 (fun w' => w'.cell? ⟨w.heap.size, 0, none⟩ = some (.int .i64 a) ∧ w'.cell? ⟨w.heap.size, 1, none⟩ = some (.int .i64 b) ∧ w'.cell? ⟨w.heap.size, 2, none⟩ = some (.int .i64 c) ∧ w'.cell? ⟨w.heap.size, 3, none⟩ = some (.int .i64 d))
    (first | exact ⟨Bn.c 0, Bn.c 1, Bn.c 2, Bn.c 3⟩ | go_keep)
    ((go_at_call 63; refine (rturned_any _ _ _).mono ?_; rintro e w1 ⟨rfl, hb1⟩; have Bn : Cs w1 w.heap.size #[.int .i64 a, .int .i64 b, .int .i64 c, .int .i64 d] := Cs.keep (by first | assumption | exact Cs.drew (by assumption)) hb1; have Bm : Cs w1 (w.heap.size + 1) #[.int .i64 0, .int .i64 0, .int .i64 0, .int .i64 0] := Cs.keep (by first | assumption | exact Cs.drew (by assumption)) hb1; have cBm := Bm.c; have fBm := Bm.f))
  go_wp2_with fail
  exact bodyPost_ret (v := .agg #[.int .i64 d, .int .i64 c, .int .i64 b, .int .i64 a]) (by simp [results, Tryd.results35, go_sem, cBm, fBm]) rfl ⟨rfl, (by repeat (first | with_reducible exact Below.refl _ _ | with_reducible assumption | with_reducible refine balloc ?_ _ | with_reducible refine bdrewN ?_ _ | with_reducible refine Below.drew ?_ | (with_reducible refine bset ?_ ?_ _; rotate_left; focus (first | assumption | omega | (simp; done) | (simp; omega))) | with_reducible refine bstep ?_ (by assumption) | assumption))⟩

/-- the error of a span and decrees -/
def decE (s : S4) (l : List S4) : Int := if spanB s = false then 2 else if 8 < l.length then 6 else if l.any (fun d => !spanB d) = true then 2 else 0

set_option maxHeartbeats 1000000 in
theorem rproduct_any (s t : S4) (w : World) (h1 : frac4 s = true) (h2 : frac4 t = true) :
    Calls Tryd.prog 47 #[.agg #[.int .i64 s.1, .int .i64 s.2.1, .int .i64 s.2.2.1, .int .i64 s.2.2.2], .agg #[.int .i64 t.1, .int .i64 t.2.1, .int .i64 t.2.2.1, .int .i64 t.2.2.2]] w
      fun e w' => e = .returned (.tuple #[.agg #[.int .i64 (mul4 s t).1, .int .i64 (mul4 s t).2.1, .int .i64 (mul4 s t).2.2.1, .int .i64 (mul4 s t).2.2.2], .bool (frac4 (mul4 s t))]) ∧ Below w.heap.size w w' := by
  obtain ⟨s1, s2⟩ := (Um.frac4_iff s).1 h1
  obtain ⟨t1, t2⟩ := (Um.frac4_iff t).1 h2
  obtain ⟨a1, a2, a3, a4⟩ := Um.frac_bd s1
  obtain ⟨b1, b2, b3, b4⟩ := Um.frac_bd s2
  obtain ⟨c1, c2, c3, c4⟩ := Um.frac_bd t1
  obtain ⟨d1, d2, d3, d4⟩ := Um.frac_bd t2
  have k1 := fun W => times_any s.1 s.2.1 t.1 t.2.1 W ⟨a1, a2⟩ ⟨a3, a4⟩ ⟨c1, c2⟩ ⟨c3, c4⟩
  have k2 := fun W => times_any s.2.2.1 s.2.2.2 t.2.2.1 t.2.2.2 W ⟨b1, b2⟩ ⟨b3, b4⟩ ⟨d1, d2⟩ ⟨d3, d4⟩
  unfold frac4 mul4
  simp only
  clear s1 s2 t1 t2 h1 h2 a1 a2 a3 a4 b1 b2 b3 b4 c1 c2 c3 c4 d1 d2 d3 d4
  generalize (mulR s.1 s.2.1 t.1 t.2.1).1 = x1 at *
  generalize (mulR s.1 s.2.1 t.1 t.2.1).2 = y1 at *
  generalize (mulR s.2.2.1 s.2.2.2 t.2.2.1 t.2.2.2).1 = x2 at *
  generalize (mulR s.2.2.1 s.2.2.2 t.2.2.1 t.2.2.2).2 = y2 at *
  generalize frac x1 y1 = o1 at *
  generalize frac x2 y2 = o2 at *
  cases o1 with
  | true =>
    go_enter Tryd.func47, Tryd.ntmps47
    go_wp2_with fail
    refine (k1 _).mono ?_
    rintro e w1 ⟨rfl, hb1⟩
    have B0 : Cs w1 (w.heap.size) #[.int .i64 s.1, .int .i64 s.2.1, .int .i64 s.2.2.1, .int .i64 s.2.2.2] := Cs.keep (by repeat (first | with_reducible assumption | (with_reducible refine Cs.new _ _ _ _ ?_; first | rfl | (simp; done)) | with_reducible refine Cs.alloc ?_ _ | with_reducible refine Cs.drewN ?_ _ | with_reducible refine Cs.drew ?_ | with_reducible refine Cs.set4 ?_ _ _ _ _ | (with_reducible refine Cs.other4 ?_ ?_ _ _ _ _; rotate_left; focus (first | assumption | omega | (simp; done) | (simp; omega))) | with_reducible refine Cs.set2 ?_ _ _ | (with_reducible refine Cs.other2 ?_ ?_ _ _; rotate_left; focus (first | assumption | omega | (simp; done) | (simp; omega))) | (with_reducible refine Cs.other ?_ ?_ _; rotate_left; focus (first | assumption | omega | (simp; done) | (simp; omega))) | with_reducible refine Cs.keep ?_ (by assumption) | assumption)) hb1
    have B1 : Cs w1 (w.heap.size + 1) #[.int .i64 t.1, .int .i64 t.2.1, .int .i64 t.2.2.1, .int .i64 t.2.2.2] := Cs.keep (by repeat (first | with_reducible assumption | (with_reducible refine Cs.new _ _ _ _ ?_; first | rfl | (simp; done)) | with_reducible refine Cs.alloc ?_ _ | with_reducible refine Cs.drewN ?_ _ | with_reducible refine Cs.drew ?_ | with_reducible refine Cs.set4 ?_ _ _ _ _ | (with_reducible refine Cs.other4 ?_ ?_ _ _ _ _; rotate_left; focus (first | assumption | omega | (simp; done) | (simp; omega))) | with_reducible refine Cs.set2 ?_ _ _ | (with_reducible refine Cs.other2 ?_ ?_ _ _; rotate_left; focus (first | assumption | omega | (simp; done) | (simp; omega))) | (with_reducible refine Cs.other ?_ ?_ _; rotate_left; focus (first | assumption | omega | (simp; done) | (simp; omega))) | with_reducible refine Cs.keep ?_ (by assumption) | assumption)) hb1
    have B2 : Cs w1 (w.heap.size + 2) #[.int .i64 0, .int .i64 0, .int .i64 0, .int .i64 0] := Cs.keep (by repeat (first | with_reducible assumption | (with_reducible refine Cs.new _ _ _ _ ?_; first | rfl | (simp; done)) | with_reducible refine Cs.alloc ?_ _ | with_reducible refine Cs.drewN ?_ _ | with_reducible refine Cs.drew ?_ | with_reducible refine Cs.set4 ?_ _ _ _ _ | (with_reducible refine Cs.other4 ?_ ?_ _ _ _ _; rotate_left; focus (first | assumption | omega | (simp; done) | (simp; omega))) | with_reducible refine Cs.set2 ?_ _ _ | (with_reducible refine Cs.other2 ?_ ?_ _ _; rotate_left; focus (first | assumption | omega | (simp; done) | (simp; omega))) | (with_reducible refine Cs.other ?_ ?_ _; rotate_left; focus (first | assumption | omega | (simp; done) | (simp; omega))) | with_reducible refine Cs.keep ?_ (by assumption) | assumption)) hb1
    have cB0 := B0.c
    have fB0 := B0.f
    have lB0 := B0.lt
    have cB1 := B1.c
    have fB1 := B1.f
    have lB1 := B1.lt
    go_wp2_with fail
    clear cB0 fB0 lB0 cB1 fB1 lB1
    refine (k2 _).mono ?_
    rintro e w2 ⟨rfl, hb2⟩
    have B2' : Cs w2 (w.heap.size + 2) #[.int .i64 0, .int .i64 0, .int .i64 0, .int .i64 0] := (B2.alloc (.cells #[.int .i64 x1, .int .i64 y1] 23)).keep hb2
    have B3 : Cs w2 (w1.heap.size) #[.int .i64 x1, .int .i64 y1] := Cs.keep (by repeat (first | with_reducible assumption | (with_reducible refine Cs.new _ _ _ _ ?_; first | rfl | (simp; done)) | with_reducible refine Cs.alloc ?_ _ | with_reducible refine Cs.drewN ?_ _ | with_reducible refine Cs.drew ?_ | with_reducible refine Cs.set4 ?_ _ _ _ _ | (with_reducible refine Cs.other4 ?_ ?_ _ _ _ _; rotate_left; focus (first | assumption | omega | (simp; done) | (simp; omega))) | with_reducible refine Cs.set2 ?_ _ _ | (with_reducible refine Cs.other2 ?_ ?_ _ _; rotate_left; focus (first | assumption | omega | (simp; done) | (simp; omega))) | (with_reducible refine Cs.other ?_ ?_ _; rotate_left; focus (first | assumption | omega | (simp; done) | (simp; omega))) | with_reducible refine Cs.keep ?_ (by assumption) | assumption)) hb2
    have cB2' := B2'.c
    have fB2' := B2'.f
    have lB2' := B2'.lt
    have cB3 := B3.c
    have fB3 := B3.f
    have lB3 := B3.lt
    go_wp2_with fail
    exact bodyPost_ret (v := .tuple #[.agg #[.int .i64 x1, .int .i64 y1, .int .i64 x2, .int .i64 y2], .bool o2]) (by simp [results, Tryd.results47, go_sem, cB2', fB2', lB2']) rfl ⟨rfl, (by repeat (first | with_reducible exact Below.refl _ _ | with_reducible assumption | with_reducible refine balloc ?_ _ | with_reducible refine bdrewN ?_ _ | with_reducible refine Below.drew ?_ | (with_reducible refine bset ?_ ?_ _; rotate_left; focus (first | assumption | omega | (simp; done) | (simp; omega))) | with_reducible refine bstep ?_ (by assumption) | assumption))⟩
  | false =>
    go_enter Tryd.func47, Tryd.ntmps47
    go_wp2_with fail
    refine (k1 _).mono ?_
    rintro e w1 ⟨rfl, hb1⟩
    have B0 : Cs w1 (w.heap.size) #[.int .i64 s.1, .int .i64 s.2.1, .int .i64 s.2.2.1, .int .i64 s.2.2.2] := Cs.keep (by repeat (first | with_reducible assumption | (with_reducible refine Cs.new _ _ _ _ ?_; first | rfl | (simp; done)) | with_reducible refine Cs.alloc ?_ _ | with_reducible refine Cs.drewN ?_ _ | with_reducible refine Cs.drew ?_ | with_reducible refine Cs.set4 ?_ _ _ _ _ | (with_reducible refine Cs.other4 ?_ ?_ _ _ _ _; rotate_left; focus (first | assumption | omega | (simp; done) | (simp; omega))) | with_reducible refine Cs.set2 ?_ _ _ | (with_reducible refine Cs.other2 ?_ ?_ _ _; rotate_left; focus (first | assumption | omega | (simp; done) | (simp; omega))) | (with_reducible refine Cs.other ?_ ?_ _; rotate_left; focus (first | assumption | omega | (simp; done) | (simp; omega))) | with_reducible refine Cs.keep ?_ (by assumption) | assumption)) hb1
    have B1 : Cs w1 (w.heap.size + 1) #[.int .i64 t.1, .int .i64 t.2.1, .int .i64 t.2.2.1, .int .i64 t.2.2.2] := Cs.keep (by repeat (first | with_reducible assumption | (with_reducible refine Cs.new _ _ _ _ ?_; first | rfl | (simp; done)) | with_reducible refine Cs.alloc ?_ _ | with_reducible refine Cs.drewN ?_ _ | with_reducible refine Cs.drew ?_ | with_reducible refine Cs.set4 ?_ _ _ _ _ | (with_reducible refine Cs.other4 ?_ ?_ _ _ _ _; rotate_left; focus (first | assumption | omega | (simp; done) | (simp; omega))) | with_reducible refine Cs.set2 ?_ _ _ | (with_reducible refine Cs.other2 ?_ ?_ _ _; rotate_left; focus (first | assumption | omega | (simp; done) | (simp; omega))) | (with_reducible refine Cs.other ?_ ?_ _; rotate_left; focus (first | assumption | omega | (simp; done) | (simp; omega))) | with_reducible refine Cs.keep ?_ (by assumption) | assumption)) hb1
    have B2 : Cs w1 (w.heap.size + 2) #[.int .i64 0, .int .i64 0, .int .i64 0, .int .i64 0] := Cs.keep (by repeat (first | with_reducible assumption | (with_reducible refine Cs.new _ _ _ _ ?_; first | rfl | (simp; done)) | with_reducible refine Cs.alloc ?_ _ | with_reducible refine Cs.drewN ?_ _ | with_reducible refine Cs.drew ?_ | with_reducible refine Cs.set4 ?_ _ _ _ _ | (with_reducible refine Cs.other4 ?_ ?_ _ _ _ _; rotate_left; focus (first | assumption | omega | (simp; done) | (simp; omega))) | with_reducible refine Cs.set2 ?_ _ _ | (with_reducible refine Cs.other2 ?_ ?_ _ _; rotate_left; focus (first | assumption | omega | (simp; done) | (simp; omega))) | (with_reducible refine Cs.other ?_ ?_ _; rotate_left; focus (first | assumption | omega | (simp; done) | (simp; omega))) | with_reducible refine Cs.keep ?_ (by assumption) | assumption)) hb1
    have cB0 := B0.c
    have fB0 := B0.f
    have lB0 := B0.lt
    have cB1 := B1.c
    have fB1 := B1.f
    have lB1 := B1.lt
    go_wp2_with fail
    clear cB0 fB0 lB0 cB1 fB1 lB1
    refine (k2 _).mono ?_
    rintro e w2 ⟨rfl, hb2⟩
    have B2' : Cs w2 (w.heap.size + 2) #[.int .i64 0, .int .i64 0, .int .i64 0, .int .i64 0] := (B2.alloc (.cells #[.int .i64 x1, .int .i64 y1] 23)).keep hb2
    have B3 : Cs w2 (w1.heap.size) #[.int .i64 x1, .int .i64 y1] := Cs.keep (by repeat (first | with_reducible assumption | (with_reducible refine Cs.new _ _ _ _ ?_; first | rfl | (simp; done)) | with_reducible refine Cs.alloc ?_ _ | with_reducible refine Cs.drewN ?_ _ | with_reducible refine Cs.drew ?_ | with_reducible refine Cs.set4 ?_ _ _ _ _ | (with_reducible refine Cs.other4 ?_ ?_ _ _ _ _; rotate_left; focus (first | assumption | omega | (simp; done) | (simp; omega))) | with_reducible refine Cs.set2 ?_ _ _ | (with_reducible refine Cs.other2 ?_ ?_ _ _; rotate_left; focus (first | assumption | omega | (simp; done) | (simp; omega))) | (with_reducible refine Cs.other ?_ ?_ _; rotate_left; focus (first | assumption | omega | (simp; done) | (simp; omega))) | with_reducible refine Cs.keep ?_ (by assumption) | assumption)) hb2
    have cB2' := B2'.c
    have fB2' := B2'.f
    have lB2' := B2'.lt
    have cB3 := B3.c
    have fB3 := B3.f
    have lB3 := B3.lt
    go_wp2_with fail
    exact bodyPost_ret (v := .tuple #[.agg #[.int .i64 x1, .int .i64 y1, .int .i64 x2, .int .i64 y2], .bool false]) (by simp [results, Tryd.results47, go_sem, cB2', fB2', lB2']) rfl ⟨rfl, (by repeat (first | with_reducible exact Below.refl _ _ | with_reducible assumption | with_reducible refine balloc ?_ _ | with_reducible refine bdrewN ?_ _ | with_reducible refine Below.drew ?_ | (with_reducible refine bset ?_ ?_ _; rotate_left; focus (first | assumption | omega | (simp; done) | (simp; omega))) | with_reducible refine bstep ?_ (by assumption) | assumption))⟩

end Go.Proofs.YtkjoamindolonaaDoor
