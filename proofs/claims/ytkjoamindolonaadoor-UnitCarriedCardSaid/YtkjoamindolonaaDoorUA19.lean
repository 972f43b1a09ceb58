/- The walk of package unit's Next. -/
import Derived.Test.YtkjoamindolonaaDoorUA18
import Derived.Deep.DeepCutAuto
namespace Go.Proofs.YtkjoamindolonaaDoor
open Go.RowKit Go.Shelf
set_option linter.unusedSimpArgs false
set_option linter.unusedVariables false
open Um (frac)

theorem rat_info : (Tryd.prog.info? 23).map (fun i => (i.zero, i.size, i.bytes)) = some (some (.agg #[.int .i64 0, .int .i64 0]), 2, 16) := by kernel_rfl

/-- what a make of fractions lays -/
theorem make_rats (n : Nat) (hn : n ≤ 1000) (w : World) :
    (Instr.makeSlice 87 (.int .i64 (n : Int)) (.int .i64 (n : Int))).run Tryd.prog w = .ok (.slice (some ⟨w.heap.size, 0, none⟩) n n) (w.alloc (.cells (madeCells #[.int .i64 0, .int .i64 0] (n * 2)) 23)) := by
  obtain ⟨i, hi, hzz⟩ := Option.map_eq_some_iff.1 rat_info
  simp only [Prod.mk.injEq] at hzz
  obtain ⟨hz, hs, hb⟩ := hzz
  have hr := run_make (P := Tryd.prog) w 87 23 i (.agg #[.int .i64 0, .int .i64 0]) (by kernel_rfl) hi hz .i64 .i64 n n (by omega) (Int.le_refl _) (by rw [hb]; omega) (by omega)
  simp only [Int.toNat_natCast, hs] at hr
  exact hr

/-- a block of k fractions, of which the first i are known -/
structure Fill (W : World) (H k i : Nat) (f : Nat → Int × Int) : Prop where
  lt : H < W.heap.size
  ex : ∀ j, j < k * 2 → ∃ v, W.cell? ⟨H, j, none⟩ = some v
  free : ∀ j, W.frozen? ⟨H, j, none⟩ = false
  c0 : ∀ j, j < i → W.cell? ⟨H, j * 2, none⟩ = some (.int .i64 (f j).1)
  c1 : ∀ j, j < i → W.cell? ⟨H, j * 2 + 1, none⟩ = some (.int .i64 (f j).2)

theorem Fill.new (w : World) (H k : Nat) (f : Nat → Int × Int) (t : TypeId) (hH : w.heap.size = H) : Fill (w.alloc (.cells (madeCells #[.int .i64 0, .int .i64 0] (k * 2)) t)) H k 0 f := by
  subst hH
  refine ⟨by simp, fun j hj => ?_, fun j => by simp, fun j hj => by omega, fun j hj => by omega⟩
  simp [madeCells, hj]

theorem Fill.step {W : World} {H k i : Nat} {f : Nat → Int × Int} (h : Fill W H k i f) (hi : i < k) :
    Fill ((W.setCell ⟨H, i * 2, none⟩ (.int .i64 (f i).1)).setCell ⟨H, i * 2 + 1, none⟩ (.int .i64 (f i).2)) H k (i + 1) f := by
  obtain ⟨v0, e0⟩ := h.ex (i * 2) (by omega)
  obtain ⟨v1, e1⟩ := h.ex (i * 2 + 1) (by omega)
  have s1 : (W.setCell ⟨H, i * 2, none⟩ (.int .i64 (f i).1)).cell? ⟨H, i * 2 + 1, none⟩ = some v1 := by
    rw [World.cell?_setCell_other _ _ _ _ (by intro e; injection e with _ e; omega)]; exact e1
  have get : ∀ j, ((W.setCell ⟨H, i * 2, none⟩ (.int .i64 (f i).1)).setCell ⟨H, i * 2 + 1, none⟩ (.int .i64 (f i).2)).cell? ⟨H, j, none⟩ = if j = i * 2 + 1 then some (.int .i64 (f i).2) else if j = i * 2 then some (.int .i64 (f i).1) else W.cell? ⟨H, j, none⟩ := by
    intro j
    split
    · rename_i h1
      subst h1
      exact World.cell?_setCell_same' _ _ _ (by rw [s1]; simp)
    · rename_i h1
      rw [World.cell?_setCell_other _ _ _ _ (by intro e; injection e with _ e; exact h1 e.symm)]
      split
      · rename_i h2
        subst h2
        exact World.cell?_setCell_same' _ _ _ (by rw [e0]; simp)
      · rename_i h2
        rw [World.cell?_setCell_other _ _ _ _ (by intro e; injection e with _ e; exact h2 e.symm)]
  refine ⟨by simpa [World.setCell] using h.lt, fun j hj => ?_, fun j => by rw [World.frozen?_setCell, World.frozen?_setCell]; exact h.free j, fun j hj => ?_, fun j hj => ?_⟩
  · rw [get]
    split
    · exact ⟨_, rfl⟩
    · split
      · exact ⟨_, rfl⟩
      · exact h.ex j hj
  · rw [get, if_neg (by omega)]
    by_cases e : j = i
    · rw [e, if_pos rfl]
    · rw [if_neg (by omega)]; exact h.c0 j (by omega)
  · rw [get]
    by_cases e : j = i
    · rw [e, if_pos rfl]
    · rw [if_neg (by omega), if_neg (by omega)]; exact h.c1 j (by omega)

theorem Cs.other2' {w : World} {g g' : Nat} {cs : Array Value} (h : Cs w g cs) (hg : g ≠ g') (i j : Nat) (x y : Value) : Cs ((w.setCell ⟨g', i, none⟩ x).setCell ⟨g', j, none⟩ y) g cs :=
  (h.other (p := ⟨g', i, none⟩) hg x).other (p := ⟨g', j, none⟩) hg y

/-- what Next tries -/
def cand (n d : Int) (j : Nat) : Int × Int := (n * ((j : Int) + 1) / d + 1, (j : Int) + 1)

theorem minR_append (l : List (Int × Int)) : ∀ (m x : Int × Int), minR m (l ++ [x]) = if x.1 * (minR m l).2 < (minR m l).1 * x.2 then x else minR m l := by
  induction l with
  | nil => intro m x; rfl
  | cons y l ih => intro m x; exact ih _ x

theorem minR_nxt (n d : Int) : ∀ k : Nat, minR (cand n d 0) (((List.range (k + 1)).map (cand n d)).drop 1) = Um.nxt n d (k + 1) := by
  intro k
  induction k with
  | zero => simp [minR, cand, Um.nxt, List.range_succ]
  | succ k ih =>
    have hc : cand n d (k + 1) = (n * ((k : Int) + 2) / d + 1, ((k + 2 : Nat) : Int)) := by
      have e : (((k + 1 : Nat) : Int) + 1) = (k : Int) + 2 := by omega
      have e2 : (((k + 2 : Nat)) : Int) = (k : Int) + 2 := by omega
      unfold cand
      rw [e, e2]
    rw [List.range_succ, List.map_append, List.drop_append_of_le_length (by simp), List.map_cons, List.map_nil, minR_append, ih, hc, Um.nxt]
    rfl

set_option maxHeartbeats 1000000 in
theorem next_arg (n d k : Int) (w : World) (h : frac n d = false) :
    Calls Tryd.prog 31 #[.agg #[.int .i64 n, .int .i64 d], .int .i64 k] w fun e w' => e = RetFE ((0, 0), 2) ∧ Below w.heap.size w w' := by
  have k1 := fun W => isFraction_any n d W
  rw [h] at k1
  unfold RetFE
  clear h
  go_enter Tryd.func31, Tryd.ntmps31
  go_wp2_with fail
  refine (k1 _).mono ?_
  rintro e w1 ⟨rfl, hb1⟩
  have B1 : Cs w1 (w.heap.size + 1) #[.int .i64 0, .int .i64 0] := Cs.keep (by repeat (first | with_reducible assumption | (with_reducible refine Cs.new _ _ _ _ ?_; first | rfl | (simp; done)) | with_reducible refine Cs.alloc ?_ _ | with_reducible refine Cs.drewN ?_ _ | with_reducible refine Cs.drew ?_ | with_reducible refine Cs.set4 ?_ _ _ _ _ | (with_reducible refine Cs.other4 ?_ ?_ _ _ _ _; rotate_left; focus (first | assumption | omega | (simp; done) | (simp; omega))) | with_reducible refine Cs.set2 ?_ _ _ | (with_reducible refine Cs.other2 ?_ ?_ _ _; rotate_left; focus (first | assumption | omega | (simp; done) | (simp; omega))) | (with_reducible refine Cs.other ?_ ?_ _; rotate_left; focus (first | assumption | omega | (simp; done) | (simp; omega))) | with_reducible refine Cs.keep ?_ (by assumption) | assumption)) hb1
  have cB1 := B1.c
  have fB1 := B1.f
  have lB1 := B1.lt
  go_wp2_with fail
  exact bodyPost_ret (v := .tuple #[.agg #[.int .i64 0, .int .i64 0], .int .i64 2]) (by simp [results, Tryd.results31, go_sem, cB1, fB1, lB1]) rfl ⟨rfl, (by repeat (first | with_reducible exact Below.refl _ _ | with_reducible assumption | with_reducible refine balloc ?_ _ | with_reducible refine bdrewN ?_ _ | with_reducible refine Below.drew ?_ | (with_reducible refine bset ?_ ?_ _; rotate_left; focus (first | assumption | omega | (simp; done) | (simp; omega))) | with_reducible refine bstep ?_ (by assumption) | assumption))⟩

set_option maxHeartbeats 1000000 in
theorem next_range (n d k : Int) (w : World) (h : frac n d = true) (hk : ¬ (1 ≤ k ∧ k ≤ 1000 ∧ n ≤ 999999)) :
    Calls Tryd.prog 31 #[.agg #[.int .i64 n, .int .i64 d], .int .i64 k] w fun e w' => e = RetFE ((0, 0), 3) ∧ Below w.heap.size w w' := by
  have k1 := fun W => isFraction_any n d W
  rw [h] at k1
  have k2 := fun A m cap W hz => within_any 1 1000 A m cap [k] W hz (by have := hz.1; simp at this; omega)
  have l2 : ([k].all fun x => !out 1 1000 x) = decide (1 ≤ k ∧ k ≤ 1000) := by rw [Bool.eq_iff_iff]; simp [out]
  rw [l2] at k2
  unfold RetFE
  clear h l2
  by_cases hin : 1 ≤ k ∧ k ≤ 1000
  · rw [decide_eq_true hin] at k2
    have hn : 999999 < n := by omega
    clear hk hin
    go_enter Tryd.func31, Tryd.ntmps31
    go_wp2_with fail
    refine (k1 _).mono ?_
    rintro e w1 ⟨rfl, hb1⟩
    have B0 : Cs w1 (w.heap.size) #[.int .i64 n, .int .i64 d] := Cs.keep (by repeat (first | with_reducible assumption | (with_reducible refine Cs.new _ _ _ _ ?_; first | rfl | (simp; done)) | with_reducible refine Cs.alloc ?_ _ | with_reducible refine Cs.drewN ?_ _ | with_reducible refine Cs.drew ?_ | with_reducible refine Cs.set4 ?_ _ _ _ _ | (with_reducible refine Cs.other4 ?_ ?_ _ _ _ _; rotate_left; focus (first | assumption | omega | (simp; done) | (simp; omega))) | with_reducible refine Cs.set2 ?_ _ _ | (with_reducible refine Cs.other2 ?_ ?_ _ _; rotate_left; focus (first | assumption | omega | (simp; done) | (simp; omega))) | (with_reducible refine Cs.other ?_ ?_ _; rotate_left; focus (first | assumption | omega | (simp; done) | (simp; omega))) | with_reducible refine Cs.keep ?_ (by assumption) | assumption)) hb1
    have B1 : Cs w1 (w.heap.size + 1) #[.int .i64 0, .int .i64 0] := Cs.keep (by repeat (first | with_reducible assumption | (with_reducible refine Cs.new _ _ _ _ ?_; first | rfl | (simp; done)) | with_reducible refine Cs.alloc ?_ _ | with_reducible refine Cs.drewN ?_ _ | with_reducible refine Cs.drew ?_ | with_reducible refine Cs.set4 ?_ _ _ _ _ | (with_reducible refine Cs.other4 ?_ ?_ _ _ _ _; rotate_left; focus (first | assumption | omega | (simp; done) | (simp; omega))) | with_reducible refine Cs.set2 ?_ _ _ | (with_reducible refine Cs.other2 ?_ ?_ _ _; rotate_left; focus (first | assumption | omega | (simp; done) | (simp; omega))) | (with_reducible refine Cs.other ?_ ?_ _; rotate_left; focus (first | assumption | omega | (simp; done) | (simp; omega))) | with_reducible refine Cs.keep ?_ (by assumption) | assumption)) hb1
    have hbw1 : Below w.heap.size w w1 := (by repeat (first | with_reducible exact Below.refl _ _ | with_reducible assumption | with_reducible refine balloc ?_ _ | with_reducible refine bdrewN ?_ _ | with_reducible refine Below.drew ?_ | (with_reducible refine bset ?_ ?_ _; rotate_left; focus (first | assumption | omega | (simp; done) | (simp; omega))) | with_reducible refine bstep ?_ (by assumption) | assumption))
    have cB0 := B0.c
    have fB0 := B0.f
    have lB0 := B0.lt
    have cB1 := B1.c
    have fB1 := B1.f
    have lB1 := B1.lt
    go_wp2_with fail
    refine (k2 _ _ _ _ (by repeat (first | with_reducible assumption | (with_reducible refine Ints.new1 _ _ _ _ ?_; first | rfl | (simp; done)) | (with_reducible refine Ints.new2 _ _ _ _ _ ?_; first | rfl | (simp; done)) | with_reducible refine Ints.alloc ?_ _ | with_reducible refine Ints.drewN ?_ _ | with_reducible refine Ints.drew ?_ | with_reducible refine Ints.below ?_ (by assumption) | assumption))).mono ?_
    rintro e w2 ⟨rfl, hb2⟩
    clear cB0 fB0 lB0 cB1 fB1 lB1
    have C0 : Cs w2 (w.heap.size) #[.int .i64 n, .int .i64 d] := Cs.keep (by repeat (first | with_reducible assumption | (with_reducible refine Cs.new _ _ _ _ ?_; first | rfl | (simp; done)) | with_reducible refine Cs.alloc ?_ _ | with_reducible refine Cs.drewN ?_ _ | with_reducible refine Cs.drew ?_ | with_reducible refine Cs.set4 ?_ _ _ _ _ | (with_reducible refine Cs.other4 ?_ ?_ _ _ _ _; rotate_left; focus (first | assumption | omega | (simp; done) | (simp; omega))) | with_reducible refine Cs.set2 ?_ _ _ | (with_reducible refine Cs.other2 ?_ ?_ _ _; rotate_left; focus (first | assumption | omega | (simp; done) | (simp; omega))) | (with_reducible refine Cs.other ?_ ?_ _; rotate_left; focus (first | assumption | omega | (simp; done) | (simp; omega))) | with_reducible refine Cs.keep ?_ (by assumption) | assumption)) hb2
    have C1 : Cs w2 (w.heap.size + 1) #[.int .i64 0, .int .i64 0] := Cs.keep (by repeat (first | with_reducible assumption | (with_reducible refine Cs.new _ _ _ _ ?_; first | rfl | (simp; done)) | with_reducible refine Cs.alloc ?_ _ | with_reducible refine Cs.drewN ?_ _ | with_reducible refine Cs.drew ?_ | with_reducible refine Cs.set4 ?_ _ _ _ _ | (with_reducible refine Cs.other4 ?_ ?_ _ _ _ _; rotate_left; focus (first | assumption | omega | (simp; done) | (simp; omega))) | with_reducible refine Cs.set2 ?_ _ _ | (with_reducible refine Cs.other2 ?_ ?_ _ _; rotate_left; focus (first | assumption | omega | (simp; done) | (simp; omega))) | (with_reducible refine Cs.other ?_ ?_ _; rotate_left; focus (first | assumption | omega | (simp; done) | (simp; omega))) | with_reducible refine Cs.keep ?_ (by assumption) | assumption)) hb2
    have cC0 := C0.c
    have fC0 := C0.f
    have lC0 := C0.lt
    have cC1 := C1.c
    have fC1 := C1.f
    have lC1 := C1.lt
    go_wp2_with fail
    exact bodyPost_ret (v := .tuple #[.agg #[.int .i64 0, .int .i64 0], .int .i64 3]) (by simp [results, Tryd.results31, go_sem, cC1, fC1, lC1]) rfl ⟨rfl, (by repeat (first | with_reducible exact Below.refl _ _ | with_reducible assumption | with_reducible refine balloc ?_ _ | with_reducible refine bdrewN ?_ _ | with_reducible refine Below.drew ?_ | (with_reducible refine bset ?_ ?_ _; rotate_left; focus (first | assumption | omega | (simp; done) | (simp; omega))) | with_reducible refine bstep ?_ (by assumption) | assumption))⟩
  · rw [decide_eq_false hin] at k2
    clear hk hin
    go_enter Tryd.func31, Tryd.ntmps31
    go_wp2_with fail
    refine (k1 _).mono ?_
    rintro e w1 ⟨rfl, hb1⟩
    have B0 : Cs w1 (w.heap.size) #[.int .i64 n, .int .i64 d] := Cs.keep (by repeat (first | with_reducible assumption | (with_reducible refine Cs.new _ _ _ _ ?_; first | rfl | (simp; done)) | with_reducible refine Cs.alloc ?_ _ | with_reducible refine Cs.drewN ?_ _ | with_reducible refine Cs.drew ?_ | with_reducible refine Cs.set4 ?_ _ _ _ _ | (with_reducible refine Cs.other4 ?_ ?_ _ _ _ _; rotate_left; focus (first | assumption | omega | (simp; done) | (simp; omega))) | with_reducible refine Cs.set2 ?_ _ _ | (with_reducible refine Cs.other2 ?_ ?_ _ _; rotate_left; focus (first | assumption | omega | (simp; done) | (simp; omega))) | (with_reducible refine Cs.other ?_ ?_ _; rotate_left; focus (first | assumption | omega | (simp; done) | (simp; omega))) | with_reducible refine Cs.keep ?_ (by assumption) | assumption)) hb1
    have B1 : Cs w1 (w.heap.size + 1) #[.int .i64 0, .int .i64 0] := Cs.keep (by repeat (first | with_reducible assumption | (with_reducible refine Cs.new _ _ _ _ ?_; first | rfl | (simp; done)) | with_reducible refine Cs.alloc ?_ _ | with_reducible refine Cs.drewN ?_ _ | with_reducible refine Cs.drew ?_ | with_reducible refine Cs.set4 ?_ _ _ _ _ | (with_reducible refine Cs.other4 ?_ ?_ _ _ _ _; rotate_left; focus (first | assumption | omega | (simp; done) | (simp; omega))) | with_reducible refine Cs.set2 ?_ _ _ | (with_reducible refine Cs.other2 ?_ ?_ _ _; rotate_left; focus (first | assumption | omega | (simp; done) | (simp; omega))) | (with_reducible refine Cs.other ?_ ?_ _; rotate_left; focus (first | assumption | omega | (simp; done) | (simp; omega))) | with_reducible refine Cs.keep ?_ (by assumption) | assumption)) hb1
    have hbw1 : Below w.heap.size w w1 := (by repeat (first | with_reducible exact Below.refl _ _ | with_reducible assumption | with_reducible refine balloc ?_ _ | with_reducible refine bdrewN ?_ _ | with_reducible refine Below.drew ?_ | (with_reducible refine bset ?_ ?_ _; rotate_left; focus (first | assumption | omega | (simp; done) | (simp; omega))) | with_reducible refine bstep ?_ (by assumption) | assumption))
    have cB0 := B0.c
    have fB0 := B0.f
    have lB0 := B0.lt
    have cB1 := B1.c
    have fB1 := B1.f
    have lB1 := B1.lt
    go_wp2_with fail
    refine (k2 _ _ _ _ (by repeat (first | with_reducible assumption | (with_reducible refine Ints.new1 _ _ _ _ ?_; first | rfl | (simp; done)) | (with_reducible refine Ints.new2 _ _ _ _ _ ?_; first | rfl | (simp; done)) | with_reducible refine Ints.alloc ?_ _ | with_reducible refine Ints.drewN ?_ _ | with_reducible refine Ints.drew ?_ | with_reducible refine Ints.below ?_ (by assumption) | assumption))).mono ?_
    rintro e w2 ⟨rfl, hb2⟩
    clear cB0 fB0 lB0 cB1 fB1 lB1
    have C1 : Cs w2 (w.heap.size + 1) #[.int .i64 0, .int .i64 0] := Cs.keep (by repeat (first | with_reducible assumption | (with_reducible refine Cs.new _ _ _ _ ?_; first | rfl | (simp; done)) | with_reducible refine Cs.alloc ?_ _ | with_reducible refine Cs.drewN ?_ _ | with_reducible refine Cs.drew ?_ | with_reducible refine Cs.set4 ?_ _ _ _ _ | (with_reducible refine Cs.other4 ?_ ?_ _ _ _ _; rotate_left; focus (first | assumption | omega | (simp; done) | (simp; omega))) | with_reducible refine Cs.set2 ?_ _ _ | (with_reducible refine Cs.other2 ?_ ?_ _ _; rotate_left; focus (first | assumption | omega | (simp; done) | (simp; omega))) | (with_reducible refine Cs.other ?_ ?_ _; rotate_left; focus (first | assumption | omega | (simp; done) | (simp; omega))) | with_reducible refine Cs.keep ?_ (by assumption) | assumption)) hb2
    have cC1 := C1.c
    have fC1 := C1.f
    have lC1 := C1.lt
    go_wp2_with fail
    exact bodyPost_ret (v := .tuple #[.agg #[.int .i64 0, .int .i64 0], .int .i64 3]) (by simp [results, Tryd.results31, go_sem, cC1, fC1, lC1]) rfl ⟨rfl, (by repeat (first | with_reducible exact Below.refl _ _ | with_reducible assumption | with_reducible refine balloc ?_ _ | with_reducible refine bdrewN ?_ _ | with_reducible refine Below.drew ?_ | (with_reducible refine bset ?_ ?_ _; rotate_left; focus (first | assumption | omega | (simp; done) | (simp; omega))) | with_reducible refine bstep ?_ (by assumption) | assumption))⟩

set_option maxHeartbeats 1000000 in
theorem next_ok (n d : Int) (k : Nat) (w : World) (h : frac n d = true) (hk1 : 1 ≤ k) (hk2 : k ≤ 1000) (hn : n ≤ 999999) :
    Calls Tryd.prog 31 #[.agg #[.int .i64 n, .int .i64 d], .int .i64 k] w fun e w' => e = RetFE (Um.nxt n d k, 0) ∧ Below w.heap.size w w' := by
  have k1 := fun W => isFraction_any n d W
  rw [h] at k1
  have k2 := fun A m cap W hz => within_any 1 1000 A m cap [(k : Int)] W hz (by have := hz.1; simp at this; omega)
  have l2 : ([(k : Int)].all fun x => !out 1 1000 x) = true := by simp [out]; omega
  rw [l2] at k2
  obtain ⟨n1, n2, d1, d2⟩ := Um.frac_bd h
  unfold RetFE
  have hn2 : ¬ 999999 < n := by omega
  clear h l2
  have hmk := make_rats k hk2
  go_enter Tryd.func31, Tryd.ntmps31
  go_wp2_with fail
  refine (k1 _).mono ?_
  rintro e w1 ⟨rfl, hb1⟩
  have B0 : Cs w1 (w.heap.size) #[.int .i64 n, .int .i64 d] := Cs.keep (by repeat (first | with_reducible assumption | (with_reducible refine Cs.new _ _ _ _ ?_; first | rfl | (simp; done)) | with_reducible refine Cs.alloc ?_ _ | with_reducible refine Cs.drewN ?_ _ | with_reducible refine Cs.drew ?_ | with_reducible refine Cs.set4 ?_ _ _ _ _ | (with_reducible refine Cs.other4 ?_ ?_ _ _ _ _; rotate_left; focus (first | assumption | omega | (simp; done) | (simp; omega))) | with_reducible refine Cs.set2 ?_ _ _ | (with_reducible refine Cs.other2 ?_ ?_ _ _; rotate_left; focus (first | assumption | omega | (simp; done) | (simp; omega))) | (with_reducible refine Cs.other ?_ ?_ _; rotate_left; focus (first | assumption | omega | (simp; done) | (simp; omega))) | with_reducible refine Cs.keep ?_ (by assumption) | assumption)) hb1
  have B1 : Cs w1 (w.heap.size + 1) #[.int .i64 0, .int .i64 0] := Cs.keep (by repeat (first | with_reducible assumption | (with_reducible refine Cs.new _ _ _ _ ?_; first | rfl | (simp; done)) | with_reducible refine Cs.alloc ?_ _ | with_reducible refine Cs.drewN ?_ _ | with_reducible refine Cs.drew ?_ | with_reducible refine Cs.set4 ?_ _ _ _ _ | (with_reducible refine Cs.other4 ?_ ?_ _ _ _ _; rotate_left; focus (first | assumption | omega | (simp; done) | (simp; omega))) | with_reducible refine Cs.set2 ?_ _ _ | (with_reducible refine Cs.other2 ?_ ?_ _ _; rotate_left; focus (first | assumption | omega | (simp; done) | (simp; omega))) | (with_reducible refine Cs.other ?_ ?_ _; rotate_left; focus (first | assumption | omega | (simp; done) | (simp; omega))) | with_reducible refine Cs.keep ?_ (by assumption) | assumption)) hb1
  have hbw1 : Below w.heap.size w w1 := (by repeat (first | with_reducible exact Below.refl _ _ | with_reducible assumption | with_reducible refine balloc ?_ _ | with_reducible refine bdrewN ?_ _ | with_reducible refine Below.drew ?_ | (with_reducible refine bset ?_ ?_ _; rotate_left; focus (first | assumption | omega | (simp; done) | (simp; omega))) | with_reducible refine bstep ?_ (by assumption) | assumption))
  have cB0 := B0.c
  have fB0 := B0.f
  have lB0 := B0.lt
  have cB1 := B1.c
  have fB1 := B1.f
  have lB1 := B1.lt
  go_wp2_with fail
  refine (k2 _ _ _ _ (by repeat (first | with_reducible assumption | (with_reducible refine Ints.new1 _ _ _ _ ?_; first | rfl | (simp; done)) | (with_reducible refine Ints.new2 _ _ _ _ _ ?_; first | rfl | (simp; done)) | with_reducible refine Ints.alloc ?_ _ | with_reducible refine Ints.drewN ?_ _ | with_reducible refine Ints.drew ?_ | with_reducible refine Ints.below ?_ (by assumption) | assumption))).mono ?_
  rintro e w2 ⟨rfl, hb2⟩
  clear cB0 fB0 lB0 cB1 fB1 lB1
  have C0 : Cs w2 (w.heap.size) #[.int .i64 n, .int .i64 d] := Cs.keep (by repeat (first | with_reducible assumption | (with_reducible refine Cs.new _ _ _ _ ?_; first | rfl | (simp; done)) | with_reducible refine Cs.alloc ?_ _ | with_reducible refine Cs.drewN ?_ _ | with_reducible refine Cs.drew ?_ | with_reducible refine Cs.set4 ?_ _ _ _ _ | (with_reducible refine Cs.other4 ?_ ?_ _ _ _ _; rotate_left; focus (first | assumption | omega | (simp; done) | (simp; omega))) | with_reducible refine Cs.set2 ?_ _ _ | (with_reducible refine Cs.other2 ?_ ?_ _ _; rotate_left; focus (first | assumption | omega | (simp; done) | (simp; omega))) | (with_reducible refine Cs.other ?_ ?_ _; rotate_left; focus (first | assumption | omega | (simp; done) | (simp; omega))) | with_reducible refine Cs.keep ?_ (by assumption) | assumption)) hb2
  have C1 : Cs w2 (w.heap.size + 1) #[.int .i64 0, .int .i64 0] := Cs.keep (by repeat (first | with_reducible assumption | (with_reducible refine Cs.new _ _ _ _ ?_; first | rfl | (simp; done)) | with_reducible refine Cs.alloc ?_ _ | with_reducible refine Cs.drewN ?_ _ | with_reducible refine Cs.drew ?_ | with_reducible refine Cs.set4 ?_ _ _ _ _ | (with_reducible refine Cs.other4 ?_ ?_ _ _ _ _; rotate_left; focus (first | assumption | omega | (simp; done) | (simp; omega))) | with_reducible refine Cs.set2 ?_ _ _ | (with_reducible refine Cs.other2 ?_ ?_ _ _; rotate_left; focus (first | assumption | omega | (simp; done) | (simp; omega))) | (with_reducible refine Cs.other ?_ ?_ _; rotate_left; focus (first | assumption | omega | (simp; done) | (simp; omega))) | with_reducible refine Cs.keep ?_ (by assumption) | assumption)) hb2
  have cC0 := C0.c
  have fC0 := C0.f
  have lC0 := C0.lt
  have cC1 := C1.c
  have fC1 := C1.f
  have lC1 := C1.lt
  go_wp2_with fail
  have hk0 : (0 : Int) < (k : Int) := by omega
  have hbw2 : Below w.heap.size w w2 := (by repeat (first | with_reducible exact Below.refl _ _ | with_reducible assumption | with_reducible refine balloc ?_ _ | with_reducible refine bdrewN ?_ _ | with_reducible refine Below.drew ?_ | (with_reducible refine bset ?_ ?_ _; rotate_left; focus (first | assumption | omega | (simp; done) | (simp; omega))) | with_reducible refine bstep ?_ (by assumption) | assumption))
  clear k1 k2 hb1 hb2
  go_loopw [31] (fun iv wr => ∃ i : Nat, i ≤ k ∧ iv = .int .i64 i ∧ Cs wr w.heap.size #[.int .i64 n, .int .i64 d] ∧ Cs wr (w.heap.size + 1) #[.int .i64 0, .int .i64 0] ∧ Fill wr w2.heap.size k i (cand n d) ∧ Below w.heap.size w wr) (fun iv _ => k - (intOf iv).toNat)
  case atStart => exact ⟨0, Nat.zero_le _, rfl, (by repeat (first | with_reducible assumption | (with_reducible refine Cs.new _ _ _ _ ?_; first | rfl | (simp; done)) | with_reducible refine Cs.alloc ?_ _ | with_reducible refine Cs.drewN ?_ _ | with_reducible refine Cs.drew ?_ | with_reducible refine Cs.set4 ?_ _ _ _ _ | (with_reducible refine Cs.other4 ?_ ?_ _ _ _ _; rotate_left; focus (first | assumption | omega | (simp; done) | (simp; omega))) | with_reducible refine Cs.set2 ?_ _ _ | (with_reducible refine Cs.other2 ?_ ?_ _ _; rotate_left; focus (first | assumption | omega | (simp; done) | (simp; omega))) | (with_reducible refine Cs.other ?_ ?_ _; rotate_left; focus (first | assumption | omega | (simp; done) | (simp; omega))) | with_reducible refine Cs.keep ?_ (by assumption) | assumption)), (by repeat (first | with_reducible assumption | (with_reducible refine Cs.new _ _ _ _ ?_; first | rfl | (simp; done)) | with_reducible refine Cs.alloc ?_ _ | with_reducible refine Cs.drewN ?_ _ | with_reducible refine Cs.drew ?_ | with_reducible refine Cs.set4 ?_ _ _ _ _ | (with_reducible refine Cs.other4 ?_ ?_ _ _ _ _; rotate_left; focus (first | assumption | omega | (simp; done) | (simp; omega))) | with_reducible refine Cs.set2 ?_ _ _ | (with_reducible refine Cs.other2 ?_ ?_ _ _; rotate_left; focus (first | assumption | omega | (simp; done) | (simp; omega))) | (with_reducible refine Cs.other ?_ ?_ _; rotate_left; focus (first | assumption | omega | (simp; done) | (simp; omega))) | with_reducible refine Cs.keep ?_ (by assumption) | assumption)), Fill.new _ _ _ _ _ rfl, (by repeat (first | with_reducible exact Below.refl _ _ | with_reducible assumption | with_reducible refine balloc ?_ _ | with_reducible refine bdrewN ?_ _ | with_reducible refine Below.drew ?_ | (with_reducible refine bset ?_ ?_ _; rotate_left; focus (first | assumption | omega | (simp; done) | (simp; omega))) | with_reducible refine bstep ?_ (by assumption) | assumption))⟩
  case round =>
    obtain ⟨i, hi, rfl, B0, B1, hF, hbr⟩ := hrel
    by_cases hik : i < k
    · obtain ⟨v0, e0⟩ := hF.ex (i * 2) (by omega)
      obtain ⟨v1, e1⟩ := hF.ex (i * 2 + 1) (by omega)
      have z0 := hF.free (i * 2)
      have z1 := hF.free (i * 2 + 1)
      have m1 : 0 ≤ n * ((i : Int) + 1) := Int.mul_nonneg (by omega) (by omega)
      have m2 : n * ((i : Int) + 1) ≤ 999999 * 1000 := Int.mul_le_mul hn (by omega) (by omega) (by omega)
      have f1 : IntKind.i64.wrap (n * ((i : Int) + 1)) = n * ((i : Int) + 1) := IntWalk.i64_in _ (by omega)
      have f2 : (n * ((i : Int) + 1)).tdiv d = n * ((i : Int) + 1) / d := Int.tdiv_eq_ediv_of_nonneg (by omega)
      have q1 : 0 ≤ n * ((i : Int) + 1) / d := Int.ediv_nonneg (by omega) (by omega)
      have q2 : n * ((i : Int) + 1) / d ≤ n * ((i : Int) + 1) := Int.ediv_le_self _ (by omega)
      have f3 : IntKind.i64.wrap (n * ((i : Int) + 1) / d) = n * ((i : Int) + 1) / d := IntWalk.i64_in _ (by omega)
      have f4 : IntKind.i64.wrap (n * ((i : Int) + 1) / d + 1) = n * ((i : Int) + 1) / d + 1 := IntWalk.i64_in _ (by omega)
      have f5 : IntKind.i64.wrap ((i : Int) + 1) = (i : Int) + 1 := IntWalk.i64_in _ (by omega)
      have g0 : (d == 0) = false := by simp; omega
      have g1 : (d = 0) = False := by simp; omega
      have HF := Lib.hid hF
      clear hF
      have cB0 := B0.c
      have fB0 := B0.f
      have lB0 := B0.lt
      go_wp2_with fail
      go_roundw
      case rel => exact ⟨i + 1, by omega, by go_num, (B0.other2' (by omega) _ _ _ _), (B1.other2' (by omega) _ _ _ _), HF.out.step hik, bset (bset hbr (by show w.heap.size ≤ w2.heap.size; omega) _) (by show w.heap.size ≤ w2.heap.size; omega) _⟩
      case measure => simp [intOf]; omega
    · obtain rfl : i = k := by omega
      have hl : ((List.range i).map (cand n d)).length = i := by simp
      have hget : ∀ j, j < i → ((List.range i).map (cand n d)).getD j (0, 0) = cand n d j := by
        intro j hj
        rw [List.getD_eq_getElem?_getD, List.getElem?_map, List.getElem?_range hj]
        rfl
      have hRats : Rats wr (some ⟨w2.heap.size, 0, none⟩) i ((List.range i).map (cand n d)) :=
        ⟨hl, fun _ => ⟨w2.heap.size, 0, rfl, hF.lt, fun j hj => by rw [hget j hj, Nat.zero_add]; exact ⟨hF.c0 j hj, hF.c1 j hj⟩⟩⟩
      have hmin : minR (((List.range i).map (cand n d)).getD 0 (0, 0)) (((List.range i).map (cand n d)).drop 1) = Um.nxt n d i := by
        rw [hget 0 (by omega)]
        have := minR_nxt n d (i - 1)
        rwa [Nat.sub_add_cancel hk1] at this
      have hRb : ∀ x ∈ (List.range i).map (cand n d), 1 ≤ x.1 ∧ x.1 ≤ 1000000000 ∧ 1 ≤ x.2 ∧ x.2 ≤ 1000 := by
        intro x hx
        obtain ⟨j, hj, rfl⟩ := List.mem_map.1 hx
        have hj' := List.mem_range.1 hj
        have m1 : 0 ≤ n * ((j : Int) + 1) := Int.mul_nonneg (by omega) (by omega)
        have m2 : n * ((j : Int) + 1) ≤ 999999 * 1000 := Int.mul_le_mul hn (by omega) (by omega) (by omega)
        have q1 : 0 ≤ n * ((j : Int) + 1) / d := Int.ediv_nonneg (by omega) (by omega)
        have q2 : n * ((j : Int) + 1) / d ≤ n * ((j : Int) + 1) := Int.ediv_le_self _ (by omega)
        simp only [cand]
        omega
      have k3 := minFunc_any (some ⟨w2.heap.size, 0, none⟩) i i 62 ((List.range i).map (cand n d)) #[] wr (enters_of Tryd.func62 (by kernel_rfl) rfl) hRats (by omega) hk1 (fun x => 1 ≤ x.1 ∧ x.1 ≤ 1000000000 ∧ 1 ≤ x.2 ∧ x.2 ≤ 1000) hRb
        (fun x y hx hy W _ => nextC_any x.1 x.2 y.1 y.2 W (by omega) (by omega) (by omega) (by omega) (by omega) (by omega) (by omega) (by omega))
      rw [hmin] at k3
      have hnx := Um.nxt_nx n d n1 d1 i hk1
      clear hmin hRats hRb hget hl hF
      generalize hr : Um.nxt n d i = r at *
      have Hr := Lib.hid hr
      clear hr
      obtain ⟨r1, r2⟩ := r
      dsimp only at k3 hnx
      have x1 := hnx.x1
      have x2 : (r1 == 0) = false := by simp; omega
      have x3 : (r1 = 0) = False := by simp; omega
      have cB1 := B1.c
      have fB1 := B1.f
      have lB1 := B1.lt
      go_wp2_with fail
      refine k3.mono ?_
      rintro e w3 ⟨rfl, hb3⟩
      clear cB1 fB1 lB1
      have D1 : Cs w3 (w.heap.size + 1) #[.int .i64 0, .int .i64 0] := Cs.keep (by repeat (first | with_reducible assumption | (with_reducible refine Cs.new _ _ _ _ ?_; first | rfl | (simp; done)) | with_reducible refine Cs.alloc ?_ _ | with_reducible refine Cs.drewN ?_ _ | with_reducible refine Cs.drew ?_ | with_reducible refine Cs.set4 ?_ _ _ _ _ | (with_reducible refine Cs.other4 ?_ ?_ _ _ _ _; rotate_left; focus (first | assumption | omega | (simp; done) | (simp; omega))) | with_reducible refine Cs.set2 ?_ _ _ | (with_reducible refine Cs.other2 ?_ ?_ _ _; rotate_left; focus (first | assumption | omega | (simp; done) | (simp; omega))) | (with_reducible refine Cs.other ?_ ?_ _; rotate_left; focus (first | assumption | omega | (simp; done) | (simp; omega))) | with_reducible refine Cs.keep ?_ (by assumption) | assumption)) hb3
      have hbw3 : Below w.heap.size w w3 := (by repeat (first | with_reducible exact Below.refl _ _ | with_reducible assumption | with_reducible refine balloc ?_ _ | with_reducible refine bdrewN ?_ _ | with_reducible refine Below.drew ?_ | (with_reducible refine bset ?_ ?_ _; rotate_left; focus (first | assumption | omega | (simp; done) | (simp; omega))) | with_reducible refine bstep ?_ (by assumption) | assumption))
      clear hb3 k3
      have lw0 : w.heap.size < w3.heap.size := by have := D1.lt; omega
      have lw1 : ¬ w.heap.size = w3.heap.size := by omega
      have cD1 := D1.c
      have fD1 := D1.f
      have lD1 := D1.lt
      go_wp2_with fail
      exact bodyPost_ret (v := .tuple #[.agg #[.int .i64 r1, .int .i64 r2], .int .i64 0]) (by simp [results, Tryd.results31, go_sem, cD1, fD1, lD1, lw0, lw1]) rfl ⟨by rw [Hr.out], (by repeat (first | with_reducible exact Below.refl _ _ | with_reducible assumption | with_reducible refine balloc ?_ _ | with_reducible refine bdrewN ?_ _ | with_reducible refine Below.drew ?_ | (with_reducible refine bset ?_ ?_ _; rotate_left; focus (first | assumption | omega | (simp; done) | (simp; omega))) | with_reducible refine bstep ?_ (by assumption) | assumption))⟩

end Go.Proofs.YtkjoamindolonaaDoor
