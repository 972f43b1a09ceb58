/- The walk of package unit's Follow. -/
import Derived.Test.YtkjoamindolonaaDoorUA12
import Derived.Test.YtkjoamindolonaaDoorUA16
namespace Go.Proofs.YtkjoamindolonaaDoor
open Go.RowKit Go.Shelf
set_option linter.unusedSimpArgs false
set_option linter.unusedVariables false
open Um (frac S4 spanB spanE sp on St stepsL inl pathB)

set_option maxHeartbeats 1000000 in
theorem follow_many (A : Option Addr) (len cap : Nat) (w : World) (h : len = 0 ∨ 64 < len) (hL : len ≤ 9223372036854775807) :
    Calls Tryd.prog 28 #[.slice A len cap] w fun e w' => e = RetFE ((0, 0), 6) ∧ Below w.heap.size w w' := by
  unfold RetFE
  rcases h with h | h
  · subst h
    go_enter Tryd.func28, Tryd.ntmps28
    go_wp2_with fail
    exact bodyPost_ret (v := .tuple #[.agg #[.int .i64 0, .int .i64 0], .int .i64 6]) (by simp [results, Tryd.results28, go_sem]) rfl ⟨rfl, (by repeat (first | with_reducible exact Below.refl _ _ | with_reducible assumption | with_reducible refine balloc ?_ _ | with_reducible refine bdrewN ?_ _ | with_reducible refine Below.drew ?_ | (with_reducible refine bset ?_ ?_ _; rotate_left; focus (first | assumption | omega | (simp; done) | (simp; omega))) | with_reducible refine bstep ?_ (by assumption) | assumption))⟩
  · have h1 : ((len : Int) == 0) = false := by simp; omega
    have h2 : (64 : Int) < (len : Int) := by omega
    go_enter Tryd.func28, Tryd.ntmps28
    go_wp2_with fail
    exact bodyPost_ret (v := .tuple #[.agg #[.int .i64 0, .int .i64 0], .int .i64 6]) (by simp [results, Tryd.results28, go_sem]) rfl ⟨rfl, (by repeat (first | with_reducible exact Below.refl _ _ | with_reducible assumption | with_reducible refine balloc ?_ _ | with_reducible refine bdrewN ?_ _ | with_reducible refine Below.drew ?_ | (with_reducible refine bset ?_ ?_ _; rotate_left; focus (first | assumption | omega | (simp; done) | (simp; omega))) | with_reducible refine bstep ?_ (by assumption) | assumption))⟩

set_option maxHeartbeats 1000000 in
theorem follow_arg (A : Option Addr) (len cap : Nat) (zs : List Int) (w : World) (hz : Ints w A len zs) (h1 : 1 ≤ len) (h2 : len ≤ 64) (hp : pathB zs = false) :
    Calls Tryd.prog 28 #[.slice A len cap] w fun e w' => e = RetFE ((0, 0), 2) ∧ Below w.heap.size w w' := by
  have k1 := fun W hzW => isPath_any A len cap zs W hzW h1 (by omega)
  rw [hp] at k1
  have g1 : ((len : Int) == 0) = false := by simp; omega
  have g2 : ¬ (64 : Int) < (len : Int) := by omega
  have g3 : (len : Int) ≤ 64 := by omega
  unfold RetFE
  clear hp
  go_enter Tryd.func28, Tryd.ntmps28
  go_wp2_with fail
  refine (k1 _ (by repeat (first | with_reducible assumption | (with_reducible refine Ints.new1 _ _ _ _ ?_; first | rfl | (simp; done)) | (with_reducible refine Ints.new2 _ _ _ _ _ ?_; first | rfl | (simp; done)) | with_reducible refine Ints.alloc ?_ _ | with_reducible refine Ints.drewN ?_ _ | with_reducible refine Ints.drew ?_ | with_reducible refine Ints.below ?_ (by assumption) | assumption))).mono ?_
  rintro e w1 ⟨rfl, hb1⟩
  have B0 : Cs w1 (w.heap.size) #[.int .i64 0, .int .i64 0] := Cs.keep (by repeat (first | with_reducible assumption | (with_reducible refine Cs.new _ _ _ _ ?_; first | rfl | (simp; done)) | with_reducible refine Cs.alloc ?_ _ | with_reducible refine Cs.drewN ?_ _ | with_reducible refine Cs.drew ?_ | with_reducible refine Cs.set4 ?_ _ _ _ _ | (with_reducible refine Cs.other4 ?_ ?_ _ _ _ _; rotate_left; focus (first | assumption | omega | (simp; done) | (simp; omega))) | with_reducible refine Cs.set2 ?_ _ _ | (with_reducible refine Cs.other2 ?_ ?_ _ _; rotate_left; focus (first | assumption | omega | (simp; done) | (simp; omega))) | (with_reducible refine Cs.other ?_ ?_ _; rotate_left; focus (first | assumption | omega | (simp; done) | (simp; omega))) | with_reducible refine Cs.keep ?_ (by assumption) | assumption)) hb1
  have cB0 := B0.c
  have fB0 := B0.f
  have lB0 := B0.lt
  go_wp2_with fail
  exact bodyPost_ret (v := .tuple #[.agg #[.int .i64 0, .int .i64 0], .int .i64 2]) (by simp [results, Tryd.results28, go_sem, cB0, fB0, lB0]) rfl ⟨rfl, (by repeat (first | with_reducible exact Below.refl _ _ | with_reducible assumption | with_reducible refine balloc ?_ _ | with_reducible refine bdrewN ?_ _ | with_reducible refine Below.drew ?_ | (with_reducible refine bset ?_ ?_ _; rotate_left; focus (first | assumption | omega | (simp; done) | (simp; omega))) | with_reducible refine bstep ?_ (by assumption) | assumption))⟩

attribute [local go_sem] Oper.semAt_some

theorem int64_info : ∃ i, Tryd.prog.info? 2 = some i := by
  have h := int_info
  cases hi : Tryd.prog.info? 2 with
  | none => rw [hi] at h; cases h
  | some i => exact ⟨i, rfl⟩

@[local go_sem] theorem step_eq (a b c d a' b' c' d' : Int) (w : World) :
    (Op.equalIn 10000 76 (.agg #[.int .i64 a, .int .i64 b, .int .i64 c, .int .i64 d]) (.agg #[.int .i64 a', .int .i64 b', .int .i64 c', .int .i64 d'])).run Tryd.prog w = .ok (a == a' && (b == b' && (c == c' && d == d'))) w := by
  obtain ⟨i, hi⟩ := int64_info
  rw [show (10000 : Nat) = 9999 + 1 from rfl, run_equalIn_array w 9999 _ _ (n := 4) (e := 2) (by kernel_rfl) hi]
  have hc : Tryd.prog.cellsOf 2 = 1 := by kernel_rfl
  simp [Op.eqItems, List.range, List.range.loop, go_sem, hc]
  by_cases h1 : a = a' <;> by_cases h2 : b = b' <;> by_cases h3 : c = c' <;> by_cases h4 : d = d' <;> simp [h1, h2, h3, h4]

set_option maxRecDepth 100000 in
set_option maxHeartbeats 1000000 in
theorem follow_any (A : Option Addr) (len cap : Nat) (zs : List Int) (w : World) (hz : Ints w A len zs) (h1 : 1 ≤ len) (h2 : len ≤ 64) (hp : pathB zs = true) (hfa : FirstAt w) :
    Calls Tryd.prog 28 #[.slice A len cap] w fun e w' => e = RetFE (if (Um.ev zs).1 ≤ 1000000000 ∧ (Um.ev zs).2 ≤ 1000000000 then (Um.ev zs, 0) else ((0, 0), 4)) ∧ Below w.heap.size w w' := by
  have k1 := fun W hzW => isPath_any A len cap zs W hzW h1 (by omega)
  rw [hp] at k1
  have hcan := (Um.pathB_iff zs).1 hp
  have h0 := Um.canon_pos zs hcan
  have g1 : ((len : Int) == 0) = false := by simp; omega
  have g2 : ¬ (64 : Int) < (len : Int) := by omega
  have g3 : (len : Int) ≤ 64 := by omega
  obtain ⟨res, hres⟩ : ∃ res : (Int × Int) × Int, (if (Um.ev zs).1 ≤ 1000000000 ∧ (Um.ev zs).2 ≤ 1000000000 then (Um.ev zs, 0) else ((0, 0), 4)) = res := ⟨_, rfl⟩
  rw [hres]
  have Hr0 := Lib.hid hres
  clear hres
  refine (callsIn_wide (n := 6)).1 ?_
  refine callsIn_of_wp_marks Tryd.func28 rfl trivial ?_ rfl
  simp only [Tryd.ntmps28, List.size_toArray, List.length_cons, List.length_nil, Nat.reduceAdd, Nat.reduceSub, Array.replicate_succ, Array.replicate_zero, List.push_toArray, List.append_toArray, List.nil_append, List.cons_append]
  have hf := hfa.2
  have hfl := hfa.1
  have Hz := Lib.hid hz
  have H0 := Lib.hid h0
  have Hfa := Lib.hid hfa
  have Hcan := Lib.hid hcan
  clear h0 hfa hp hcan
  gi_wp2_with fail
  refine ⟨trivial, (callsIn_wide.2 (k1 _ (by repeat (first | with_reducible assumption | (with_reducible refine Ints.new1 _ _ _ _ ?_; first | rfl | (simp; done)) | (with_reducible refine Ints.new2 _ _ _ _ _ ?_; first | rfl | (simp; done)) | with_reducible refine Ints.alloc ?_ _ | with_reducible refine Ints.drewN ?_ _ | with_reducible refine Ints.drew ?_ | with_reducible refine Ints.below ?_ (by assumption) | assumption)))).mono ?_⟩
  rintro e w1 ⟨rfl, hb1⟩
  have B0 : Cs w1 (w.heap.size) #[.int .i64 0, .int .i64 0] := Cs.keep (by repeat (first | with_reducible assumption | (with_reducible refine Cs.new _ _ _ _ ?_; first | rfl | (simp; done)) | with_reducible refine Cs.alloc ?_ _ | with_reducible refine Cs.drewN ?_ _ | with_reducible refine Cs.drew ?_ | with_reducible refine Cs.set4 ?_ _ _ _ _ | (with_reducible refine Cs.other4 ?_ ?_ _ _ _ _; rotate_left; focus (first | assumption | omega | (simp; done) | (simp; omega))) | with_reducible refine Cs.set2 ?_ _ _ | (with_reducible refine Cs.other2 ?_ ?_ _ _; rotate_left; focus (first | assumption | omega | (simp; done) | (simp; omega))) | (with_reducible refine Cs.other ?_ ?_ _; rotate_left; focus (first | assumption | omega | (simp; done) | (simp; omega))) | with_reducible refine Cs.keep ?_ (by assumption) | assumption)) hb1
  have hbw1 : Below w.heap.size w w1 := (by repeat (first | with_reducible exact Below.refl _ _ | with_reducible assumption | with_reducible refine balloc ?_ _ | with_reducible refine bdrewN ?_ _ | with_reducible refine Below.drew ?_ | (with_reducible refine bset ?_ ?_ _; rotate_left; focus (first | assumption | omega | (simp; done) | (simp; omega))) | with_reducible refine bstep ?_ (by assumption) | assumption))
  have hf1 := (Hfa.out.below hbw1).2
  have hfl1 := (Hfa.out.below hbw1).1
  clear hf hfl hb1 k1
  gi_wp2_with fail
  refine ⟨trivial, (callsIn_wide.2 (steps_any _ _ _ _)).mono ?_⟩
  rintro e w2 ⟨rfl, rfl⟩
  gi_wp2_with fail
  have hlt1 := B0.lt
  obtain ⟨Wl, hWl⟩ : ∃ Wl, (((w1.alloc (.cells #[.int .i64 0] 3)).alloc (.cells #[.int .i64 1, .int .i64 0, .int .i64 0, .int .i64 1] 76)).alloc (.cells #[.slice A len cap] 40)) = Wl := ⟨_, rfl⟩
  have Br : Cs Wl w.heap.size #[.int .i64 0, .int .i64 0] := by rw [← hWl]; exact (by repeat (first | with_reducible assumption | (with_reducible refine Cs.new _ _ _ _ ?_; first | rfl | (simp; done)) | with_reducible refine Cs.alloc ?_ _ | with_reducible refine Cs.drewN ?_ _ | with_reducible refine Cs.drew ?_ | with_reducible refine Cs.set4 ?_ _ _ _ _ | (with_reducible refine Cs.other4 ?_ ?_ _ _ _ _; rotate_left; focus (first | assumption | omega | (simp; done) | (simp; omega))) | with_reducible refine Cs.set2 ?_ _ _ | (with_reducible refine Cs.other2 ?_ ?_ _ _; rotate_left; focus (first | assumption | omega | (simp; done) | (simp; omega))) | (with_reducible refine Cs.other ?_ ?_ _; rotate_left; focus (first | assumption | omega | (simp; done) | (simp; omega))) | with_reducible refine Cs.keep ?_ (by assumption) | assumption))
  have Bm : Cs Wl w1.heap.size #[.int .i64 0] := by rw [← hWl]; exact (by repeat (first | with_reducible assumption | (with_reducible refine Cs.new _ _ _ _ ?_; first | rfl | (simp; done)) | with_reducible refine Cs.alloc ?_ _ | with_reducible refine Cs.drewN ?_ _ | with_reducible refine Cs.drew ?_ | with_reducible refine Cs.set4 ?_ _ _ _ _ | (with_reducible refine Cs.other4 ?_ ?_ _ _ _ _; rotate_left; focus (first | assumption | omega | (simp; done) | (simp; omega))) | with_reducible refine Cs.set2 ?_ _ _ | (with_reducible refine Cs.other2 ?_ ?_ _ _; rotate_left; focus (first | assumption | omega | (simp; done) | (simp; omega))) | (with_reducible refine Cs.other ?_ ?_ _; rotate_left; focus (first | assumption | omega | (simp; done) | (simp; omega))) | with_reducible refine Cs.keep ?_ (by assumption) | assumption))
  have Bo : Cs Wl (w1.heap.size + 1) #[.int .i64 1, .int .i64 0, .int .i64 0, .int .i64 1] := by rw [← hWl]; exact (by repeat (first | with_reducible assumption | (with_reducible refine Cs.new _ _ _ _ ?_; first | rfl | (simp; done)) | with_reducible refine Cs.alloc ?_ _ | with_reducible refine Cs.drewN ?_ _ | with_reducible refine Cs.drew ?_ | with_reducible refine Cs.set4 ?_ _ _ _ _ | (with_reducible refine Cs.other4 ?_ ?_ _ _ _ _; rotate_left; focus (first | assumption | omega | (simp; done) | (simp; omega))) | with_reducible refine Cs.set2 ?_ _ _ | (with_reducible refine Cs.other2 ?_ ?_ _ _; rotate_left; focus (first | assumption | omega | (simp; done) | (simp; omega))) | (with_reducible refine Cs.other ?_ ?_ _; rotate_left; focus (first | assumption | omega | (simp; done) | (simp; omega))) | with_reducible refine Cs.keep ?_ (by assumption) | assumption))
  have hbox : Wl.cell? ⟨w1.heap.size + 1 + 1, 0, none⟩ = some (.slice A len cap) := by rw [← hWl]; exact ((Cs.new _ (w1.heap.size + 1 + 1) #[.slice A len cap] 40 (by simp)).c 0)
  have hbl : Below w.heap.size w Wl := by rw [← hWl]; exact (by repeat (first | with_reducible exact Below.refl _ _ | with_reducible assumption | with_reducible refine balloc ?_ _ | with_reducible refine bdrewN ?_ _ | with_reducible refine Below.drew ?_ | (with_reducible refine bset ?_ ?_ _; rotate_left; focus (first | assumption | omega | (simp; done) | (simp; omega))) | with_reducible refine bstep ?_ (by assumption) | assumption))
  have hsz : Wl.heap.size = w1.heap.size + 3 := by rw [← hWl]; simp
  rw [hWl]
  clear hWl B0
  have HA : ∀ b off, 0 < len → A = some ⟨b, off, none⟩ → b < w.heap.size := by
    intro b off h e
    obtain ⟨b', off', e', hl, _⟩ := Hz.out.2 h
    rw [e] at e'
    injection e' with e'
    injection e' with e'
    omega
  obtain ⟨I, hIdef⟩ : ∃ I : List St → World → Prop, I = fun pre W => Cs W w.heap.size #[.int .i64 0, .int .i64 0] ∧ Cs W w1.heap.size #[.int .i64 (pre.length : Nat)] ∧ Cs W (w1.heap.size + 1) #[.int .i64 (lastSt pre).1, .int .i64 (lastSt pre).2.1, .int .i64 (lastSt pre).2.2.1, .int .i64 (lastSt pre).2.2.2] ∧ Below w.heap.size w W := ⟨_, rfl⟩
  have hI : Bears (fun i => (i = Wl.heap.size + 2) ∨ i = Wl.heap.size + 1) I := by
    intro pre W W' h ht
    rw [hIdef] at h ⊢
    exact ⟨h.1.turns ht (fun k => by rcases k with k | k <;> omega), h.2.1.turns ht (fun k => by rcases k with k | k <;> omega), h.2.2.1.turns ht (fun k => by rcases k with k | k <;> omega), Turns.below h.2.2.2 ht (fun i k => by rcases k with k | k <;> omega) (by have := h.1.lt; omega)⟩
  have hK1 : ∀ i, (i = Wl.heap.size + 2 ∨ (0 < len ∧ ∃ off, A = some ⟨i, off, none⟩)) → ¬ (i = Wl.heap.size + 1) := by
    rintro i (h | ⟨hp, off, e⟩)
    · omega
    · have := HA i off hp e
      omega
  have hK2 : ∀ i, (i = Wl.heap.size + 2 ∨ (0 < len ∧ ∃ off, A = some ⟨i, off, none⟩)) → ¬ (i = w1.heap.size + 1 ∨ i = w1.heap.size) := by
    rintro i (h | ⟨hp, off, e⟩)
    · omega
    · have := HA i off hp e
      omega
  have Hlen : Hid ((stepsL Um.first zs).length ≤ 64) := Lib.hid (Nat.le_trans (Um.stepsL_le zs Um.first) (by have := Hz.out.1; omega))
  refine wpIn_rangeList rfl (by omega) (gf := 69) (lb := #[.pointer (some ⟨w1.heap.size + 1 + 1, 0, none⟩)]) rfl trivial (enters_of Tryd.func69 (by kernel_rfl) rfl)
    (steps_in 5 (by omega) (w1.heap.size + 1 + 1) len cap A zs Wl hbox (Hz.out.below hbl) (by omega) H0.out (Hfa.out.below hbl))
    (fun i hi => by have hi' : i = Wl.heap.size + 2 := hi; omega) (fun h1 h2 => h1.trans h2)
    (fun W o' => KpS.of_turns (O := fun i => i = Wl.heap.size + 1) (Turns.putObj o' rfl) hK1) (fun _ _ _ => trivial) (Below.refl _ _) (fun _ => rfl)
    I (fun _ _ _ => False) hI (fun _ _ _ _ h _ => h.elim) (by rw [hIdef]; exact ⟨Br, Bm, Bo, hbl⟩)
    (fun pre x a' W => ∃ b4 : Nat, Wl.heap.size + 2 ≤ b4 ∧ Cs W b4 #[.int .i64 x.1, .int .i64 x.2.1, .int .i64 x.2.2.1, .int .i64 x.2.2.2] ∧ I pre W ∧
      a' = { tmps := #[.slice A len cap, undef, .pointer (some ⟨w.heap.size, 0, none⟩), .int .i64 0, .pointer (some ⟨w1.heap.size, 0, none⟩), .pointer (some ⟨w1.heap.size + 1, 0, none⟩), .pointer (some ⟨b4, 0, none⟩), .bool false, .slice A len cap, .int .i64 len, .bool false, .bool false, .slice A len cap, .int .i64 len, .bool false, .bool false, undef, .bool false, .slice A len cap, .bool true, .bool false, undef, .agg #[.int .i64 1, .int .i64 0, .int .i64 0, .int .i64 1], .slice A len cap, .func (.func 69) #[] #[.pointer (some ⟨w1.heap.size + 1 + 1, 0, none⟩)], .agg #[.int .i64 x.1, .int .i64 x.2.1, .int .i64 x.2.2.1, .int .i64 x.2.2.2], undef, undef, undef, undef, undef, undef, undef, undef, undef, undef, undef, undef, undef, undef, undef], defers := [] })
    ?hax ?assign ?body ?done ?stop
  case hax =>
    rintro pre x a' W o' ⟨b4, h4, B4, hi, rfl⟩
    exact ⟨b4, h4, B4.turns (O := fun i => i = Wl.heap.size + 1) (Turns.putObj o' rfl) (fun k => by have k' : b4 = Wl.heap.size + 1 := k; omega), hI _ _ _ hi (Turns.putObj o' (.inr rfl)), rfl⟩
  case assign =>
    intro l pre x W K hpx hi hW hK
    gi_wp2_with fail
    have T : Turns (fun _ => False) W (W.alloc (.cells #[.int .i64 x.1, .int .i64 x.2.1, .int .i64 x.2.2.1, .int .i64 x.2.2.2] 76)) := Turns.of_below (balloc (Below.refl _ _) _)
    exact hK _ _ (Keeps2.of_turns T id id hW) (KpS.of_turns T (fun _ _ h => h)) ⟨W.heap.size, hW, Cs.new _ _ _ _ rfl, hI _ _ _ hi (T.mono (fun _ h => h.elim)), rfl⟩
  case body =>
    rintro l pre x a' W hpx ⟨b4, h4, B4, hi, rfl⟩ hW
    have hi' := hi
    rw [hIdef] at hi'
    obtain ⟨hi1, him, hi2, hi3⟩ := hi'
    have hple : pre.length ≤ 64 := by
      have h1 := Hlen.out
      have h2 := hpx.length_le
      simp at h2
      omega
    have T : Turns (fun i => i = w1.heap.size + 1 ∨ i = w1.heap.size) W (((((W.setCell ⟨w1.heap.size + 1, 0, none⟩ (.int .i64 x.1)).setCell ⟨w1.heap.size + 1, 1, none⟩ (.int .i64 x.2.1)).setCell ⟨w1.heap.size + 1, 2, none⟩ (.int .i64 x.2.2.1)).setCell ⟨w1.heap.size + 1, 3, none⟩ (.int .i64 x.2.2.2)).setCell ⟨w1.heap.size, 0, none⟩ (.int .i64 ((pre.length : Int) + 1))) :=
      (turns_set4 (w := W) (g := w1.heap.size + 1) (.int .i64 x.1) (.int .i64 x.2.1) (.int .i64 x.2.2.1) (.int .i64 x.2.2.2) (.inl rfl)).trans (Turns.setCell (p := ⟨w1.heap.size, 0, none⟩) _ (.inr rfl))
    have hpost : I (pre ++ [x]) (((((W.setCell ⟨w1.heap.size + 1, 0, none⟩ (.int .i64 x.1)).setCell ⟨w1.heap.size + 1, 1, none⟩ (.int .i64 x.2.1)).setCell ⟨w1.heap.size + 1, 2, none⟩ (.int .i64 x.2.2.1)).setCell ⟨w1.heap.size + 1, 3, none⟩ (.int .i64 x.2.2.2)).setCell ⟨w1.heap.size, 0, none⟩ (.int .i64 ((pre.length : Int) + 1))) := by
      rw [hIdef]
      refine ⟨(hi1.other4 (by omega) _ _ _ _).other (by show w.heap.size ≠ w1.heap.size; omega) _, ?_, ?_, bset (bset4 hi3 (by omega) _ _ _ _) (by show w.heap.size ≤ w1.heap.size; omega) _⟩
      · have := (him.other4 (g' := w1.heap.size + 1) (by omega) (.int .i64 x.1) (.int .i64 x.2.1) (.int .i64 x.2.2.1) (.int .i64 x.2.2.2)).set 0 (.int .i64 ((pre.length : Int) + 1)) (by simp)
        have e : ((pre ++ [x]).length : Int) = (pre.length : Int) + 1 := by simp
        rw [e]
        exact this
      · rw [lastSt_concat]
        exact (hi2.set4 _ _ _ _).other (by show w1.heap.size + 1 ≠ w1.heap.size; omega) _
    have Hpost := Lib.hid hpost
    have hT := Lib.hid T
    clear hpost T
    have cB4 := B4.c
    have fB4 := B4.f
    have lB4 := B4.lt
    have chi2 := hi2.c
    have fhi2 := hi2.f
    have lhi2 := hi2.lt
    have chim := him.c
    have fhim := him.f
    have lhim := him.lt
    gi_wp2_with fail
    exact ⟨Keeps2.of_turns hT.out (fun k => by have k' : Wl.heap.size = w1.heap.size + 1 ∨ Wl.heap.size = w1.heap.size := k; omega) (fun k => by have k' : Wl.heap.size + 1 = w1.heap.size + 1 ∨ Wl.heap.size + 1 = w1.heap.size := k; omega) hW, KpS.of_turns hT.out hK2, Hpost.out⟩
  case done =>
    intro W _ hi hD
    have hsz' : w1.heap.size + 3 ≤ Wl.heap.size := by omega
    clear hsz
    rw [hIdef] at hi
    obtain ⟨hi1, him, hi2, hi3⟩ := hi
    obtain ⟨hne, hh0, ht1⟩ := Um.canon_ge zs Hcan.out
    have hzl := Hz.out.1
    have hsf := Um.steps_first zs hne hh0 ht1
    have hple := Um.stepsL_le zs Um.first
    have hfW := (Hfa.out.below hi3).2
    have hfl := (Hfa.out.below hi3).1
    by_cases hin : (Um.ev zs).1 ≤ 1000000000 ∧ (Um.ev zs).2 ≤ 1000000000
    · have hls : lastSt (stepsL Um.first zs) = Um.fw Um.first zs := Um.last_first zs hne hh0 ht1 hin.1 hin.2
      have hfw := Um.fw_first zs
      have hev := Um.canon_ev zs Hcan.out
      rw [hsf.2 hin, hzl] at him
      rw [hls] at hi2
      have Hres : Hid (res = (((Um.fw Um.first zs).1, (Um.fw Um.first zs).2.1), 0)) := by
        refine Lib.hid (Hr0.out.symm.trans ?_)
        rw [if_pos hin, hfw.1, hfw.2]
      have hq : ((Um.fw Um.first zs).2.1 == 0) = false := by rw [hfw.2]; simp; omega
      have hq2 : ((Um.fw Um.first zs).2.1 = 0) = False := by rw [hfw.2]; simp; omega
      clear hsf hple hls hfw hev hin hne hh0 ht1
      generalize Um.fw Um.first zs = r at *
      have HD := Lib.hid hD
      clear hD
      have hltD : w.heap.size < W.heap.size := hi1.lt
      have chi1 := hi1.c
      have fhi1 := hi1.f
      have lhi1 := hi1.lt
      have chim := him.c
      have fhim := him.f
      have lhim := him.lt
      have chi2 := hi2.c
      have fhi2 := hi2.f
      have lhi2 := hi2.lt
      gi_wp2_with fail
      refine ⟨trivial, (callsIn_wide.2 (now_any _ _ _ _ _)).mono ?_⟩
      rintro e w5 ⟨rfl, hb5⟩
      clear chi1 fhi1 lhi1 chim fhim lhim chi2 fhi2 lhi2
      have C0 : Cs w5 (w.heap.size) #[.int .i64 0, .int .i64 0] := Cs.keep (by repeat (first | with_reducible assumption | (with_reducible refine Cs.new _ _ _ _ ?_; first | rfl | (simp; done)) | with_reducible refine Cs.alloc ?_ _ | with_reducible refine Cs.drewN ?_ _ | with_reducible refine Cs.drew ?_ | with_reducible refine Cs.set4 ?_ _ _ _ _ | (with_reducible refine Cs.other4 ?_ ?_ _ _ _ _; rotate_left; focus (first | assumption | omega | (simp; done) | (simp; omega))) | with_reducible refine Cs.set2 ?_ _ _ | (with_reducible refine Cs.other2 ?_ ?_ _ _; rotate_left; focus (first | assumption | omega | (simp; done) | (simp; omega))) | (with_reducible refine Cs.other ?_ ?_ _; rotate_left; focus (first | assumption | omega | (simp; done) | (simp; omega))) | with_reducible refine Cs.keep ?_ (by assumption) | assumption)) hb5
      have hD5 := (hb5.block Wl.heap.size (Array.getElem?_eq_some_iff.1 HD.out).1).trans HD.out
      have hbw5 : Below w.heap.size w w5 := (by repeat (first | with_reducible exact Below.refl _ _ | with_reducible assumption | with_reducible refine balloc ?_ _ | with_reducible refine bdrewN ?_ _ | with_reducible refine Below.drew ?_ | (with_reducible refine bset ?_ ?_ _; rotate_left; focus (first | assumption | omega | (simp; done) | (simp; omega))) | with_reducible refine bstep ?_ (by assumption) | assumption))
      clear hb5 HD hfW hfl hq hq2 hi1 him hi2 hi3
      have T : Turns (fun i => i = w.heap.size) w5 ((w5.setCell ⟨w.heap.size, 0, none⟩ (.int .i64 r.1)).setCell ⟨w.heap.size, 1, none⟩ (.int .i64 r.2.1)) := (Turns.setCell (O := fun i => i = w.heap.size) (p := ⟨w.heap.size, 0, none⟩) _ rfl).trans (Turns.setCell (O := fun i => i = w.heap.size) (p := ⟨w.heap.size, 1, none⟩) _ rfl)
      have HD6 := Lib.hid ((T.block Wl.heap.size (Array.getElem?_eq_some_iff.1 hD5).1 (fun k => by have k' : Wl.heap.size = w.heap.size := k; omega)).trans hD5)
      have HB6 := Lib.hid (C0.set2 (.int .i64 r.1) (.int .i64 r.2.1))
      have Hb6 := Lib.hid (bset2 hbw5 (Nat.le_refl w.heap.size) (.int .i64 r.1) (.int .i64 r.2.1))
      clear T hD5
      have cC0 := C0.c
      have fC0 := C0.f
      have lC0 := C0.lt
      gi_wp2_with fail
      clear cC0 fC0 lC0
      generalize ((w5.setCell ⟨w.heap.size, 0, none⟩ (.int .i64 r.1)).setCell ⟨w.heap.size, 1, none⟩ (.int .i64 r.2.1)) = W6 at *
      have T7 : Turns (fun i => i = Wl.heap.size) W6 (W6.putObj Wl.heap.size (.deferred none)) := Turns.putObj _ rfl
      have B7 := HB6.out.turns T7 (fun k => by have k' : w.heap.size = Wl.heap.size := k; omega)
      have hb7 := Turns.below Hb6.out T7 (fun i k => by have k' : i = Wl.heap.size := k; omega) (by have := HB6.out.lt; omega)
      refine ⟨by simp, .inl ⟨_, _, rfl, run_takeDeferred HD6.out, ?_⟩⟩
      have c7 := B7.c
      exact ⟨.tuple #[.agg #[.int .i64 r.1, .int .i64 r.2.1], .int .i64 0], by simp [results, Tryd.results28, go_sem, c7], by rw [Hres.out]; rfl, hb7⟩
    · have Hres : Hid (res = ((0, 0), 4)) := by
        refine Lib.hid (Hr0.out.symm.trans ?_)
        rw [if_neg hin]
      have hm : (stepsL Um.first zs).length < len := by
        have h3 : ¬ (stepsL Um.first zs).length = zs.length := fun h => hin (hsf.1 h)
        omega
      clear hsf hple hin hne hh0 ht1
      generalize (stepsL Um.first zs).length = m at *
      generalize lastSt (stepsL Um.first zs) = r at *
      have hm1 : (m : Int) < (len : Int) := by omega
      have hD5 := hD
      clear hD
      have hbw5 := hi3
      have chim := him.c
      have fhim := him.f
      have lhim := him.lt
      have chi2 := hi2.c
      have fhi2 := hi2.f
      have lhi2 := hi2.lt
      have T : Turns (fun i => i = w.heap.size) W ((W.setCell ⟨w.heap.size, 0, none⟩ (.int .i64 0)).setCell ⟨w.heap.size, 1, none⟩ (.int .i64 0)) := (Turns.setCell (O := fun i => i = w.heap.size) (p := ⟨w.heap.size, 0, none⟩) _ rfl).trans (Turns.setCell (O := fun i => i = w.heap.size) (p := ⟨w.heap.size, 1, none⟩) _ rfl)
      have HD6 := Lib.hid ((T.block Wl.heap.size (Array.getElem?_eq_some_iff.1 hD5).1 (fun k => by have k' : Wl.heap.size = w.heap.size := k; omega)).trans hD5)
      have HB6 := Lib.hid (hi1.set2 (.int .i64 0) (.int .i64 0))
      have Hb6 := Lib.hid (bset2 hbw5 (Nat.le_refl w.heap.size) (.int .i64 0) (.int .i64 0))
      clear T hD5
      have chi1 := hi1.c
      have fhi1 := hi1.f
      have lhi1 := hi1.lt
      gi_wp2_with fail
      clear chi1 fhi1 lhi1
      generalize ((W.setCell ⟨w.heap.size, 0, none⟩ (.int .i64 0)).setCell ⟨w.heap.size, 1, none⟩ (.int .i64 0)) = W6 at *
      have T7 : Turns (fun i => i = Wl.heap.size) W6 (W6.putObj Wl.heap.size (.deferred none)) := Turns.putObj _ rfl
      have B7 := HB6.out.turns T7 (fun k => by have k' : w.heap.size = Wl.heap.size := k; omega)
      have hb7 := Turns.below Hb6.out T7 (fun i k => by have k' : i = Wl.heap.size := k; omega) (by have := HB6.out.lt; omega)
      refine ⟨by simp, .inl ⟨_, _, rfl, run_takeDeferred HD6.out, ?_⟩⟩
      have c7 := B7.c
      exact ⟨.tuple #[.agg #[.int .i64 0, .int .i64 0], .int .i64 4], by simp [results, Tryd.results28, go_sem, c7], by rw [Hres.out]; rfl, hb7⟩
  case stop => intro c pre W _ h; exact h.elim

end Go.Proofs.YtkjoamindolonaaDoor
