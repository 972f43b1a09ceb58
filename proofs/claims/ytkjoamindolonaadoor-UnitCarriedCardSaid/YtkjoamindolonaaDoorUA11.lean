/- The walk of package unit's last, Simplest, Proof. -/
import Derived.Test.YtkjoamindolonaaDoorUA10
import Derived.Test.YtkjoamindolonaaDoorUA9
namespace Go.Proofs.YtkjoamindolonaaDoor
open Go.RowKit Go.Shelf
set_option linter.unusedSimpArgs false
set_option linter.unusedVariables false
open Um (frac S4 spanB spanE sp on St stepsL inl)
attribute [local go_sem] Oper.semAt_some

/-- the last step of some, or the first one -/
def lastSt (l : List St) : St := l.getLastD Um.first
theorem lastSt_concat (l : List St) (x : St) : lastSt (l ++ [x]) = x := by unfold lastSt; rw [List.getLastD_concat]

theorem Cs.turns {A B : World} {O : Nat → Prop} {g : Nat} {cs : Array Value} (h : Cs A g cs) (ht : Turns O A B) (hg : ¬ O g) : Cs B g cs := h.of_heap ht.size (ht.block g h.1 hg)

set_option maxHeartbeats 400000 in
theorem steps_any (A : Option Addr) (n c : Nat) (w : World) :
    Calls Tryd.prog 59 #[.slice A n c] w fun e w' => e = .returned (.func (.func 69) #[] #[.pointer (some ⟨w.heap.size, 0, none⟩)]) ∧ w.alloc (.cells #[.slice A n c] 40) = w' := by
  go_enter Tryd.func59, Tryd.ntmps59
  go_wp2_with fail
  go_ret
  exact ⟨rfl, rfl⟩

set_option maxRecDepth 100000 in
set_option maxHeartbeats 1000000 in
theorem last_any (A : Option Addr) (len cap : Nat) (zs : List Int) (w : World) (hz : Ints w A len zs) (hlen : len ≤ 1000) (h0 : ∀ x ∈ zs, 0 ≤ x) (hfa : FirstAt w) :
    Calls Tryd.prog 53 #[.slice A len cap] w fun e w' => e = .returned (.agg #[.int .i64 (lastSt (stepsL Um.first zs)).1, .int .i64 (lastSt (stepsL Um.first zs)).2.1, .int .i64 (lastSt (stepsL Um.first zs)).2.2.1, .int .i64 (lastSt (stepsL Um.first zs)).2.2.2]) ∧ Below w.heap.size w w' := by
  refine (callsIn_wide (n := 6)).1 ?_
  refine callsIn_of_wp_marks Tryd.func53 rfl trivial ?_ rfl
  simp only [Tryd.ntmps53, List.size_toArray, List.length_cons, List.length_nil, Nat.reduceAdd, Nat.reduceSub, Array.replicate_succ, Array.replicate_zero, List.push_toArray, List.append_toArray, List.nil_append, List.cons_append]
  have hf := hfa.2
  have hfl := hfa.1
  have Hz := Lib.hid hz
  have H0 := Lib.hid h0
  have Hfa := Lib.hid hfa
  clear hz h0 hfa
  gi_wp2_with fail
  refine ⟨trivial, (callsIn_wide.2 (steps_any _ _ _ _)).mono ?_⟩
  rintro e w1 ⟨rfl, rfl⟩
  gi_wp2_with fail
  obtain ⟨Wl, hWl⟩ : ∃ Wl, (((w.alloc (.cells #[.int .i64 0, .int .i64 0, .int .i64 0, .int .i64 0] 76)).alloc (.cells #[.int .i64 1, .int .i64 0, .int .i64 0, .int .i64 1] 76)).alloc (.cells #[.slice A len cap] 40)) = Wl := ⟨_, rfl⟩
  have Br : Cs Wl w.heap.size #[.int .i64 0, .int .i64 0, .int .i64 0, .int .i64 0] := by rw [← hWl]; exact (by repeat (first | with_reducible assumption | (with_reducible refine Cs.new _ _ _ _ ?_; first | rfl | (simp; done)) | with_reducible refine Cs.alloc ?_ _ | with_reducible refine Cs.drewN ?_ _ | with_reducible refine Cs.drew ?_ | with_reducible refine Cs.set4 ?_ _ _ _ _ | (with_reducible refine Cs.other4 ?_ ?_ _ _ _ _; rotate_left; focus (first | assumption | omega | (simp; done) | (simp; omega))) | with_reducible refine Cs.set2 ?_ _ _ | (with_reducible refine Cs.other2 ?_ ?_ _ _; rotate_left; focus (first | assumption | omega | (simp; done) | (simp; omega))) | (with_reducible refine Cs.other ?_ ?_ _; rotate_left; focus (first | assumption | omega | (simp; done) | (simp; omega))) | with_reducible refine Cs.keep ?_ (by assumption) | assumption))
  have Bo : Cs Wl (w.heap.size + 1) #[.int .i64 1, .int .i64 0, .int .i64 0, .int .i64 1] := by rw [← hWl]; exact (by repeat (first | with_reducible assumption | (with_reducible refine Cs.new _ _ _ _ ?_; first | rfl | (simp; done)) | with_reducible refine Cs.alloc ?_ _ | with_reducible refine Cs.drewN ?_ _ | with_reducible refine Cs.drew ?_ | with_reducible refine Cs.set4 ?_ _ _ _ _ | (with_reducible refine Cs.other4 ?_ ?_ _ _ _ _; rotate_left; focus (first | assumption | omega | (simp; done) | (simp; omega))) | with_reducible refine Cs.set2 ?_ _ _ | (with_reducible refine Cs.other2 ?_ ?_ _ _; rotate_left; focus (first | assumption | omega | (simp; done) | (simp; omega))) | (with_reducible refine Cs.other ?_ ?_ _; rotate_left; focus (first | assumption | omega | (simp; done) | (simp; omega))) | with_reducible refine Cs.keep ?_ (by assumption) | assumption))
  have hbox : Wl.cell? ⟨w.heap.size + 1 + 1, 0, none⟩ = some (.slice A len cap) := by rw [← hWl]; exact ((Cs.new _ (w.heap.size + 1 + 1) #[.slice A len cap] 40 (by simp)).c 0)
  have hbl : Below w.heap.size w Wl := by rw [← hWl]; exact (by repeat (first | with_reducible exact Below.refl _ _ | with_reducible assumption | with_reducible refine balloc ?_ _ | with_reducible refine bdrewN ?_ _ | with_reducible refine Below.drew ?_ | (with_reducible refine bset ?_ ?_ _; rotate_left; focus (first | assumption | omega | (simp; done) | (simp; omega))) | with_reducible refine bstep ?_ (by assumption) | assumption))
  have hsz : Wl.heap.size = w.heap.size + 3 := by rw [← hWl]; simp
  rw [hWl]
  clear hWl
  have HA : ∀ b off, 0 < len → A = some ⟨b, off, none⟩ → b < w.heap.size := by
    intro b off h e
    obtain ⟨b', off', e', hl, _⟩ := Hz.out.2 h
    rw [e] at e'
    injection e' with e'
    injection e' with e'
    omega
  obtain ⟨I, hIdef⟩ : ∃ I : List St → World → Prop, I = fun pre W => Cs W w.heap.size #[.int .i64 0, .int .i64 0, .int .i64 0, .int .i64 0] ∧ Cs W (w.heap.size + 1) #[.int .i64 (lastSt pre).1, .int .i64 (lastSt pre).2.1, .int .i64 (lastSt pre).2.2.1, .int .i64 (lastSt pre).2.2.2] ∧ Below w.heap.size w W := ⟨_, rfl⟩
  have hI : Bears (fun i => (i = Wl.heap.size + 2) ∨ i = Wl.heap.size + 1) I := by
    intro pre W W' h ht
    rw [hIdef] at h ⊢
    exact ⟨h.1.turns ht (fun k => by rcases k with k | k <;> omega), h.2.1.turns ht (fun k => by rcases k with k | k <;> omega), Turns.below h.2.2 ht (fun i k => by rcases k with k | k <;> omega) (by have := h.1.lt; omega)⟩
  have hK1 : ∀ i, (i = Wl.heap.size + 2 ∨ (0 < len ∧ ∃ off, A = some ⟨i, off, none⟩)) → ¬ (i = Wl.heap.size + 1) := by
    rintro i (h | ⟨hp, off, e⟩)
    · omega
    · have := HA i off hp e
      omega
  have hK2 : ∀ i, (i = Wl.heap.size + 2 ∨ (0 < len ∧ ∃ off, A = some ⟨i, off, none⟩)) → ¬ (i = w.heap.size + 1) := by
    rintro i (h | ⟨hp, off, e⟩)
    · omega
    · have := HA i off hp e
      omega
  refine wpIn_rangeList rfl (by omega) (gf := 69) (lb := #[.pointer (some ⟨w.heap.size + 1 + 1, 0, none⟩)]) rfl trivial (enters_of Tryd.func69 (by kernel_rfl) rfl)
    (steps_in 5 (by omega) (w.heap.size + 1 + 1) len cap A zs Wl hbox (Hz.out.below hbl) hlen H0.out (Hfa.out.below hbl))
    (fun i hi => by have hi' : i = Wl.heap.size + 2 := hi; omega) (fun h1 h2 => h1.trans h2)
    (fun W o' => KpS.of_turns (O := fun i => i = Wl.heap.size + 1) (Turns.putObj o' rfl) hK1) (fun _ _ _ => trivial) (Below.refl _ _) (fun _ => rfl)
    I (fun _ _ _ => False) hI (fun _ _ _ _ h _ => h.elim) (by rw [hIdef]; exact ⟨Br, Bo, hbl⟩)
    (fun pre x a' W => ∃ b4 : Nat, Wl.heap.size + 2 ≤ b4 ∧ Cs W b4 #[.int .i64 x.1, .int .i64 x.2.1, .int .i64 x.2.2.1, .int .i64 x.2.2.2] ∧ I pre W ∧
      a' = { tmps := #[.slice A len cap, undef, .pointer (some ⟨w.heap.size, 0, none⟩), .pointer (some ⟨w.heap.size + 1, 0, none⟩), .pointer (some ⟨b4, 0, none⟩), .agg #[.int .i64 1, .int .i64 0, .int .i64 0, .int .i64 1], .slice A len cap, .func (.func 69) #[] #[.pointer (some ⟨w.heap.size + 1 + 1, 0, none⟩)], .agg #[.int .i64 x.1, .int .i64 x.2.1, .int .i64 x.2.2.1, .int .i64 x.2.2.2], undef, undef], defers := [] })
    ?hax ?assign ?body ?done ?stop
  case hax =>
    rintro pre x a' W o' ⟨b4, h4, B4, hi, rfl⟩
    exact ⟨b4, h4, B4.turns (O := fun i => i = Wl.heap.size + 1) (Turns.putObj o' rfl) (fun k => by have k' : b4 = Wl.heap.size + 1 := k; omega), hI _ _ _ hi (Turns.putObj o' (.inr rfl)), rfl⟩
  case assign =>
    intro l pre x W K hpx hi hW hK
    gi_wp2_with fail
    have T : Turns (fun _ => False) W (W.alloc (.cells #[.int .i64 x.1, .int .i64 x.2.1, .int .i64 x.2.2.1, .int .i64 x.2.2.2] 76)) := Turns.of_below (balloc (Below.refl _ _) _)
    exact hK _ _ (Keeps2.of_turns T id id hW) (KpS.of_turns T (fun _ _ h => h)) ⟨W.heap.size, hW, Cs.new _ _ _ _ rfl, hI _ _ _ hi (T.mono (fun _ h => h.elim)), rfl⟩
  case body =>
    rintro l pre x a' W hpx ⟨b4, h4, B4, hi, rfl⟩ hW
    have hi' := hi
    rw [hIdef] at hi'
    obtain ⟨hi1, hi2, hi3⟩ := hi'
    have T := turns_set4 (O := fun i => i = w.heap.size + 1) (w := W) (g := w.heap.size + 1) (.int .i64 x.1) (.int .i64 x.2.1) (.int .i64 x.2.2.1) (.int .i64 x.2.2.2) rfl
    have hpost : I (pre ++ [x]) ((((W.setCell ⟨w.heap.size + 1, 0, none⟩ (.int .i64 x.1)).setCell ⟨w.heap.size + 1, 1, none⟩ (.int .i64 x.2.1)).setCell ⟨w.heap.size + 1, 2, none⟩ (.int .i64 x.2.2.1)).setCell ⟨w.heap.size + 1, 3, none⟩ (.int .i64 x.2.2.2)) := by
      rw [hIdef]
      refine ⟨hi1.other4 (by omega) _ _ _ _, ?_, bset4 hi3 (by omega) _ _ _ _⟩
      rw [lastSt_concat]
      exact hi2.set4 _ _ _ _
    have Hpost := Lib.hid hpost
    have hT := Lib.hid T
    clear hpost T
    have cB4 := B4.c
    have fB4 := B4.f
    have lB4 := B4.lt
    have chi2 := hi2.c
    have fhi2 := hi2.f
    have lhi2 := hi2.lt
    gi_wp2_with fail
    exact ⟨Keeps2.of_turns hT.out (fun k => by have k' : Wl.heap.size = w.heap.size + 1 := k; omega) (fun k => by have k' : Wl.heap.size + 1 = w.heap.size + 1 := k; omega) hW, KpS.of_turns hT.out hK2, Hpost.out⟩
  case done =>
    intro W _ hi hD
    rw [hIdef] at hi
    obtain ⟨hi1, hi2, hi3⟩ := hi
    generalize hr : lastSt (stepsL Um.first zs) = r at *
    have Hr := Lib.hid hr
    clear hr
    have T := turns_set4 (O := fun i => i = w.heap.size) (w := W) (g := w.heap.size) (.int .i64 r.1) (.int .i64 r.2.1) (.int .i64 r.2.2.1) (.int .i64 r.2.2.2) rfl
    have hD5 := (T.block Wl.heap.size (Array.getElem?_eq_some_iff.1 hD).1 (fun k => by have k' : Wl.heap.size = w.heap.size := k; omega)).trans hD
    have B5 := hi1.set4 (.int .i64 r.1) (.int .i64 r.2.1) (.int .i64 r.2.2.1) (.int .i64 r.2.2.2)
    have hb5 := bset4 hi3 (Nat.le_refl w.heap.size) (.int .i64 r.1) (.int .i64 r.2.1) (.int .i64 r.2.2.1) (.int .i64 r.2.2.2)
    have HD5 := Lib.hid hD5
    have Hb5 := Lib.hid hb5
    clear T hD5 hb5 hD
    have chi1 := hi1.c
    have fhi1 := hi1.f
    have lhi1 := hi1.lt
    have chi2 := hi2.c
    have fhi2 := hi2.f
    have lhi2 := hi2.lt
    gi_wp2_with fail
    clear chi1 fhi1 lhi1 chi2 fhi2 lhi2
    generalize ((((W.setCell ⟨w.heap.size, 0, none⟩ (.int .i64 r.1)).setCell ⟨w.heap.size, 1, none⟩ (.int .i64 r.2.1)).setCell ⟨w.heap.size, 2, none⟩ (.int .i64 r.2.2.1)).setCell ⟨w.heap.size, 3, none⟩ (.int .i64 r.2.2.2)) = W5 at *
    have T6 : Turns (fun i => i = Wl.heap.size) W5 (W5.putObj Wl.heap.size (.deferred none)) := Turns.putObj _ rfl
    have B6 := B5.turns T6 (fun k => by have k' : w.heap.size = Wl.heap.size := k; omega)
    have hb6 := Turns.below Hb5.out T6 (fun i k => by have k' : i = Wl.heap.size := k; omega) (by have := B5.lt; omega)
    refine ⟨by simp, .inl ⟨_, _, rfl, run_takeDeferred HD5.out, ?_⟩⟩
    have c6 := B6.c
    exact ⟨.agg #[.int .i64 r.1, .int .i64 r.2.1, .int .i64 r.2.2.1, .int .i64 r.2.2.2], by simp [results, Tryd.results53, go_sem, c6], by rw [Hr.out], hb6⟩
  case stop => intro c pre W _ h; exact h.elim

end Go.Proofs.YtkjoamindolonaaDoor
