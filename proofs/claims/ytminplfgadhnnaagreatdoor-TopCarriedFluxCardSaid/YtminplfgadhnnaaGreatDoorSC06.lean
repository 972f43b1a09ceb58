/- UA11 UMath3 UA12 UA14 RA8 UA15 RA9 UMath4 UA16 UA17 RA10 UA13 UA20 -/
import Derived.Test.YtminplfgadhnnaaGreatDoorSC05
import Derived.Test.YtminplfgadhnnaaGreatDoorSC01
import Derived.Deep.DeepCutAuto
import Derived.Test.YtminplfgadhnnaaGreatDoorSC03
import Derived.WalkMore
import Derived.BigRegion
/- The walk of package unit's last, Simplest, Proof. -/
section
namespace Go.Proofs.YtminplfgadhnnaaGreatDoor
open Go.RowKit Go.Shelf
set_option linter.unusedSimpArgs false
set_option linter.unusedVariables false
open Um (frac S4 spanB spanE sp on St stepsL inl)
attribute [local go_sem] Oper.semAt_some

/-- the last step of some, or the first one -/
def lastSt (l : List St) : St := l.getLastD Um.first
theorem lastSt_concat (l : List St) (x : St) : lastSt (l ++ [x]) = x := by unfold lastSt; rw [List.getLastD_concat]

set_option maxHeartbeats 400000 in
theorem steps_any_u (A : Option Addr) (n c : Nat) (w : World) :
    Calls Tryz.prog 102 #[.slice A n c] w fun e w' => e = .returned (.func (.func 148) #[] #[.pointer (some ⟨w.heap.size, 0, none⟩)]) ∧ w.alloc (.cells #[.slice A n c] 22) = w' := by
  go_enter Tryz.func102, Tryz.ntmps102
  go_wp2_with fail
  go_ret
  exact ⟨rfl, rfl⟩

set_option maxRecDepth 100000 in
set_option maxHeartbeats 1000000 in
theorem last_any (A : Option Addr) (len cap : Nat) (zs : List Int) (w : World) (hz : Ints w A len zs) (hlen : len ≤ 1000) (h0 : ∀ x ∈ zs, 0 ≤ x) (hfa : FirstAt w) :
    Calls Tryz.prog 45 #[.slice A len cap] w fun e w' => e = .returned (.agg #[.int .i64 (lastSt (stepsL Um.first zs)).1, .int .i64 (lastSt (stepsL Um.first zs)).2.1, .int .i64 (lastSt (stepsL Um.first zs)).2.2.1, .int .i64 (lastSt (stepsL Um.first zs)).2.2.2]) ∧ Below w.heap.size w w' := by
  refine (callsIn_wide (n := 6)).1 ?_
  refine callsIn_of_wp_marks Tryz.func45 rfl trivial ?_ rfl
  simp only [Tryz.ntmps45, List.size_toArray, List.length_cons, List.length_nil, Nat.reduceAdd, Nat.reduceSub, Array.replicate_succ, Array.replicate_zero, List.push_toArray, List.append_toArray, List.nil_append, List.cons_append]
  have hf := hfa.2
  have hfl := hfa.1
  have Hz := Lib.hid hz
  have H0 := Lib.hid h0
  have Hfa := Lib.hid hfa
  clear hz h0 hfa
  gi_wp2_with fail
  refine ⟨trivial, (callsIn_wide.2 (steps_any_u _ _ _ _)).mono ?_⟩
  rintro e w1 ⟨rfl, rfl⟩
  gi_wp2_with fail
  obtain ⟨Wl, hWl⟩ : ∃ Wl, (((w.alloc (.cells #[.int .i64 0, .int .i64 0, .int .i64 0, .int .i64 0] 95)).alloc (.cells #[.int .i64 1, .int .i64 0, .int .i64 0, .int .i64 1] 95)).alloc (.cells #[.slice A len cap] 22)) = Wl := ⟨_, rfl⟩
  have Br : Cs Wl w.heap.size #[.int .i64 0, .int .i64 0, .int .i64 0, .int .i64 0] := by rw [← hWl]; exact (by repeat (first | with_reducible assumption | (with_reducible refine Cs.new _ _ _ _ ?_; first | rfl | (simp; done)) | with_reducible refine Cs.alloc ?_ _ | with_reducible refine Cs.drewN ?_ _ | with_reducible refine Cs.drew ?_ | with_reducible refine Cs.set4 ?_ _ _ _ _ | (with_reducible refine Cs.other4 ?_ ?_ _ _ _ _; rotate_left; focus (first | assumption | omega | (simp; done) | (simp; omega))) | with_reducible refine Cs.set2 ?_ _ _ | (with_reducible refine Cs.other2 ?_ ?_ _ _; rotate_left; focus (first | assumption | omega | (simp; done) | (simp; omega))) | (with_reducible refine Cs.other ?_ ?_ _; rotate_left; focus (first | assumption | omega | (simp; done) | (simp; omega))) | with_reducible refine Cs.keep ?_ (by assumption) | assumption))
  have Bo : Cs Wl (w.heap.size + 1) #[.int .i64 1, .int .i64 0, .int .i64 0, .int .i64 1] := by rw [← hWl]; exact (by repeat (first | with_reducible assumption | (with_reducible refine Cs.new _ _ _ _ ?_; first | rfl | (simp; done)) | with_reducible refine Cs.alloc ?_ _ | with_reducible refine Cs.drewN ?_ _ | with_reducible refine Cs.drew ?_ | with_reducible refine Cs.set4 ?_ _ _ _ _ | (with_reducible refine Cs.other4 ?_ ?_ _ _ _ _; rotate_left; focus (first | assumption | omega | (simp; done) | (simp; omega))) | with_reducible refine Cs.set2 ?_ _ _ | (with_reducible refine Cs.other2 ?_ ?_ _ _; rotate_left; focus (first | assumption | omega | (simp; done) | (simp; omega))) | (with_reducible refine Cs.other ?_ ?_ _; rotate_left; focus (first | assumption | omega | (simp; done) | (simp; omega))) | with_reducible refine Cs.keep ?_ (by assumption) | assumption))
  have hbox : Wl.cell? ⟨w.heap.size + 1 + 1, 0, none⟩ = some (.slice A len cap) := by rw [← hWl]; exact ((Cs.new _ (w.heap.size + 1 + 1) #[.slice A len cap] 22 (by simp)).c 0)
  have hbl : Below w.heap.size w Wl := by rw [← hWl]; exact (by repeat (first | with_reducible exact Below.refl _ _ | with_reducible assumption | with_reducible refine balloc ?_ _ | with_reducible refine bdrewN ?_ _ | with_reducible refine Below.drew ?_ | (with_reducible refine bset ?_ ?_ _; rotate_left; focus (first | assumption | omega | (simp; done) | (simp; omega))) | with_reducible refine bstep ?_ (by assumption) | assumption))
  have hsz : Wl.heap.size = w.heap.size + 3 := by rw [← hWl]; simp
  rw [hWl]
  clear hWl
  have HA : ∀ b off, 0 < len → A = some ⟨b, off, none⟩ → b < w.heap.size := by
    intro b off h e
    obtain ⟨b', off', e', hl, _⟩ := Hz.out.2 h
    rw [e] at e'
    injection e' with e'
    injection e' with e'
    omega
  obtain ⟨I, hIdef⟩ : ∃ I : List St → World → Prop, I = fun pre W => Cs W w.heap.size #[.int .i64 0, .int .i64 0, .int .i64 0, .int .i64 0] ∧ Cs W (w.heap.size + 1) #[.int .i64 (lastSt pre).1, .int .i64 (lastSt pre).2.1, .int .i64 (lastSt pre).2.2.1, .int .i64 (lastSt pre).2.2.2] ∧ Below w.heap.size w W := ⟨_, rfl⟩
  have hI : Bears (fun i => (i = Wl.heap.size + 2) ∨ i = Wl.heap.size + 1) I := by
    intro pre W W' h ht
    rw [hIdef] at h ⊢
    exact ⟨h.1.turns ht (fun k => by rcases k with k | k <;> omega), h.2.1.turns ht (fun k => by rcases k with k | k <;> omega), Turns.below h.2.2 ht (fun i k => by rcases k with k | k <;> omega) (by have := h.1.lt; omega)⟩
  have hK1 : ∀ i, (i = Wl.heap.size + 2 ∨ (0 < len ∧ ∃ off, A = some ⟨i, off, none⟩)) → ¬ (i = Wl.heap.size + 1) := by
    rintro i (h | ⟨hp, off, e⟩)
    · omega
    · have := HA i off hp e
      omega
  have hK2 : ∀ i, (i = Wl.heap.size + 2 ∨ (0 < len ∧ ∃ off, A = some ⟨i, off, none⟩)) → ¬ (i = w.heap.size + 1) := by
    rintro i (h | ⟨hp, off, e⟩)
    · omega
    · have := HA i off hp e
      omega
  refine wpIn_rangeList rfl (by omega) (gf := 148) (lb := #[.pointer (some ⟨w.heap.size + 1 + 1, 0, none⟩)]) rfl trivial (enters_of Tryz.func148 (by kernel_rfl) rfl)
    (steps_in_u 5 (by omega) (w.heap.size + 1 + 1) len cap A zs Wl hbox (Hz.out.below hbl) hlen H0.out (Hfa.out.below hbl))
    (fun i hi => by have hi' : i = Wl.heap.size + 2 := hi; omega) (fun h1 h2 => h1.trans h2)
    (fun W o' => KpS.of_turns (O := fun i => i = Wl.heap.size + 1) (Turns.putObj o' rfl) hK1) (fun _ _ _ => trivial) (Below.refl _ _) (fun _ => rfl)
    I (fun _ _ _ => False) hI (fun _ _ _ _ h _ => h.elim) (by rw [hIdef]; exact ⟨Br, Bo, hbl⟩)
    (fun pre x a' W => ∃ b4 : Nat, Wl.heap.size + 2 ≤ b4 ∧ Cs W b4 #[.int .i64 x.1, .int .i64 x.2.1, .int .i64 x.2.2.1, .int .i64 x.2.2.2] ∧ I pre W ∧
      a' = { tmps := #[.slice A len cap, undef, .pointer (some ⟨w.heap.size, 0, none⟩), .pointer (some ⟨w.heap.size + 1, 0, none⟩), .pointer (some ⟨b4, 0, none⟩), .agg #[.int .i64 1, .int .i64 0, .int .i64 0, .int .i64 1], .slice A len cap, .func (.func 148) #[] #[.pointer (some ⟨w.heap.size + 1 + 1, 0, none⟩)], .agg #[.int .i64 x.1, .int .i64 x.2.1, .int .i64 x.2.2.1, .int .i64 x.2.2.2], undef, undef], defers := [] })
    ?hax ?assign ?body ?done ?stop
  case hax =>
    rintro pre x a' W o' ⟨b4, h4, B4, hi, rfl⟩
    exact ⟨b4, h4, B4.turns (O := fun i => i = Wl.heap.size + 1) (Turns.putObj o' rfl) (fun k => by have k' : b4 = Wl.heap.size + 1 := k; omega), hI _ _ _ hi (Turns.putObj o' (.inr rfl)), rfl⟩
  case assign =>
    intro l pre x W K hpx hi hW hK
    gi_wp2_with fail
    have T : Turns (fun _ => False) W (W.alloc (.cells #[.int .i64 x.1, .int .i64 x.2.1, .int .i64 x.2.2.1, .int .i64 x.2.2.2] 95)) := Turns.of_below (balloc (Below.refl _ _) _)
    exact hK _ _ (Keeps2.of_turns T id id hW) (KpS.of_turns T (fun _ _ h => h)) ⟨W.heap.size, hW, Cs.new _ _ _ _ rfl, hI _ _ _ hi (T.mono (fun _ h => h.elim)), rfl⟩
  case body =>
    rintro l pre x a' W hpx ⟨b4, h4, B4, hi, rfl⟩ hW
    have hi' := hi
    rw [hIdef] at hi'
    obtain ⟨hi1, hi2, hi3⟩ := hi'
    have T := turns_set4 (O := fun i => i = w.heap.size + 1) (w := W) (g := w.heap.size + 1) (.int .i64 x.1) (.int .i64 x.2.1) (.int .i64 x.2.2.1) (.int .i64 x.2.2.2) rfl
    have hpost : I (pre ++ [x]) ((((W.setCell ⟨w.heap.size + 1, 0, none⟩ (.int .i64 x.1)).setCell ⟨w.heap.size + 1, 1, none⟩ (.int .i64 x.2.1)).setCell ⟨w.heap.size + 1, 2, none⟩ (.int .i64 x.2.2.1)).setCell ⟨w.heap.size + 1, 3, none⟩ (.int .i64 x.2.2.2)) := by
      rw [hIdef]
      refine ⟨hi1.other4 (by omega) _ _ _ _, ?_, bset4 hi3 (by omega) _ _ _ _⟩
      rw [lastSt_concat]
      exact hi2.set4 _ _ _ _
    have Hpost := Lib.hid hpost
    have hT := Lib.hid T
    clear hpost T
    have cB4 := B4.c
    have fB4 := B4.f
    have lB4 := B4.lt
    have chi2 := hi2.c
    have fhi2 := hi2.f
    have lhi2 := hi2.lt
    gi_wp2_with fail
    exact ⟨Keeps2.of_turns hT.out (fun k => by have k' : Wl.heap.size = w.heap.size + 1 := k; omega) (fun k => by have k' : Wl.heap.size + 1 = w.heap.size + 1 := k; omega) hW, KpS.of_turns hT.out hK2, Hpost.out⟩
  case done =>
    intro W _ hi hD
    rw [hIdef] at hi
    obtain ⟨hi1, hi2, hi3⟩ := hi
    generalize hr : lastSt (stepsL Um.first zs) = r at *
    have Hr := Lib.hid hr
    clear hr
    have T := turns_set4 (O := fun i => i = w.heap.size) (w := W) (g := w.heap.size) (.int .i64 r.1) (.int .i64 r.2.1) (.int .i64 r.2.2.1) (.int .i64 r.2.2.2) rfl
    have hD5 := (T.block Wl.heap.size (Array.getElem?_eq_some_iff.1 hD).1 (fun k => by have k' : Wl.heap.size = w.heap.size := k; omega)).trans hD
    have B5 := hi1.set4 (.int .i64 r.1) (.int .i64 r.2.1) (.int .i64 r.2.2.1) (.int .i64 r.2.2.2)
    have hb5 := bset4 hi3 (Nat.le_refl w.heap.size) (.int .i64 r.1) (.int .i64 r.2.1) (.int .i64 r.2.2.1) (.int .i64 r.2.2.2)
    have HD5 := Lib.hid hD5
    have Hb5 := Lib.hid hb5
    clear T hD5 hb5 hD
    have chi1 := hi1.c
    have fhi1 := hi1.f
    have lhi1 := hi1.lt
    have chi2 := hi2.c
    have fhi2 := hi2.f
    have lhi2 := hi2.lt
    gi_wp2_with fail
    clear chi1 fhi1 lhi1 chi2 fhi2 lhi2
    generalize ((((W.setCell ⟨w.heap.size, 0, none⟩ (.int .i64 r.1)).setCell ⟨w.heap.size, 1, none⟩ (.int .i64 r.2.1)).setCell ⟨w.heap.size, 2, none⟩ (.int .i64 r.2.2.1)).setCell ⟨w.heap.size, 3, none⟩ (.int .i64 r.2.2.2)) = W5 at *
    have T6 : Turns (fun i => i = Wl.heap.size) W5 (W5.putObj Wl.heap.size (.deferred none)) := Turns.putObj _ rfl
    have B6 := B5.turns T6 (fun k => by have k' : w.heap.size = Wl.heap.size := k; omega)
    have hb6 := Turns.below Hb5.out T6 (fun i k => by have k' : i = Wl.heap.size := k; omega) (by have := B5.lt; omega)
    refine ⟨by simp, .inl ⟨_, _, rfl, run_takeDeferred HD5.out, ?_⟩⟩
    have c6 := B6.c
    exact ⟨.agg #[.int .i64 r.1, .int .i64 r.2.1, .int .i64 r.2.2.1, .int .i64 r.2.2.2], by simp [results, Tryz.results45, go_sem, c6], by rw [Hr.out], hb6⟩
  case stop => intro c pre W _ h; exact h.elim

end Go.Proofs.YtminplfgadhnnaaGreatDoor
end

/- Plain definitions of what package unit's Simplest, Proof, CheckProof compute. -/
section
set_option linter.unusedSimpArgs false
set_option linter.unusedVariables false
namespace Um

/-- the path of the simplest fraction of a span -/
def best (s : S4) : List Int := sp (s.2.1 + s.2.2.2).toNat s.1 s.2.1 s.2.2.1 s.2.2.2

structure Best (s : S4) (l : List Int) : Prop where
  can : canon l
  len : l.length ≤ 60
  simp : Simp s.1 s.2.1 s.2.2.1 s.2.2.2 (ev l).1 (ev l).2
  n : (ev l).1 ≤ 1000000000
  m : (ev l).2 ≤ 1000000000
  last : (stepsL first l).getLastD first = fw first l
  pos : ∀ x ∈ l, 0 ≤ x
  x0 : (fw first l).1 = (ev l).1
  x1 : (fw first l).2.1 = (ev l).2
  p0 : 0 ≤ (fw first l).2.2.1
  p1 : 0 ≤ (fw first l).2.2.2
  q0 : (fw first l).2.2.1 ≤ (fw first l).1
  q1 : (fw first l).2.2.2 ≤ (fw first l).2.1

theorem canon_pos (l : List Int) (h : canon l) : ∀ x ∈ l, 0 ≤ x := by
  obtain ⟨h1, h2, h3⟩ := canon_ge l h
  intro x hx
  cases l with
  | nil => exact absurd rfl h1
  | cons y l =>
    rcases List.mem_cons.1 hx with e | e
    · exact h2 x (by rw [e]; rfl)
    · have := h3 x e; omega

theorem best_ok (s : S4) (h : spanB s = true) : Best s (best s) := by
  obtain ⟨h1, h2, h3⟩ := (spanB_iff s).1 h
  have b1 := frac_bd h1
  have b2 := frac_bd h2
  have hk : s.2.1 + s.2.2.2 ≤ ((s.2.1 + s.2.2.2).toNat : Int) := by omega
  have hs := sp_simp (s.2.1 + s.2.2.2).toNat s.1 s.2.1 s.2.2.1 s.2.2.2 (by omega) (by omega) (by omega) (by omega) h3 hk
  have hc := sp_canon (s.2.1 + s.2.2.2).toNat s.1 s.2.1 s.2.2.1 s.2.2.2 (by omega) (by omega) (by omega) h3 hk
  have hm := hs.min s.1 s.2.1 (by omega) (by omega) (Int.le_refl _) h3
  obtain ⟨g1, g2, g3⟩ := canon_ge _ hc
  obtain ⟨c1, c2, c3, c4⟩ := canon_parts _ hc
  obtain ⟨f1, f2⟩ := fw_first (sp (s.2.1 + s.2.2.2).toNat s.1 s.2.1 s.2.2.1 s.2.2.2)
  unfold best
  exact ⟨hc, canon_len _ hc (by omega), hs, by omega, by omega, last_first _ g1 g2 g3 (by omega) (by omega), canon_pos _ hc, f1, f2, c1, c2, c3, c4⟩

/-- a proof out_u of a last step -/
def parts (x : St) : S4 := if (x.1 - x.2.2.1) * x.2.2.2 < x.2.2.1 * (x.2.1 - x.2.2.2) then (x.1 - x.2.2.1, x.2.1 - x.2.2.2, x.2.2.1, x.2.2.2) else (x.2.2.1, x.2.2.2, x.1 - x.2.2.1, x.2.1 - x.2.2.2)

/-- the bound of a proof, and the error -/
def checkP (s p : S4) : Int × Int :=
  if spanB s = false then (0, 2)
  else if ¬ (0 ≤ p.1 ∧ p.1 ≤ 1000000000 ∧ 0 ≤ p.2.2.2 ∧ p.2.2.2 ≤ 1000000000 ∧ 1 ≤ p.2.1 ∧ p.2.1 ≤ 1000000000 ∧ 1 ≤ p.2.2.1 ∧ p.2.2.1 ≤ 1000000000) then (0, 3)
  else if ¬ (p.1 * s.2.1 < s.1 * p.2.1 ∧ s.2.2.1 * p.2.2.2 < p.2.2.1 * s.2.2.2 ∧ p.2.1 * p.2.2.1 - p.1 * p.2.2.2 = 1) then (0, 14)
  else (p.2.1 + p.2.2.2, 0)

end Um
end

/- The walk of package unit's Simplest, Proof, CheckProof. -/
section
namespace Go.Proofs.YtminplfgadhnnaaGreatDoor
open Go.RowKit Go.Shelf
set_option linter.unusedSimpArgs false
set_option linter.unusedVariables false
open Um (frac S4 spanB spanE sp on St stepsL)

/-- a fraction and an error are handed back -/
def RetFE (r : (Int × Int) × Int) : Ending := .returned (.tuple #[.agg #[.int .i64 r.1.1, .int .i64 r.1.2], .int .i64 r.2])


set_option maxHeartbeats 1000000 in
theorem simplestE_ok (a b c d : Int) (w : World) (h : spanB (a, b, c, d) = true) (hfa : FirstAt w) :
    Calls Tryz.prog 15 #[.agg #[.int .i64 a, .int .i64 b, .int .i64 c, .int .i64 d]] w fun e w' => e = RetFE (Um.ev (Um.best (a, b, c, d)), 0) ∧ Below w.heap.size w w' := by
  have hB := Um.best_ok _ h
  obtain ⟨h1, h2, h3⟩ := (Um.spanB_iff _).1 h
  obtain ⟨a1, a2, b1, b2⟩ := Um.frac_bd (n := a) (d := b) h1
  obtain ⟨c1, c2, d1, d2⟩ := Um.frac_bd (n := c) (d := d) h2
  have k1 := fun W => checkSpan_ok a b c d W h
  have hlen := hB.len
  have k2 := fun W => simplest_any (b + d).toNat a b c d W a1 a2 b1 b2 c1 c2 d1 d2 h3 (by omega) (Nat.le_trans hlen (by omega))
  have k3 := fun A n cap W hz (hb : Below w.heap.size w W) => last_any A n cap (Um.best (a, b, c, d)) W hz (by have := hz.1; omega) hB.pos (hfa.below hb)
  have e0 : lastSt (stepsL Um.first (Um.best (a, b, c, d))) = Um.fw Um.first (Um.best (a, b, c, d)) := hB.last
  rw [e0] at k3
  have hx0 := hB.x0
  have hx1 := hB.x1
  unfold RetFE
  rw [← hx0, ← hx1]
  have k2' : ∀ W, Calls Tryz.prog 46 #[.agg #[.int .i64 a, .int .i64 b], .agg #[.int .i64 c, .int .i64 d]] W (RetInts (Um.best (a, b, c, d)) W) := k2
  unfold RetInts at k2'
  clear k2 hB hlen e0 hx0 hx1 h1 h2 h3 h hfa
  generalize Um.fw Um.first (Um.best (a, b, c, d)) = x at *
  generalize Um.best (a, b, c, d) = L at *
  obtain ⟨x0, x1, x2, x3⟩ := x
  dsimp only at k3 ⊢
  clear a1 a2 b1 b2 c1 c2 d1 d2
  go_enter Tryz.func15, Tryz.ntmps15
  go_wp2_with fail
  refine (k1 _).mono ?_
  rintro e w1 ⟨rfl, hb1⟩
  have B0 : Cs w1 (w.heap.size) #[.int .i64 a, .int .i64 b, .int .i64 c, .int .i64 d] := Cs.keep (by repeat (first | with_reducible assumption | (with_reducible refine Cs.new _ _ _ _ ?_; first | rfl | (simp; done)) | with_reducible refine Cs.alloc ?_ _ | with_reducible refine Cs.drewN ?_ _ | with_reducible refine Cs.drew ?_ | with_reducible refine Cs.set4 ?_ _ _ _ _ | (with_reducible refine Cs.other4 ?_ ?_ _ _ _ _; rotate_left; focus (first | assumption | omega | (simp; done) | (simp; omega))) | with_reducible refine Cs.set2 ?_ _ _ | (with_reducible refine Cs.other2 ?_ ?_ _ _; rotate_left; focus (first | assumption | omega | (simp; done) | (simp; omega))) | (with_reducible refine Cs.other ?_ ?_ _; rotate_left; focus (first | assumption | omega | (simp; done) | (simp; omega))) | with_reducible refine Cs.keep ?_ (by assumption) | assumption)) hb1
  have B1 : Cs w1 (w.heap.size + 1) #[.int .i64 0, .int .i64 0] := Cs.keep (by repeat (first | with_reducible assumption | (with_reducible refine Cs.new _ _ _ _ ?_; first | rfl | (simp; done)) | with_reducible refine Cs.alloc ?_ _ | with_reducible refine Cs.drewN ?_ _ | with_reducible refine Cs.drew ?_ | with_reducible refine Cs.set4 ?_ _ _ _ _ | (with_reducible refine Cs.other4 ?_ ?_ _ _ _ _; rotate_left; focus (first | assumption | omega | (simp; done) | (simp; omega))) | with_reducible refine Cs.set2 ?_ _ _ | (with_reducible refine Cs.other2 ?_ ?_ _ _; rotate_left; focus (first | assumption | omega | (simp; done) | (simp; omega))) | (with_reducible refine Cs.other ?_ ?_ _; rotate_left; focus (first | assumption | omega | (simp; done) | (simp; omega))) | with_reducible refine Cs.keep ?_ (by assumption) | assumption)) hb1
  have hbw1 : Below w.heap.size w w1 := (by repeat (first | with_reducible exact Below.refl _ _ | with_reducible assumption | with_reducible refine balloc ?_ _ | with_reducible refine bdrewN ?_ _ | with_reducible refine Below.drew ?_ | (with_reducible refine bset ?_ ?_ _; rotate_left; focus (first | assumption | omega | (simp; done) | (simp; omega))) | with_reducible refine bstep ?_ (by assumption) | assumption))
  have cB0 := B0.c
  have fB0 := B0.f
  have lB0 := B0.lt
  have cB1 := B1.c
  have fB1 := B1.f
  have lB1 := B1.lt
  go_wp2_with fail
  refine (k2' _).mono ?_
  rintro e w2 ⟨g, cc, rfl, hI, hcc, hb2⟩
  clear cB0 fB0 lB0 cB1 fB1 lB1
  have C1 : Cs w2 (w.heap.size + 1) #[.int .i64 0, .int .i64 0] := Cs.keep (by repeat (first | with_reducible assumption | (with_reducible refine Cs.new _ _ _ _ ?_; first | rfl | (simp; done)) | with_reducible refine Cs.alloc ?_ _ | with_reducible refine Cs.drewN ?_ _ | with_reducible refine Cs.drew ?_ | with_reducible refine Cs.set4 ?_ _ _ _ _ | (with_reducible refine Cs.other4 ?_ ?_ _ _ _ _; rotate_left; focus (first | assumption | omega | (simp; done) | (simp; omega))) | with_reducible refine Cs.set2 ?_ _ _ | (with_reducible refine Cs.other2 ?_ ?_ _ _; rotate_left; focus (first | assumption | omega | (simp; done) | (simp; omega))) | (with_reducible refine Cs.other ?_ ?_ _; rotate_left; focus (first | assumption | omega | (simp; done) | (simp; omega))) | with_reducible refine Cs.keep ?_ (by assumption) | assumption)) hb2
  have hbw2 : Below w.heap.size w w2 := (by repeat (first | with_reducible exact Below.refl _ _ | with_reducible assumption | with_reducible refine balloc ?_ _ | with_reducible refine bdrewN ?_ _ | with_reducible refine Below.drew ?_ | (with_reducible refine bset ?_ ?_ _; rotate_left; focus (first | assumption | omega | (simp; done) | (simp; omega))) | with_reducible refine bstep ?_ (by assumption) | assumption))
  have cC1 := C1.c
  have fC1 := C1.f
  have lC1 := C1.lt
  go_wp2_with fail
  refine (k3 _ _ _ _ hI hbw2).mono ?_
  rintro e w3 ⟨rfl, hb3⟩
  clear cC1 fC1 lC1
  have D1 : Cs w3 (w.heap.size + 1) #[.int .i64 0, .int .i64 0] := Cs.keep (by repeat (first | with_reducible assumption | (with_reducible refine Cs.new _ _ _ _ ?_; first | rfl | (simp; done)) | with_reducible refine Cs.alloc ?_ _ | with_reducible refine Cs.drewN ?_ _ | with_reducible refine Cs.drew ?_ | with_reducible refine Cs.set4 ?_ _ _ _ _ | (with_reducible refine Cs.other4 ?_ ?_ _ _ _ _; rotate_left; focus (first | assumption | omega | (simp; done) | (simp; omega))) | with_reducible refine Cs.set2 ?_ _ _ | (with_reducible refine Cs.other2 ?_ ?_ _ _; rotate_left; focus (first | assumption | omega | (simp; done) | (simp; omega))) | (with_reducible refine Cs.other ?_ ?_ _; rotate_left; focus (first | assumption | omega | (simp; done) | (simp; omega))) | with_reducible refine Cs.keep ?_ (by assumption) | assumption)) hb3
  have hbw3 : Below w.heap.size w w3 := (by repeat (first | with_reducible exact Below.refl _ _ | with_reducible assumption | with_reducible refine balloc ?_ _ | with_reducible refine bdrewN ?_ _ | with_reducible refine Below.drew ?_ | (with_reducible refine bset ?_ ?_ _; rotate_left; focus (first | assumption | omega | (simp; done) | (simp; omega))) | with_reducible refine bstep ?_ (by assumption) | assumption))
  have cD1 := D1.c
  have fD1 := D1.f
  have lD1 := D1.lt
  go_wp2_with fail
  refine (now_any _ _ _ _ _).mono ?_
  rintro e w4 ⟨rfl, hb4⟩
  clear cD1 fD1 lD1
  have E1 : Cs w4 (w.heap.size + 1) #[.int .i64 0, .int .i64 0] := Cs.keep (by repeat (first | with_reducible assumption | (with_reducible refine Cs.new _ _ _ _ ?_; first | rfl | (simp; done)) | with_reducible refine Cs.alloc ?_ _ | with_reducible refine Cs.drewN ?_ _ | with_reducible refine Cs.drew ?_ | with_reducible refine Cs.set4 ?_ _ _ _ _ | (with_reducible refine Cs.other4 ?_ ?_ _ _ _ _; rotate_left; focus (first | assumption | omega | (simp; done) | (simp; omega))) | with_reducible refine Cs.set2 ?_ _ _ | (with_reducible refine Cs.other2 ?_ ?_ _ _; rotate_left; focus (first | assumption | omega | (simp; done) | (simp; omega))) | (with_reducible refine Cs.other ?_ ?_ _; rotate_left; focus (first | assumption | omega | (simp; done) | (simp; omega))) | with_reducible refine Cs.keep ?_ (by assumption) | assumption)) hb4
  have cE1 := E1.c
  have fE1 := E1.f
  have lE1 := E1.lt
  go_wp2_with fail
  exact bodyPost_ret (v := .tuple #[.agg #[.int .i64 x0, .int .i64 x1], .int .i64 0]) (by simp [results, Tryz.results15, go_sem, cE1, fE1, lE1]) rfl ⟨rfl, (by repeat (first | with_reducible exact Below.refl _ _ | with_reducible assumption | with_reducible refine balloc ?_ _ | with_reducible refine bdrewN ?_ _ | with_reducible refine Below.drew ?_ | (with_reducible refine bset ?_ ?_ _; rotate_left; focus (first | assumption | omega | (simp; done) | (simp; omega))) | with_reducible refine bstep ?_ (by assumption) | assumption))⟩

end Go.Proofs.YtminplfgadhnnaaGreatDoor
end

/- The walk of package unit's CheckProof. -/
section
namespace Go.Proofs.YtminplfgadhnnaaGreatDoor
open Go.RowKit Go.Shelf
set_option linter.unusedSimpArgs false
set_option linter.unusedVariables false
open Um (frac S4 spanB spanE sp on St stepsL)

end Go.Proofs.YtminplfgadhnnaaGreatDoor
end

/- The walk of the reference's CheckProof. -/
section
namespace Go.Proofs.YtminplfgadhnnaaGreatDoor
open Go.RowKit Go.Shelf
set_option linter.unusedSimpArgs false
set_option linter.unusedVariables false
open Um (frac S4 spanB spanE)

end Go.Proofs.YtminplfgadhnnaaGreatDoor
end

/- The walk of package unit's Path. -/
section
namespace Go.Proofs.YtminplfgadhnnaaGreatDoor
open Go.RowKit Go.Shelf
set_option linter.unusedSimpArgs false
set_option linter.unusedVariables false
open Um (frac S4 spanB spanE sp eu)

/-- the length of a slice -/
def lenOf : Value → Nat | .slice _ n _ => n | _ => 0

end Go.Proofs.YtminplfgadhnnaaGreatDoor
end

/- Walks of the reference of layer 1: Path. -/
section
namespace Go.Proofs.YtminplfgadhnnaaGreatDoor
open Go.RowKit Go.Shelf
set_option linter.unusedSimpArgs false
set_option linter.unusedVariables false
open Um (frac S4 spanB spanE eu)

theorem own_block {w : World} {base : Nat} {e : TypeId} {s : Nat} {v : Value} {n : Nat} {xs : List Value} (h : w.ownsRow base e s v n xs) : ∀ k, v.ownBlock = some k → base ≤ k := by
  intro k hk
  rcases h.2 with ⟨rfl, _⟩ | ⟨g, cap, cur, rfl, hB, _⟩
  · cases hk
  · injection hk with hk; rw [← hk]; exact hB

end Go.Proofs.YtminplfgadhnnaaGreatDoor
end

/- Plain laws of paths: place by place, from the last number on. -/
section
set_option linter.unusedSimpArgs false
set_option linter.unusedVariables false
namespace Um

/-- number i of a path of L + 1 numbers -/
def placeOk (L i : Nat) (x : Int) : Prop := 0 ≤ x ∧ (0 < i → 1 ≤ x) ∧ (0 < i → i = L → 2 ≤ x) ∧ (L = 0 → 1 ≤ x)

def fits (zs : List Int) : Prop := (ev zs).1 ≤ 1000000000 ∧ (ev zs).2 ≤ 1000000000

end Um
end

/- The walk of package unit's isPath. -/
section
namespace Go.Proofs.YtminplfgadhnnaaGreatDoor
open Go.RowKit Go.Shelf
set_option linter.unusedSimpArgs false
set_option linter.unusedVariables false
open Um (pathB tailB)

end Go.Proofs.YtminplfgadhnnaaGreatDoor
end

/- The walk of package unit's Follow. -/
section
namespace Go.Proofs.YtminplfgadhnnaaGreatDoor
open Go.RowKit Go.Shelf
set_option linter.unusedSimpArgs false
set_option linter.unusedVariables false
open Um (frac S4 spanB spanE sp on St stepsL inl pathB)

attribute [local go_sem] Oper.semAt_some

end Go.Proofs.YtminplfgadhnnaaGreatDoor
end

/- The walk of the reference's Follow. -/
section
namespace Go.Proofs.YtminplfgadhnnaaGreatDoor
open Go.RowKit Go.Shelf
set_option linter.unusedSimpArgs false
set_option linter.unusedVariables false
open Um (ev pathB placeOk canon fits)

theorem Ints.at_ {w wr : World} {A : Option Addr} {n k : Nat} {zs : List Int} (h : Ints w A n zs) (hb : Below w.heap.size w wr) (hk : k < n) :
    ∃ b off, A = some ⟨b, off, none⟩ ∧ b < w.heap.size ∧ wr.cell? ⟨b, off + k, none⟩ = some (.int .i64 (zs.getD k 0)) := by
  obtain ⟨b, off, rfl, hlt, hc⟩ := h.2 (by omega)
  exact ⟨b, off, rfl, hlt, (hb.cell (p := ⟨b, off + k, none⟩) hlt).trans (hc k hk)⟩

end Go.Proofs.YtminplfgadhnnaaGreatDoor
end

/- The walk of package unit's Proof. -/
section
namespace Go.Proofs.YtminplfgadhnnaaGreatDoor
open Go.RowKit Go.Shelf
set_option linter.unusedSimpArgs false
set_option linter.unusedVariables false
open Um (frac S4 spanB spanE sp on St stepsL)

/-- four numbers and an error are handed back -/
def RetPE_u (r : S4 × Int) : Ending := .returned (.tuple #[.agg #[.int .i64 r.1.1, .int .i64 r.1.2.1, .int .i64 r.1.2.2.1, .int .i64 r.1.2.2.2], .int .i64 r.2])

set_option maxHeartbeats 1000000 in
theorem proofE_ok (a b c d : Int) (w : World) (h : spanB (a, b, c, d) = true) (hfa : FirstAt w) :
    Calls Tryz.prog 27 #[.agg #[.int .i64 a, .int .i64 b, .int .i64 c, .int .i64 d]] w fun e w' => e = RetPE_u (Um.parts (Um.fw Um.first (Um.best (a, b, c, d))), 0) ∧ Below w.heap.size w w' := by
  have hB := Um.best_ok _ h
  obtain ⟨h1, h2, h3⟩ := (Um.spanB_iff _).1 h
  obtain ⟨a1, a2, b1, b2⟩ := Um.frac_bd (n := a) (d := b) h1
  obtain ⟨c1, c2, d1, d2⟩ := Um.frac_bd (n := c) (d := d) h2
  have k1 := fun W => checkSpan_ok a b c d W h
  have hlen := hB.len
  have k2 := fun W => simplest_any (b + d).toNat a b c d W a1 a2 b1 b2 c1 c2 d1 d2 h3 (by omega) (Nat.le_trans hlen (by omega))
  have k3 := fun A n cap W hz (hb : Below w.heap.size w W) => last_any A n cap (Um.best (a, b, c, d)) W hz (by have := hz.1; omega) hB.pos (hfa.below hb)
  have e0 : lastSt (stepsL Um.first (Um.best (a, b, c, d))) = Um.fw Um.first (Um.best (a, b, c, d)) := hB.last
  rw [e0] at k3
  have n1 := hB.n
  have n2 := hB.m
  rw [← hB.x0] at n1
  rw [← hB.x1] at n2
  have p0 := hB.p0
  have p1 := hB.p1
  have q0 := hB.q0
  have q1 := hB.q1
  unfold RetPE_u
  have k2' : ∀ W, Calls Tryz.prog 46 #[.agg #[.int .i64 a, .int .i64 b], .agg #[.int .i64 c, .int .i64 d]] W (RetInts (Um.best (a, b, c, d)) W) := k2
  unfold RetInts at k2'
  clear k2 hB hlen e0 h1 h2 h3 h hfa
  generalize Um.fw Um.first (Um.best (a, b, c, d)) = x at *
  generalize Um.best (a, b, c, d) = L at *
  obtain ⟨x0, x1, x2, x3⟩ := x
  dsimp only at k3 n1 n2 p0 p1 q0 q1 ⊢
  clear a1 a2 b1 b2 c1 c2 d1 d2
  have k4 := fun W => less_any_u (x0 - x2) (x1 - x3) x2 x3 W (by omega) (by omega) (by omega) (by omega) (by omega) (by omega) (by omega) (by omega)
  have hdc : ∀ y : Bool, decide ((x0 - x2) * x3 < x2 * (x1 - x3)) = y → Um.parts (x0, x1, x2, x3) = if y = true then (x0 - x2, x1 - x3, x2, x3) else (x2, x3, x0 - x2, x1 - x3) := by
    intro y hy
    subst hy
    unfold Um.parts
    simp
  generalize hy : decide ((x0 - x2) * x3 < x2 * (x1 - x3)) = y at *
  rw [hdc y rfl]
  clear hdc hy
  go_enter Tryz.func27, Tryz.ntmps27
  go_wp2_with fail
  refine (k1 _).mono ?_
  rintro e w1 ⟨rfl, hb1⟩
  have B0 : Cs w1 (w.heap.size) #[.int .i64 a, .int .i64 b, .int .i64 c, .int .i64 d] := Cs.keep (by repeat (first | with_reducible assumption | (with_reducible refine Cs.new _ _ _ _ ?_; first | rfl | (simp; done)) | with_reducible refine Cs.alloc ?_ _ | with_reducible refine Cs.drewN ?_ _ | with_reducible refine Cs.drew ?_ | with_reducible refine Cs.set4 ?_ _ _ _ _ | (with_reducible refine Cs.other4 ?_ ?_ _ _ _ _; rotate_left; focus (first | assumption | omega | (simp; done) | (simp; omega))) | with_reducible refine Cs.set2 ?_ _ _ | (with_reducible refine Cs.other2 ?_ ?_ _ _; rotate_left; focus (first | assumption | omega | (simp; done) | (simp; omega))) | (with_reducible refine Cs.other ?_ ?_ _; rotate_left; focus (first | assumption | omega | (simp; done) | (simp; omega))) | with_reducible refine Cs.keep ?_ (by assumption) | assumption)) hb1
  have B1 : Cs w1 (w.heap.size + 1) #[.int .i64 0, .int .i64 0, .int .i64 0, .int .i64 0] := Cs.keep (by repeat (first | with_reducible assumption | (with_reducible refine Cs.new _ _ _ _ ?_; first | rfl | (simp; done)) | with_reducible refine Cs.alloc ?_ _ | with_reducible refine Cs.drewN ?_ _ | with_reducible refine Cs.drew ?_ | with_reducible refine Cs.set4 ?_ _ _ _ _ | (with_reducible refine Cs.other4 ?_ ?_ _ _ _ _; rotate_left; focus (first | assumption | omega | (simp; done) | (simp; omega))) | with_reducible refine Cs.set2 ?_ _ _ | (with_reducible refine Cs.other2 ?_ ?_ _ _; rotate_left; focus (first | assumption | omega | (simp; done) | (simp; omega))) | (with_reducible refine Cs.other ?_ ?_ _; rotate_left; focus (first | assumption | omega | (simp; done) | (simp; omega))) | with_reducible refine Cs.keep ?_ (by assumption) | assumption)) hb1
  have hbw1 : Below w.heap.size w w1 := (by repeat (first | with_reducible exact Below.refl _ _ | with_reducible assumption | with_reducible refine balloc ?_ _ | with_reducible refine bdrewN ?_ _ | with_reducible refine Below.drew ?_ | (with_reducible refine bset ?_ ?_ _; rotate_left; focus (first | assumption | omega | (simp; done) | (simp; omega))) | with_reducible refine bstep ?_ (by assumption) | assumption))
  have cB0 := B0.c
  have fB0 := B0.f
  have lB0 := B0.lt
  have cB1 := B1.c
  have fB1 := B1.f
  have lB1 := B1.lt
  go_wp2_with fail
  refine (k2' _).mono ?_
  rintro e w2 ⟨g, cc, rfl, hI, hcc, hb2⟩
  clear cB0 fB0 lB0 cB1 fB1 lB1
  have C1 : Cs w2 (w.heap.size + 1) #[.int .i64 0, .int .i64 0, .int .i64 0, .int .i64 0] := Cs.keep (by repeat (first | with_reducible assumption | (with_reducible refine Cs.new _ _ _ _ ?_; first | rfl | (simp; done)) | with_reducible refine Cs.alloc ?_ _ | with_reducible refine Cs.drewN ?_ _ | with_reducible refine Cs.drew ?_ | with_reducible refine Cs.set4 ?_ _ _ _ _ | (with_reducible refine Cs.other4 ?_ ?_ _ _ _ _; rotate_left; focus (first | assumption | omega | (simp; done) | (simp; omega))) | with_reducible refine Cs.set2 ?_ _ _ | (with_reducible refine Cs.other2 ?_ ?_ _ _; rotate_left; focus (first | assumption | omega | (simp; done) | (simp; omega))) | (with_reducible refine Cs.other ?_ ?_ _; rotate_left; focus (first | assumption | omega | (simp; done) | (simp; omega))) | with_reducible refine Cs.keep ?_ (by assumption) | assumption)) hb2
  have hbw2 : Below w.heap.size w w2 := (by repeat (first | with_reducible exact Below.refl _ _ | with_reducible assumption | with_reducible refine balloc ?_ _ | with_reducible refine bdrewN ?_ _ | with_reducible refine Below.drew ?_ | (with_reducible refine bset ?_ ?_ _; rotate_left; focus (first | assumption | omega | (simp; done) | (simp; omega))) | with_reducible refine bstep ?_ (by assumption) | assumption))
  have cC1 := C1.c
  have fC1 := C1.f
  have lC1 := C1.lt
  go_wp2_with fail
  refine (k3 _ _ _ _ hI hbw2).mono ?_
  rintro e w3 ⟨rfl, hb3⟩
  clear cC1 fC1 lC1
  have D1 : Cs w3 (w.heap.size + 1) #[.int .i64 0, .int .i64 0, .int .i64 0, .int .i64 0] := Cs.keep (by repeat (first | with_reducible assumption | (with_reducible refine Cs.new _ _ _ _ ?_; first | rfl | (simp; done)) | with_reducible refine Cs.alloc ?_ _ | with_reducible refine Cs.drewN ?_ _ | with_reducible refine Cs.drew ?_ | with_reducible refine Cs.set4 ?_ _ _ _ _ | (with_reducible refine Cs.other4 ?_ ?_ _ _ _ _; rotate_left; focus (first | assumption | omega | (simp; done) | (simp; omega))) | with_reducible refine Cs.set2 ?_ _ _ | (with_reducible refine Cs.other2 ?_ ?_ _ _; rotate_left; focus (first | assumption | omega | (simp; done) | (simp; omega))) | (with_reducible refine Cs.other ?_ ?_ _; rotate_left; focus (first | assumption | omega | (simp; done) | (simp; omega))) | with_reducible refine Cs.keep ?_ (by assumption) | assumption)) hb3
  have hbw3 : Below w.heap.size w w3 := (by repeat (first | with_reducible exact Below.refl _ _ | with_reducible assumption | with_reducible refine balloc ?_ _ | with_reducible refine bdrewN ?_ _ | with_reducible refine Below.drew ?_ | (with_reducible refine bset ?_ ?_ _; rotate_left; focus (first | assumption | omega | (simp; done) | (simp; omega))) | with_reducible refine bstep ?_ (by assumption) | assumption))
  have f1 : IntKind.i64.wrap (x0 - x2) = x0 - x2 := IntWalk.i64_in _ (by omega)
  have f2 : IntKind.i64.wrap (x1 - x3) = x1 - x3 := IntWalk.i64_in _ (by omega)
  clear k1 k2' k3 hI hcc n1 n2 p0 p1 q0 q1 B0 B1 C1 hbw1 hbw2 hb1 hb2 hb3
  have hne : w.heap.size + 1 < w3.heap.size := D1.lt
  go_upto_region 5 with fail
  go_cut [6, 7] (fun s6 s7 wx => ∃ g6 g7 : Nat, s6 = .pointer (some ⟨g6, 0, none⟩) ∧ s7 = .pointer (some ⟨g7, 0, none⟩) ∧ g6 ≠ g7 ∧ w3.heap.size ≤ g6 ∧ w3.heap.size ≤ g7 ∧ Cs wx g6 #[.int .i64 x2, .int .i64 x3] ∧ Cs wx g7 #[.int .i64 (x0 - x2), .int .i64 (x1 - x3)] ∧ Cs wx (w.heap.size + 1) #[.int .i64 0, .int .i64 0, .int .i64 0, .int .i64 0] ∧ Below w.heap.size w wx)
  case first =>
    obtain ⟨W, hW⟩ : ∃ W, (w3.alloc (.cells #[.int .i64 x0, .int .i64 x1, .int .i64 x2, .int .i64 x3] 95)) = W := ⟨_, rfl⟩
    have A0 : Cs W w3.heap.size #[.int .i64 x0, .int .i64 x1, .int .i64 x2, .int .i64 x3] := by rw [← hW]; exact (by repeat (first | with_reducible assumption | (with_reducible refine Cs.new _ _ _ _ ?_; first | rfl | (simp; done)) | with_reducible refine Cs.alloc ?_ _ | with_reducible refine Cs.drewN ?_ _ | with_reducible refine Cs.drew ?_ | with_reducible refine Cs.set4 ?_ _ _ _ _ | (with_reducible refine Cs.other4 ?_ ?_ _ _ _ _; rotate_left; focus (first | assumption | omega | (simp; done) | (simp; omega))) | with_reducible refine Cs.set2 ?_ _ _ | (with_reducible refine Cs.other2 ?_ ?_ _ _; rotate_left; focus (first | assumption | omega | (simp; done) | (simp; omega))) | (with_reducible refine Cs.other ?_ ?_ _; rotate_left; focus (first | assumption | omega | (simp; done) | (simp; omega))) | with_reducible refine Cs.keep ?_ (by assumption) | assumption))
    have A1 : Cs W (w.heap.size + 1) #[.int .i64 0, .int .i64 0, .int .i64 0, .int .i64 0] := by rw [← hW]; exact (by repeat (first | with_reducible assumption | (with_reducible refine Cs.new _ _ _ _ ?_; first | rfl | (simp; done)) | with_reducible refine Cs.alloc ?_ _ | with_reducible refine Cs.drewN ?_ _ | with_reducible refine Cs.drew ?_ | with_reducible refine Cs.set4 ?_ _ _ _ _ | (with_reducible refine Cs.other4 ?_ ?_ _ _ _ _; rotate_left; focus (first | assumption | omega | (simp; done) | (simp; omega))) | with_reducible refine Cs.set2 ?_ _ _ | (with_reducible refine Cs.other2 ?_ ?_ _ _; rotate_left; focus (first | assumption | omega | (simp; done) | (simp; omega))) | (with_reducible refine Cs.other ?_ ?_ _; rotate_left; focus (first | assumption | omega | (simp; done) | (simp; omega))) | with_reducible refine Cs.keep ?_ (by assumption) | assumption))
    have hbW : Below w.heap.size w W := by rw [← hW]; exact (by repeat (first | with_reducible exact Below.refl _ _ | with_reducible assumption | with_reducible refine balloc ?_ _ | with_reducible refine bdrewN ?_ _ | with_reducible refine Below.drew ?_ | (with_reducible refine bset ?_ ?_ _; rotate_left; focus (first | assumption | omega | (simp; done) | (simp; omega))) | with_reducible refine bstep ?_ (by assumption) | assumption))
    rw [hW]
    clear hW
    have cA0 := A0.c
    have fA0 := A0.f
    have lA0 := A0.lt
    have cA1 := A1.c
    have fA1 := A1.f
    have lA1 := A1.lt
    go_region_held3 (fun w' => w'.cell? ⟨w3.heap.size, 0, none⟩ = some (.int .i64 x0) ∧ w'.cell? ⟨w3.heap.size, 1, none⟩ = some (.int .i64 x1) ∧ w'.cell? ⟨w3.heap.size, 2, none⟩ = some (.int .i64 x2) ∧ w'.cell? ⟨w3.heap.size, 3, none⟩ = some (.int .i64 x3))
      (go_keep) (fail)
    all_goals (go_wp2_with fail; go_meet; exact ⟨_, _, rfl, rfl, by omega, by omega, by omega, (by repeat (first | with_reducible assumption | (with_reducible refine Cs.new _ _ _ _ ?_; first | rfl | (simp; done)) | with_reducible refine Cs.alloc ?_ _ | with_reducible refine Cs.drewN ?_ _ | with_reducible refine Cs.drew ?_ | with_reducible refine Cs.set4 ?_ _ _ _ _ | (with_reducible refine Cs.other4 ?_ ?_ _ _ _ _; rotate_left; focus (first | assumption | omega | (simp; done) | (simp; omega))) | with_reducible refine Cs.set2 ?_ _ _ | (with_reducible refine Cs.other2 ?_ ?_ _ _; rotate_left; focus (first | assumption | omega | (simp; done) | (simp; omega))) | (with_reducible refine Cs.other ?_ ?_ _; rotate_left; focus (first | assumption | omega | (simp; done) | (simp; omega))) | with_reducible refine Cs.keep ?_ (by assumption) | assumption)), (by repeat (first | with_reducible assumption | (with_reducible refine Cs.new _ _ _ _ ?_; first | rfl | (simp; done)) | with_reducible refine Cs.alloc ?_ _ | with_reducible refine Cs.drewN ?_ _ | with_reducible refine Cs.drew ?_ | with_reducible refine Cs.set4 ?_ _ _ _ _ | (with_reducible refine Cs.other4 ?_ ?_ _ _ _ _; rotate_left; focus (first | assumption | omega | (simp; done) | (simp; omega))) | with_reducible refine Cs.set2 ?_ _ _ | (with_reducible refine Cs.other2 ?_ ?_ _ _; rotate_left; focus (first | assumption | omega | (simp; done) | (simp; omega))) | (with_reducible refine Cs.other ?_ ?_ _; rotate_left; focus (first | assumption | omega | (simp; done) | (simp; omega))) | with_reducible refine Cs.keep ?_ (by assumption) | assumption)), (by repeat (first | with_reducible assumption | (with_reducible refine Cs.new _ _ _ _ ?_; first | rfl | (simp; done)) | with_reducible refine Cs.alloc ?_ _ | with_reducible refine Cs.drewN ?_ _ | with_reducible refine Cs.drew ?_ | with_reducible refine Cs.set4 ?_ _ _ _ _ | (with_reducible refine Cs.other4 ?_ ?_ _ _ _ _; rotate_left; focus (first | assumption | omega | (simp; done) | (simp; omega))) | with_reducible refine Cs.set2 ?_ _ _ | (with_reducible refine Cs.other2 ?_ ?_ _ _; rotate_left; focus (first | assumption | omega | (simp; done) | (simp; omega))) | (with_reducible refine Cs.other ?_ ?_ _; rotate_left; focus (first | assumption | omega | (simp; done) | (simp; omega))) | with_reducible refine Cs.keep ?_ (by assumption) | assumption)), (by repeat (first | with_reducible exact Below.refl _ _ | with_reducible assumption | with_reducible refine balloc ?_ _ | with_reducible refine bdrewN ?_ _ | with_reducible refine Below.drew ?_ | (with_reducible refine bset ?_ ?_ _; rotate_left; focus (first | assumption | omega | (simp; done) | (simp; omega))) | with_reducible refine bstep ?_ (by assumption) | assumption))⟩)
  case rest =>
    obtain ⟨g6, g7, rfl, rfl, hne67, h6, h7, Bn6, Bn7, Bz, hbx⟩ := hcut
    clear f1 f2
    have cBn6 := Bn6.c
    have fBn6 := Bn6.f
    have lBn6 := Bn6.lt
    have cBn7 := Bn7.c
    have fBn7 := Bn7.f
    have lBn7 := Bn7.lt
    have cBz := Bz.c
    have fBz := Bz.f
    have lBz := Bz.lt
    go_wp2_with fail
    refine (k4 _).mono ?_
    rintro e w4 ⟨rfl, hb4⟩
    clear cBn6 fBn6 lBn6 cBn7 fBn7 lBn7 cBz fBz lBz
    have E6 : Cs w4 g6 #[.int .i64 x2, .int .i64 x3] := Cs.keep (by repeat (first | with_reducible assumption | (with_reducible refine Cs.new _ _ _ _ ?_; first | rfl | (simp; done)) | with_reducible refine Cs.alloc ?_ _ | with_reducible refine Cs.drewN ?_ _ | with_reducible refine Cs.drew ?_ | with_reducible refine Cs.set4 ?_ _ _ _ _ | (with_reducible refine Cs.other4 ?_ ?_ _ _ _ _; rotate_left; focus (first | assumption | omega | (simp; done) | (simp; omega))) | with_reducible refine Cs.set2 ?_ _ _ | (with_reducible refine Cs.other2 ?_ ?_ _ _; rotate_left; focus (first | assumption | omega | (simp; done) | (simp; omega))) | (with_reducible refine Cs.other ?_ ?_ _; rotate_left; focus (first | assumption | omega | (simp; done) | (simp; omega))) | with_reducible refine Cs.keep ?_ (by assumption) | assumption)) hb4
    have E7 : Cs w4 g7 #[.int .i64 (x0 - x2), .int .i64 (x1 - x3)] := Cs.keep (by repeat (first | with_reducible assumption | (with_reducible refine Cs.new _ _ _ _ ?_; first | rfl | (simp; done)) | with_reducible refine Cs.alloc ?_ _ | with_reducible refine Cs.drewN ?_ _ | with_reducible refine Cs.drew ?_ | with_reducible refine Cs.set4 ?_ _ _ _ _ | (with_reducible refine Cs.other4 ?_ ?_ _ _ _ _; rotate_left; focus (first | assumption | omega | (simp; done) | (simp; omega))) | with_reducible refine Cs.set2 ?_ _ _ | (with_reducible refine Cs.other2 ?_ ?_ _ _; rotate_left; focus (first | assumption | omega | (simp; done) | (simp; omega))) | (with_reducible refine Cs.other ?_ ?_ _; rotate_left; focus (first | assumption | omega | (simp; done) | (simp; omega))) | with_reducible refine Cs.keep ?_ (by assumption) | assumption)) hb4
    have Ez : Cs w4 (w.heap.size + 1) #[.int .i64 0, .int .i64 0, .int .i64 0, .int .i64 0] := Cs.keep (by repeat (first | with_reducible assumption | (with_reducible refine Cs.new _ _ _ _ ?_; first | rfl | (simp; done)) | with_reducible refine Cs.alloc ?_ _ | with_reducible refine Cs.drewN ?_ _ | with_reducible refine Cs.drew ?_ | with_reducible refine Cs.set4 ?_ _ _ _ _ | (with_reducible refine Cs.other4 ?_ ?_ _ _ _ _; rotate_left; focus (first | assumption | omega | (simp; done) | (simp; omega))) | with_reducible refine Cs.set2 ?_ _ _ | (with_reducible refine Cs.other2 ?_ ?_ _ _; rotate_left; focus (first | assumption | omega | (simp; done) | (simp; omega))) | (with_reducible refine Cs.other ?_ ?_ _; rotate_left; focus (first | assumption | omega | (simp; done) | (simp; omega))) | with_reducible refine Cs.keep ?_ (by assumption) | assumption)) hb4
    have hbw4 : Below w.heap.size w w4 := (by repeat (first | with_reducible exact Below.refl _ _ | with_reducible assumption | with_reducible refine balloc ?_ _ | with_reducible refine bdrewN ?_ _ | with_reducible refine Below.drew ?_ | (with_reducible refine bset ?_ ?_ _; rotate_left; focus (first | assumption | omega | (simp; done) | (simp; omega))) | with_reducible refine bstep ?_ (by assumption) | assumption))
    clear k4 Bn6 Bn7 Bz
    cases y with
    | false =>
      have cE6 := E6.c
      have fE6 := E6.f
      have lE6 := E6.lt
      have cE7 := E7.c
      have fE7 := E7.f
      have lE7 := E7.lt
      have cEz := Ez.c
      have fEz := Ez.f
      have lEz := Ez.lt
      go_wp2_with fail
      exact bodyPost_ret (v := .tuple #[.agg #[.int .i64 x2, .int .i64 x3, .int .i64 (x0 - x2), .int .i64 (x1 - x3)], .int .i64 0]) (by simp [results, Tryz.results27, go_sem, cEz, fEz, lEz]) rfl ⟨rfl, (by repeat (first | with_reducible exact Below.refl _ _ | with_reducible assumption | with_reducible refine balloc ?_ _ | with_reducible refine bdrewN ?_ _ | with_reducible refine Below.drew ?_ | (with_reducible refine bset ?_ ?_ _; rotate_left; focus (first | assumption | omega | (simp; done) | (simp; omega))) | with_reducible refine bstep ?_ (by assumption) | assumption))⟩
    | true =>
      have F := ((Ez.other2 (g' := g6) (by omega) (.int .i64 (x0 - x2)) (.int .i64 (x1 - x3))).other2 (g' := g7) (by omega) (.int .i64 x2) (.int .i64 x3)).set4 (.int .i64 (x0 - x2)) (.int .i64 (x1 - x3)) (.int .i64 x2) (.int .i64 x3)
      have hF := bset4 (bset2 (bset2 hbw4 (g := g6) (by omega) (.int .i64 (x0 - x2)) (.int .i64 (x1 - x3))) (g := g7) (by omega) (.int .i64 x2) (.int .i64 x3)) (g := w.heap.size + 1) (by omega) (.int .i64 (x0 - x2)) (.int .i64 (x1 - x3)) (.int .i64 x2) (.int .i64 x3)
      have HF := Lib.hid F
      have HhF := Lib.hid hF
      clear F hF
      have cE6 := E6.c
      have fE6 := E6.f
      have lE6 := E6.lt
      have cE7 := E7.c
      have fE7 := E7.f
      have lE7 := E7.lt
      have cEz := Ez.c
      have fEz := Ez.f
      have lEz := Ez.lt
      go_wp2_with fail
      clear cE6 fE6 lE6 cE7 fE7 lE7 cEz fEz lEz
      have F := HF.out
      have hF := HhF.out
      clear HF HhF E6 E7 Ez
      generalize ((((((((w4.setCell ⟨g6, 0, none⟩ (.int .i64 (x0 - x2))).setCell ⟨g6, 1, none⟩ (.int .i64 (x1 - x3))).setCell ⟨g7, 0, none⟩ (.int .i64 x2)).setCell ⟨g7, 1, none⟩ (.int .i64 x3)).setCell ⟨w.heap.size + 1, 0, none⟩ (.int .i64 (x0 - x2))).setCell ⟨w.heap.size + 1, 1, none⟩ (.int .i64 (x1 - x3))).setCell ⟨w.heap.size + 1, 2, none⟩ (.int .i64 x2)).setCell ⟨w.heap.size + 1, 3, none⟩ (.int .i64 x3)) = W5 at *
      have cF := F.c
      have fF := F.f
      have lF := F.lt
      exact bodyPost_ret (v := .tuple #[.agg #[.int .i64 (x0 - x2), .int .i64 (x1 - x3), .int .i64 x2, .int .i64 x3], .int .i64 0]) (by simp [results, Tryz.results27, go_sem, cF, fF, lF]) rfl ⟨rfl, hF⟩

end Go.Proofs.YtminplfgadhnnaaGreatDoor
end

/- The walk of slices.Reverse at spans. -/
section
namespace Go.Proofs.YtminplfgadhnnaaGreatDoor
open Go.RowKit Go.Shelf
set_option linter.unusedSimpArgs false
set_option linter.unusedVariables false
open Um (S4)

/-- block b is n spans, and can be written -/
structure Four (W : World) (b n : Nat) (f : Nat → S4) : Prop where
  lt : b < W.heap.size
  c : ∀ i, i < n → W.cell? ⟨b, i * 4, none⟩ = some (.int .i64 (f i).1) ∧ W.cell? ⟨b, i * 4 + 1, none⟩ = some (.int .i64 (f i).2.1) ∧ W.cell? ⟨b, i * 4 + 2, none⟩ = some (.int .i64 (f i).2.2.1) ∧ W.cell? ⟨b, i * 4 + 3, none⟩ = some (.int .i64 (f i).2.2.2)
  free : ∀ j, W.frozen? ⟨b, j, none⟩ = false

theorem Four.drew {W : World} {b n : Nat} {f : Nat → S4} (h : Four W b n f) : Four W.drew b n f := ⟨h.lt, h.c, h.free⟩
theorem Four.drewN {W : World} {b n : Nat} {f : Nat → S4} (h : Four W b n f) (k : Nat) : Four (W.drewN k) b n f := ⟨h.lt, h.c, h.free⟩

theorem four_get {W : World} {b i : Nat} {u0 u1 u2 u3 : Value} (x y z u : Value) (h0 : W.cell? ⟨b, i, none⟩ = some u0) (h1 : W.cell? ⟨b, i + 1, none⟩ = some u1) (h2 : W.cell? ⟨b, i + 2, none⟩ = some u2) (h3 : W.cell? ⟨b, i + 3, none⟩ = some u3) (j : Nat) :
    ((((W.setCell ⟨b, i, none⟩ x).setCell ⟨b, i + 1, none⟩ y).setCell ⟨b, i + 2, none⟩ z).setCell ⟨b, i + 3, none⟩ u).cell? ⟨b, j, none⟩ = if j = i + 3 then some u else if j = i + 2 then some z else if j = i + 1 then some y else if j = i then some x else W.cell? ⟨b, j, none⟩ := by
  have ne : ∀ {p q : Nat}, p ≠ q → (⟨b, p, none⟩ : Addr) ≠ ⟨b, q, none⟩ := fun hpq e => hpq (by injection e)
  have s1 : (W.setCell ⟨b, i, none⟩ x).cell? ⟨b, i + 1, none⟩ = some u1 := by rw [World.cell?_setCell_other _ _ _ _ (ne (by omega))]; exact h1
  have s2 : ((W.setCell ⟨b, i, none⟩ x).setCell ⟨b, i + 1, none⟩ y).cell? ⟨b, i + 2, none⟩ = some u2 := by rw [World.cell?_setCell_other _ _ _ _ (ne (by omega)), World.cell?_setCell_other _ _ _ _ (ne (by omega))]; exact h2
  have s3 : (((W.setCell ⟨b, i, none⟩ x).setCell ⟨b, i + 1, none⟩ y).setCell ⟨b, i + 2, none⟩ z).cell? ⟨b, i + 3, none⟩ = some u3 := by
    rw [World.cell?_setCell_other _ _ _ _ (ne (by omega)), World.cell?_setCell_other _ _ _ _ (ne (by omega)), World.cell?_setCell_other _ _ _ _ (ne (by omega))]; exact h3
  split
  · rename_i e; subst e; exact World.cell?_setCell_same' _ _ _ (by rw [s3]; simp)
  · rename_i e3
    rw [World.cell?_setCell_other _ _ _ _ (ne (fun e => e3 e.symm))]
    split
    · rename_i e; subst e; exact World.cell?_setCell_same' _ _ _ (by rw [s2]; simp)
    · rename_i e2
      rw [World.cell?_setCell_other _ _ _ _ (ne (fun e => e2 e.symm))]
      split
      · rename_i e; subst e; exact World.cell?_setCell_same' _ _ _ (by rw [s1]; simp)
      · rename_i e1
        rw [World.cell?_setCell_other _ _ _ _ (ne (fun e => e1 e.symm))]
        split
        · rename_i e; subst e; exact World.cell?_setCell_same' _ _ _ (by rw [h0]; simp)
        · rename_i e0
          rw [World.cell?_setCell_other _ _ _ _ (ne (fun e => e0 e.symm))]

theorem Four.set {W : World} {b n : Nat} {f : Nat → S4} (h : Four W b n f) {i : Nat} (hi : i < n) (v : S4) :
    Four ((((W.setCell ⟨b, i * 4, none⟩ (.int .i64 v.1)).setCell ⟨b, i * 4 + 1, none⟩ (.int .i64 v.2.1)).setCell ⟨b, i * 4 + 2, none⟩ (.int .i64 v.2.2.1)).setCell ⟨b, i * 4 + 3, none⟩ (.int .i64 v.2.2.2)) b n (fun j => if j = i then v else f j) := by
  obtain ⟨h0, h1, h2, h3⟩ := h.c i hi
  have get := four_get (.int .i64 v.1) (.int .i64 v.2.1) (.int .i64 v.2.2.1) (.int .i64 v.2.2.2) h0 h1 h2 h3
  refine ⟨by simpa [World.setCell] using h.lt, fun j hj => ?_, fun j => by simp only [World.frozen?_setCell]; exact h.free j⟩
  rw [get, get, get, get]
  by_cases e : j = i
  · subst e
    simp
  · repeat rw [if_neg (by omega)]
    exact h.c j hj

/-- k of n have been exchanged from both ends -/
def rvAt (g : Nat → S4) (n k m : Nat) : S4 := if m < k ∨ n < m + k + 1 then g (n - 1 - m) else g m

theorem rvAt_step (g f : Nat → S4) (n k : Nat) (hk : k + k + 1 < n) (hf : ∀ m, m < n → f m = rvAt g n k m) : ∀ m, m < n → (fun j => if j = n - 1 - k then f k else (fun j => if j = k then f (n - 1 - k) else f j) j) m = rvAt g n (k + 1) m := by
  intro m hm
  have e1 : f k = g k := by rw [hf k (by omega), rvAt, if_neg (by omega)]
  have e2 : f (n - 1 - k) = g (n - 1 - k) := by rw [hf _ (by omega), rvAt, if_neg (by omega)]
  simp only [e1, e2, rvAt]
  by_cases h1 : m = n - 1 - k
  · rw [if_pos h1, if_pos (by omega)]
    congr 1; omega
  · rw [if_neg h1]
    by_cases h2 : m = k
    · rw [if_pos h2, if_pos (by omega), h2]
    · rw [if_neg h2, hf m hm, rvAt]
      by_cases h3 : m < k ∨ n < m + k + 1
      · rw [if_pos h3, if_pos (by omega)]
      · rw [if_neg h3, if_neg (by omega)]

set_option maxHeartbeats 2000000 in
theorem reverse_any (b n c : Nat) (g : Nat → S4) (w : World) (hF : Four w b n g) (hn : n ≤ 1000) :
    Calls Tryz.prog 113 #[.slice (some ⟨b, 0, none⟩) n c] w fun e w' => e = .returned (.tuple #[]) ∧ (∃ f, Four w' b n f ∧ ∀ m, m < n → f m = g (n - 1 - m)) ∧ Below b w w' := by
  have HF := Lib.hid hF
  clear hF
  go_enter Tryz.func113, Tryz.ntmps113
  go_wp2_with fail
  go_loopw [2, 3] (fun iv jv wr => ∃ (k : Nat) (f : Nat → S4), k + k ≤ n + 1 ∧ iv = .int .i64 k ∧ jv = .int .i64 ((n : Int) - 1 - k) ∧ Four wr b n f ∧ Hid (∀ m, m < n → f m = rvAt g n k m) ∧ Below b w wr) (fun iv _ _ => n - (intOf iv).toNat)
  case atStart => exact ⟨0, g, by omega, rfl, by simp, HF.out, Lib.hid (fun m hm => by rw [rvAt, if_neg (by omega)]), Below.refl _ _⟩
  case round =>
    obtain ⟨k, f, hk, rfl, rfl, hW, Hf, hbr⟩ := hrel
    by_cases hlt : k + k + 1 < n
    · obtain ⟨j, hj⟩ : ∃ j : Nat, j = n - 1 - k := ⟨_, rfl⟩
      have ej : (n : Int) - 1 - k = (j : Int) := by omega
      rw [ej]
      have hjn : j < n := by omega
      have hkj : k < j := by omega
      have Hj := Lib.hid hj
      have Hej := Lib.hid ej
      obtain ⟨a0, a1, a2, a3⟩ := hW.c k (by omega)
      obtain ⟨b0, b1, b2, b3⟩ := hW.c j hjn
      have hfree := hW.free
      have HW := Lib.hid hW
      have hn1 := rvAt_step g f n k hlt Hf.out
      rw [← hj] at hn1
      have Hn1 := Lib.hid hn1
      clear hj ej hn1 hW
      generalize f k = x at *
      generalize f j = y at *
      obtain ⟨x0, x1, x2, x3⟩ := x
      obtain ⟨y0, y1, y2, y3⟩ := y
      dsimp only at a0 a1 a2 a3 b0 b1 b2 b3
      obtain ⟨wo, hwo⟩ : ∃ wo : World, wo = wr := ⟨_, rfl⟩
      go_wp2_with fail
      go_big_region
      all_goals go_wp2_with fail
      go_roundw
      case rel =>
        have s1 := HW.out.set (i := k) (by omega) (y0, y1, y2, y3)
        have s2 := s1.set hjn (x0, x1, x2, x3)
        dsimp only at s1 s2
        have s3 := s2.drew
        refine ⟨k + 1, _, by omega, by go_num, ?_, s3, Hn1, ?_⟩
        · congr 1; have := Hej.out; omega
        · exact ((((((((hbr.setCell (p := ⟨b, _, none⟩) (Nat.le_refl _) _).setCell (p := ⟨b, _, none⟩) (Nat.le_refl _) _).setCell (p := ⟨b, _, none⟩) (Nat.le_refl _) _).setCell (p := ⟨b, _, none⟩) (Nat.le_refl _) _).setCell (p := ⟨b, _, none⟩) (Nat.le_refl _) _).setCell (p := ⟨b, _, none⟩) (Nat.le_refl _) _).setCell (p := ⟨b, _, none⟩) (Nat.le_refl _) _).setCell (p := ⟨b, _, none⟩) (Nat.le_refl _) _).drew
      case measure => simp [intOf]; omega
    · go_wp2_with fail
      go_end0
      refine ⟨rfl, ⟨f, hW, fun m hm => ?_⟩, hbr⟩
      rw [Hf.out m hm, rvAt]
      by_cases h1 : m < k ∨ n < m + k + 1
      · rw [if_pos h1]
      · rw [if_neg h1]; congr 1; omega

end Go.Proofs.YtminplfgadhnnaaGreatDoor
end
