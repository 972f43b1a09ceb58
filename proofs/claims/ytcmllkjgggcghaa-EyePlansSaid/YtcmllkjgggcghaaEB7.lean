/- Walks of package eye: the answers that come next. -/
import Derived.Test.YtcmllkjgggcghaaEB6
namespace Go.Proofs.Ytcmllkjgggcghaa
open Go.RowKit Go.Shelf
set_option linter.unusedSimpArgs false
set_option linter.unusedVariables false

def upd (f : Nat → Nat) (k v : Nat) : Nat → Nat := fun i => if i = k then v else f i
theorem ans_set (f : Nat → Nat) (v : Nat) : ∀ k, k < 6 → (ans f).setIfInBounds k (.int .i64 (v : Nat)) = ans (upd f k v)
  | 0, _ => rfl | 1, _ => rfl | 2, _ => rfl | 3, _ => rfl | 4, _ => rfl | 5, _ => rfl
  | _ + 6, h => absurd h (by omega)
theorem ans_ext {f g : Nat → Nat} (h : ∀ k, k < 6 → f k = g k) : ans f = ans g := by
  unfold ans
  simp only [h 0 (by omega), h 1 (by omega), h 2 (by omega), h 3 (by omega), h 4 (by omega), h 5 (by omega)]
theorem Cs.ansSet {w : World} {g : Nat} {f : Nat → Nat} (h : Cs w g (ans f)) (k v : Nat) (hk : k < 6) : Cs (w.setCell ⟨g, k, none⟩ (.int .i64 (v : Nat))) g (ans (upd f k v)) := by
  rw [← ans_set f v k hk]
  exact h.set k _ (by simpa [ans] using hk)

/-- all six cells of a block are set -/
def set6 (w : World) (g : Nat) (f : Nat → Nat) : World := ((((((w.setCell ⟨g, 0, none⟩ (.int .i64 (f 0 : Nat))).setCell ⟨g, 1, none⟩ (.int .i64 (f 1 : Nat))).setCell ⟨g, 2, none⟩ (.int .i64 (f 2 : Nat))).setCell ⟨g, 3, none⟩ (.int .i64 (f 3 : Nat))).setCell ⟨g, 4, none⟩ (.int .i64 (f 4 : Nat))).setCell ⟨g, 5, none⟩ (.int .i64 (f 5 : Nat)))
theorem Cs.set6 {w : World} {g : Nat} {e : Nat → Nat} (h : Cs w g (ans e)) (f : Nat → Nat) : Cs (Proofs.Ytcmllkjgggcghaa.set6 w g f) g (ans f) := by
  have k := (Cs.ansSet (Cs.ansSet (Cs.ansSet (Cs.ansSet (Cs.ansSet (Cs.ansSet h 0 (f 0) (by decide)) 1 (f 1) (by decide)) 2 (f 2) (by decide)) 3 (f 3) (by decide)) 4 (f 4) (by decide)) 5 (f 5) (by decide))
  refine cast (congrArg (Cs _ g) (ans_ext ?_)) k
  intro x hx
  match x, hx with
  | 0, _ => rfl | 1, _ => rfl | 2, _ => rfl | 3, _ => rfl | 4, _ => rfl | 5, _ => rfl
  | _ + 6, h => exact absurd h (by omega)
theorem bset6 {w W : World} {g' : Nat} (h : Below w.heap.size w W) (hg : w.heap.size ≤ g') (f : Nat → Nat) : Below w.heap.size w (Proofs.Ytcmllkjgggcghaa.set6 W g' f) := (bset (bset (bset (bset (bset (bset h (p := ⟨g', 0, none⟩) hg (.int .i64 (f 0 : Nat))) (p := ⟨g', 1, none⟩) hg (.int .i64 (f 1 : Nat))) (p := ⟨g', 2, none⟩) hg (.int .i64 (f 2 : Nat))) (p := ⟨g', 3, none⟩) hg (.int .i64 (f 3 : Nat))) (p := ⟨g', 4, none⟩) hg (.int .i64 (f 4 : Nat))) (p := ⟨g', 5, none⟩) hg (.int .i64 (f 5 : Nat)))

/-- the answers that come after some: the last plate's first -/
def nextA (lens : Nat → Nat) : Nat → (Nat → Nat) → (Nat → Nat)
  | 0, f => f
  | k + 1, f => if f k + 1 < lens k then upd f k (f k + 1) else nextA lens k (upd f k 0)

theorem upd_upd (f : Nat → Nat) (k a b : Nat) : upd (upd f k a) k b = upd f k b := by funext i; unfold upd; split <;> rfl

theorem Plates.cell {w wr : World} {b off n k : Nat} {zs : List Pl} {p : Pl} (h : Plates w (some ⟨b, off, none⟩) n zs) (hb : Below w.heap.size w wr) (hk : k < n) (hg : zs[k]? = some p) :
    wr.cell? ⟨b, off + k * 2, none⟩ = some (.slice p.gA p.gn p.gc) ∧ wr.cell? ⟨b, off + k * 2 + 1, none⟩ = some (.slice p.eA p.en p.ec) := by
  obtain ⟨b', off', q, e, hq, c0, c1⟩ := h.at_ hb hk
  injection e with e
  injection e with e1 e2
  subst e1 e2
  rw [hg] at hq
  injection hq with hq
  subst hq
  exact ⟨c0, c1⟩

set_option maxRecDepth 10000 in
set_option maxHeartbeats 4000000 in
theorem next_any (A : Option Addr) (n c m g : Nat) (zs : List Pl) (f : Nat → Nat) (w : World) (hz : Plates w A n zs) (hn : n ≤ 6) (hg : ∀ p ∈ zs, Good p) (hf : Fit zs f) (hB : Cs w g #[.slice A n c, .int .i64 (m : Nat)]) :
    Calls Try.prog 77 #[.pointer (some ⟨g, 0, none⟩), .agg (ans f)] w fun e w' => e = .returned (.agg (ans (nextA (fun i => (plAt zs i).gn) n f))) ∧ Below w.heap.size w w' := by
  have hl := hz.1
  have Hz := Lib.hid hz
  have Hg := Lib.hid hg
  have Hf := Lib.hid hf
  have hglt := hB.lt
  have HB := Lib.hid hB
  generalize hR : nextA (fun i => (plAt zs i).gn) n f = R at *
  have HR := Lib.hid hR
  clear hz hg hf hR
  have e1 : ans f = #[.int .i64 (f 0 : Nat), .int .i64 (f 1 : Nat), .int .i64 (f 2 : Nat), .int .i64 (f 3 : Nat), .int .i64 (f 4 : Nat), .int .i64 (f 5 : Nat)] := rfl
  rw [e1]
  have h0 : ∀ o1 o2 : Obj, ((w.alloc o1).alloc o2).cell? ⟨g, 0, none⟩ = some (.slice A n c) := fun o1 o2 => ((hB.alloc o1).alloc o2).c 0
  have i1 : IntKind.i64.wrap ((n : Int) - 1) = (n : Int) - 1 := IntWalk.i64_in _ (by omega)
  go_enter Try.func77, Try.ntmps77
  go_wp2_with fail
  clear h0 hB
  have e0 : ans (fun _ => 0) = #[.int .i64 0, .int .i64 0, .int .i64 0, .int .i64 0, .int .i64 0, .int .i64 0] := rfl
  go_loopw [5] (fun s5 wx => ∃ (k : Nat) (v : Int) (f2 : Nat → Nat) (W : World), k ≤ n ∧ s5 = .int .i64 v ∧ Hid (v = (k : Int) - 1) ∧ Hid (W = wx) ∧ Hid (nextA (fun i => (plAt zs i).gn) k f2 = R) ∧ Hid (∀ i p, i < k → zs[i]? = some p → f2 i < p.gn) ∧ Cs W w.heap.size (ans f2) ∧ Cs W (w.heap.size + 1) (ans (fun _ => 0)) ∧ Below w.heap.size w W) (fun s5 _ => (intOf s5 + 1).toNat)
  case atStart =>
    refine ⟨n, (n : Int) - 1, f, _, Nat.le_refl _, rfl, Lib.hid rfl, Lib.hid rfl, Lib.hid HR.out, Lib.hid (fun i p _ hp => Hf.out i p hp), ?_, ?_, (by repeat (first | with_reducible exact Below.refl _ _ | with_reducible assumption | with_reducible refine balloc ?_ _ | with_reducible refine bdrewN ?_ _ | with_reducible refine Below.drew ?_ | (with_reducible refine bset ?_ ?_ _; rotate_left; focus (first | assumption | omega | (simp; done) | (simp; omega))) | with_reducible refine bstep ?_ (by assumption) | assumption))⟩
    · rw [e1]; exact (by repeat (first | with_reducible assumption | (with_reducible refine Cs.new _ _ _ _ ?_; first | rfl | (simp; done)) | with_reducible refine Cs.alloc ?_ _ | with_reducible refine Cs.drewN ?_ _ | with_reducible refine Cs.drew ?_ | with_reducible refine Cs.set4 ?_ _ _ _ _ | (with_reducible refine Cs.other4 ?_ ?_ _ _ _ _; rotate_left; focus (first | assumption | omega | (simp; done) | (simp; omega))) | with_reducible refine Cs.set2 ?_ _ _ | (with_reducible refine Cs.other2 ?_ ?_ _ _; rotate_left; focus (first | assumption | omega | (simp; done) | (simp; omega))) | (with_reducible refine Cs.other ?_ ?_ _; rotate_left; focus (first | assumption | omega | (simp; done) | (simp; omega))) | with_reducible refine Cs.keep ?_ (by assumption) | assumption))
    · rw [e0]; exact (by repeat (first | with_reducible assumption | (with_reducible refine Cs.new _ _ _ _ ?_; first | rfl | (simp; done)) | with_reducible refine Cs.alloc ?_ _ | with_reducible refine Cs.drewN ?_ _ | with_reducible refine Cs.drew ?_ | with_reducible refine Cs.set4 ?_ _ _ _ _ | (with_reducible refine Cs.other4 ?_ ?_ _ _ _ _; rotate_left; focus (first | assumption | omega | (simp; done) | (simp; omega))) | with_reducible refine Cs.set2 ?_ _ _ | (with_reducible refine Cs.other2 ?_ ?_ _ _; rotate_left; focus (first | assumption | omega | (simp; done) | (simp; omega))) | (with_reducible refine Cs.other ?_ ?_ _; rotate_left; focus (first | assumption | omega | (simp; done) | (simp; omega))) | with_reducible refine Cs.keep ?_ (by assumption) | assumption))
  case round =>
    obtain ⟨k, v, f2, W, hk, rfl, Hv, HW, Hn, Hf2, B0, B1, hbw⟩ := hrel
    obtain rfl := HW.out
    clear HW
    cases k with
    | succ j =>
      have hv : v = (j : Int) := by rw [Hv.out]; omega
      subst hv
      have hj : j < n := by omega
      have hjI : (0 : Int) ≤ (j : Int) := by omega
      have hj6 : (j : Int) < 6 := by omega
      obtain ⟨b, off, p, rfl, hget, c0, c1⟩ := Hz.out.at_ hbw hj
      have hmem := List.mem_of_getElem? hget
      have g4 := (Hg.out p hmem).g4
      have hfj := Hf2.out j p (by omega) hget
      have hpa := plAt_eq hget
      have hjn : (j : Int) < (n : Int) := by omega
      have ca : W.cell? ⟨w.heap.size, j, none⟩ = some (.int .i64 (f2 j : Nat)) := by rw [B0.c, ans_get f2 j (by omega)]
      have f1 : IntKind.i64.wrap (((f2 j : Nat) : Int) + 1) = ((f2 j : Nat) : Int) + 1 := IntWalk.i64_in _ (by omega)
      have f5 : IntKind.i64.wrap ((j : Int) - 1) = (j : Int) - 1 := IntWalk.i64_in _ (by omega)
      have fB := B0.f
      have lB := B0.lt
      clear c0 c1
      go_wp2_with fail
      have D0 := B0.ansSet j (f2 j + 1) (by omega)
      have D1 := B1.other (p := ⟨w.heap.size, j, none⟩) (by simp) (.int .i64 ((f2 j + 1 : Nat) : Int))
      have hbD := bset hbw (p := ⟨w.heap.size, j, none⟩) (Nat.le_refl _) (.int .i64 ((f2 j + 1 : Nat) : Int))
      rw [show ((f2 j + 1 : Nat) : Int) = ((f2 j : Nat) : Int) + 1 by omega] at D0 D1 hbD
      clear B0 B1 hbw ca fB lB f1
      generalize W.setCell ⟨w.heap.size, j, none⟩ (.int .i64 (((f2 j : Nat) : Int) + 1)) = W1 at *
      have cg : W1.cell? ⟨g, 0, none⟩ = some (.slice (some ⟨b, off, none⟩) n c) := (hbD.cell (p := ⟨g, 0, none⟩) hglt).trans (HB.out.c 0)
      obtain ⟨c0, c1⟩ := Hz.out.cell hbD hj hget
      have ca : W1.cell? ⟨w.heap.size, j, none⟩ = some (.int .i64 (((f2 j : Nat) : Int) + 1)) := by
        rw [D0.c, ans_get _ j (by omega)]
        simp [upd]
      by_cases hlt : f2 j + 1 < p.gn
      · have hltI : ((f2 j : Nat) : Int) + 1 < (p.gn : Int) := by omega
        have hR2 : upd f2 j (f2 j + 1) = R := by
          rw [← Hn.out, nextA, hpa, if_pos hlt]
        generalize upd f2 j (f2 j + 1) = f3 at *
        subst hR2
        clear Hn Hf2 Hv hpa hmem hget
        obtain ⟨gA, gn, gc, gs, eA, en, ec, es⟩ := p
        dsimp only at *
        go_wp2_with fail
        go_quiet (fail)
        replace D0 := D0.drewN nq
        replace D1 := D1.drewN nq
        replace hbD := bdrewN hbD nq
        clear ca cg c0 c1
        generalize W1.drewN nq = W4 at *
        have B0u : Cs W4 w.heap.size #[.int .i64 (f3 0 : Nat), .int .i64 (f3 1 : Nat), .int .i64 (f3 2 : Nat), .int .i64 (f3 3 : Nat), .int .i64 (f3 4 : Nat), .int .i64 (f3 5 : Nat)] := D0
        have B1u : Cs W4 (w.heap.size + 1) #[.int .i64 0, .int .i64 0, .int .i64 0, .int .i64 0, .int .i64 0, .int .i64 0] := D1
        have X1 := D1.set6 f3
        have hbX := bset6 hbD (g' := w.heap.size + 1) (by omega) f3
        unfold set6 at X1 hbX
        have X1u : Cs _ (w.heap.size + 1) #[.int .i64 (f3 0 : Nat), .int .i64 (f3 1 : Nat), .int .i64 (f3 2 : Nat), .int .i64 (f3 3 : Nat), .int .i64 (f3 4 : Nat), .int .i64 (f3 5 : Nat)] := X1
        have cB0u := B0u.c
        have fB0u := B0u.f
        have lB0u := B0u.lt
        have cB1u := B1u.c
        have fB1u := B1u.f
        have lB1u := B1u.lt
        clear e0 e1 D0 D1 B0u B1u
        go_wp2_with fail
        have cX := X1u.c
        have fX := X1u.f
        have lX := X1u.lt
        exact bodyPost_ret (v := .agg (ans f3)) (by simp [results, Try.results77, go_sem, cX, fX, lX, ans]) rfl ⟨rfl, hbX⟩
      · have hltI : ¬ ((f2 j : Nat) : Int) + 1 < (p.gn : Int) := by omega
        have Hn2 : Hid (nextA (fun i => (plAt zs i).gn) j (upd f2 j 0) = R) := Lib.hid (by rw [← Hn.out, nextA, hpa, if_neg hlt])
        have Hf3 : Hid (∀ i p, i < j → zs[i]? = some p → upd f2 j 0 i < p.gn) := Lib.hid (fun i q hi hq => by
          unfold upd
          rw [if_neg (by omega)]
          exact Hf2.out i q (by omega) hq)
        have fD := D0.f
        have lD := D0.lt
        clear Hn Hf2 Hv hpa hmem hget
        obtain ⟨gA, gn, gc, gs, eA, en, ec, es⟩ := p
        dsimp only at *
        go_wp2_with fail
        go_quiet (fail)
        have E0 := (D0.drewN nq).ansSet j 0 (by omega)
        rw [upd_upd] at E0
        have E1 := (D1.drewN nq).other (p := ⟨w.heap.size, j, none⟩) (by simp) (.int .i64 ((0 : Nat) : Int))
        have hbE := bset (bdrewN hbD nq) (p := ⟨w.heap.size, j, none⟩) (Nat.le_refl _) (.int .i64 ((0 : Nat) : Int))
        go_wp2_with fail
        go_roundw
        case rel => exact ⟨j, (j : Int) - 1, upd f2 j 0, _, by omega, rfl, Lib.hid rfl, Lib.hid rfl, Hn2, Hf3, E0, E1, hbE⟩
        case measure => first | (simp [intOf]; done) | (simp [intOf]; omega)
    | zero =>
      have hv : v = -1 := by rw [Hv.out]; rfl
      subst hv
      have hR2 : f2 = R := Hn.out
      subst hR2
      clear Hv Hn Hf2
      have B0u : Cs W w.heap.size #[.int .i64 (f2 0 : Nat), .int .i64 (f2 1 : Nat), .int .i64 (f2 2 : Nat), .int .i64 (f2 3 : Nat), .int .i64 (f2 4 : Nat), .int .i64 (f2 5 : Nat)] := B0
      have B1u : Cs W (w.heap.size + 1) #[.int .i64 0, .int .i64 0, .int .i64 0, .int .i64 0, .int .i64 0, .int .i64 0] := B1
      have X1 := B1.set6 f2
      have hbX := bset6 hbw (g' := w.heap.size + 1) (by omega) f2
      unfold set6 at X1 hbX
      have X1u : Cs _ (w.heap.size + 1) #[.int .i64 (f2 0 : Nat), .int .i64 (f2 1 : Nat), .int .i64 (f2 2 : Nat), .int .i64 (f2 3 : Nat), .int .i64 (f2 4 : Nat), .int .i64 (f2 5 : Nat)] := X1
      have cB0u := B0u.c
      have fB0u := B0u.f
      have lB0u := B0u.lt
      have cB1u := B1u.c
      have fB1u := B1u.f
      have lB1u := B1u.lt
      clear e0 e1 B0 B1 B0u B1u
      go_wp2_with fail
      have cX := X1u.c
      have fX := X1u.f
      have lX := X1u.lt
      exact bodyPost_ret (v := .agg (ans f2)) (by simp [results, Try.results77, go_sem, cX, fX, lX, ans]) rfl ⟨rfl, hbX⟩

end Go.Proofs.Ytcmllkjgggcghaa
