/- Walks of package eye: the odds of answers. -/
import Derived.Test.YtcmllkjgggcghaaEB5
namespace Go.Proofs.Ytcmllkjgggcghaa
open Go.RowKit Go.Shelf
set_option linter.unusedSimpArgs false
set_option linter.unusedVariables false

/-- an answer to each plate -/
def ans (f : Nat → Nat) : Array Value := #[.int .i64 (f 0 : Nat), .int .i64 (f 1 : Nat), .int .i64 (f 2 : Nat), .int .i64 (f 3 : Nat), .int .i64 (f 4 : Nat), .int .i64 (f 5 : Nat)]
theorem ans_get (f : Nat → Nat) : ∀ k, k < 6 → (ans f)[k]? = some (.int .i64 (f k : Nat))
  | 0, _ => rfl | 1, _ => rfl | 2, _ => rfl | 3, _ => rfl | 4, _ => rfl | 5, _ => rfl
  | _ + 6, h => absurd h (by omega)

def plAt (zs : List Pl) (k : Nat) : Pl := zs.getD k ⟨none, 0, 0, [], none, 0, 0, []⟩
theorem plAt_eq {zs : List Pl} {k : Nat} {p : Pl} (h : zs[k]? = some p) : plAt zs k = p := by unfold plAt; rw [List.getD_eq_getElem?_getD, h]; rfl

/-- the odds of the first answers -/
def oddG (zs : List Pl) (f : Nat → Nat) : Nat → Int
  | 0 => 1
  | k + 1 => oddG zs f k * (plAt zs k).gs.getD (f k) 0
def oddE (zs : List Pl) (f : Nat → Nat) : Nat → Int
  | 0 => 1
  | k + 1 => oddE zs f k * (plAt zs k).es.getD (f k) 0

theorem mem_le_sum : ∀ (l : List Int), (∀ x ∈ l, 0 ≤ x) → ∀ i, i < l.length → 0 ≤ l.getD i 0 ∧ l.getD i 0 ≤ l.sum
  | [], _, i, h => by simp at h
  | x :: l, h, 0, _ => by
    have h1 := h x (List.mem_cons_self)
    have h2 := sum_nonneg l (fun y hy => h y (List.mem_cons_of_mem _ hy))
    simp; omega
  | x :: l, h, i + 1, hi => by
    have h1 := h x (List.mem_cons_self)
    have := mem_le_sum l (fun y hy => h y (List.mem_cons_of_mem _ hy)) i (by simpa using hi)
    simp at this ⊢; omega

/-- answers that can be given -/
def Fit (zs : List Pl) (f : Nat → Nat) : Prop := ∀ k p, zs[k]? = some p → f k < p.gn

theorem odd_bd {w : World} {zs : List Pl} {f : Nat → Nat} (hg : ∀ p ∈ zs, Good p) (hok : ∀ p ∈ zs, PlOk w p) (hf : Fit zs f) : ∀ k, k ≤ zs.length → (0 ≤ oddG zs f k ∧ oddG zs f k ≤ 20 ^ k) ∧ (0 ≤ oddE zs f k ∧ oddE zs f k ≤ 20 ^ k)
  | 0, _ => by simp [oddG, oddE]
  | k + 1, hk => by
    have hl : k < zs.length := by omega
    have hget : zs[k]? = some zs[k] := List.getElem?_eq_getElem hl
    obtain ⟨⟨h1, h2⟩, ⟨h3, h4⟩⟩ := odd_bd hg hok hf k (by omega)
    have hm := List.getElem_mem hl
    have g := hg zs[k] hm
    have o := hok zs[k] hm
    have hfk := hf k _ hget
    have s20 := g.s20
    have seq := g.eq
    have en := g.en
    obtain ⟨a1, a2⟩ := mem_le_sum zs[k].gs g.gs0 (f k) (by rw [o.1.1]; exact hfk)
    obtain ⟨b1, b2⟩ := mem_le_sum zs[k].es g.es0 (f k) (by rw [o.2.1.1, en]; exact hfk)
    rw [oddG, oddE, plAt_eq hget, Int.pow_succ]
    exact ⟨⟨Int.mul_nonneg h1 a1, Int.mul_le_mul h2 (by omega) a1 (Int.le_trans h1 h2)⟩, ⟨Int.mul_nonneg h3 b1, Int.mul_le_mul h4 (by omega) b1 (Int.le_trans h3 h4)⟩⟩

set_option maxRecDepth 10000 in
set_option maxHeartbeats 4000000 in
theorem odds_any (A : Option Addr) (n c m g : Nat) (zs : List Pl) (f : Nat → Nat) (w : World) (hz : Plates w A n zs) (hn : n ≤ 6) (hg : ∀ p ∈ zs, Good p) (hf : Fit zs f) (hB : Cs w g #[.slice A n c, .int .i64 (m : Nat)]) :
    Calls Try.prog 64 #[.pointer (some ⟨g, 0, none⟩), .agg (ans f)] w fun e w' => e = .returned (.agg #[.int .i64 (oddG zs f n), .int .i64 (oddE zs f n)]) ∧ Below w.heap.size w w' := by
  have hl := hz.1
  have Hz := Lib.hid hz
  have Hg := Lib.hid hg
  have Hf := Lib.hid hf
  have Hb := Lib.hid (fun k hk => odd_bd hg hz.2.2 hf k hk)
  generalize hR1 : oddG zs f n = R1 at *
  generalize hR2 : oddE zs f n = R2 at *
  have HR1 := Lib.hid hR1
  have HR2 := Lib.hid hR2
  clear hz hg hf hR1 hR2
  have e1 : ans f = #[.int .i64 (f 0 : Nat), .int .i64 (f 1 : Nat), .int .i64 (f 2 : Nat), .int .i64 (f 3 : Nat), .int .i64 (f 4 : Nat), .int .i64 (f 5 : Nat)] := rfl
  rw [e1]
  have d1 : ¬ g = w.heap.size := by have := hB.lt; omega
  have d2 : ¬ g = w.heap.size + 1 := by have := hB.lt; omega
  have d3 : ¬ g = w.heap.size + 1 + 1 := by have := hB.lt; omega
  have h0 : ∀ o1 o2 o3 : Obj, (((w.alloc o1).alloc o2).alloc o3).cell? ⟨g, 0, none⟩ = some (.slice A n c) := fun o1 o2 o3 => (((hB.alloc o1).alloc o2).alloc o3).c 0
  go_enter Try.func64, Try.ntmps64
  go_wp2_with fail
  clear d1 d2 d3 h0
  go_loopw [14] (fun s14 wx => ∃ (k : Nat) (x y : Int) (W : World), k ≤ n ∧ s14 = .int .i64 k ∧ Hid (W = wx) ∧ Hid (x = oddG zs f k) ∧ Hid (y = oddE zs f k) ∧ Cs W w.heap.size (ans f) ∧ Cs W (w.heap.size + 1) #[.int .i64 0, .int .i64 0] ∧ Cs W (w.heap.size + 1 + 1) #[.int .i64 x, .int .i64 y] ∧ Below w.heap.size w W) (fun s14 _ => n - (intOf s14).toNat)
  case atStart => exact ⟨0, 1, 1, _, Nat.zero_le _, rfl, Lib.hid rfl, Lib.hid rfl, Lib.hid rfl, by rw [e1]; exact (by repeat (first | with_reducible assumption | (with_reducible refine Cs.new _ _ _ _ ?_; first | rfl | (simp; done)) | with_reducible refine Cs.alloc ?_ _ | with_reducible refine Cs.drewN ?_ _ | with_reducible refine Cs.drew ?_ | with_reducible refine Cs.set4 ?_ _ _ _ _ | (with_reducible refine Cs.other4 ?_ ?_ _ _ _ _; rotate_left; focus (first | assumption | omega | (simp; done) | (simp; omega))) | with_reducible refine Cs.set2 ?_ _ _ | (with_reducible refine Cs.other2 ?_ ?_ _ _; rotate_left; focus (first | assumption | omega | (simp; done) | (simp; omega))) | (with_reducible refine Cs.other ?_ ?_ _; rotate_left; focus (first | assumption | omega | (simp; done) | (simp; omega))) | with_reducible refine Cs.keep ?_ (by assumption) | assumption)), (by repeat (first | with_reducible assumption | (with_reducible refine Cs.new _ _ _ _ ?_; first | rfl | (simp; done)) | with_reducible refine Cs.alloc ?_ _ | with_reducible refine Cs.drewN ?_ _ | with_reducible refine Cs.drew ?_ | with_reducible refine Cs.set4 ?_ _ _ _ _ | (with_reducible refine Cs.other4 ?_ ?_ _ _ _ _; rotate_left; focus (first | assumption | omega | (simp; done) | (simp; omega))) | with_reducible refine Cs.set2 ?_ _ _ | (with_reducible refine Cs.other2 ?_ ?_ _ _; rotate_left; focus (first | assumption | omega | (simp; done) | (simp; omega))) | (with_reducible refine Cs.other ?_ ?_ _; rotate_left; focus (first | assumption | omega | (simp; done) | (simp; omega))) | with_reducible refine Cs.keep ?_ (by assumption) | assumption)), (by repeat (first | with_reducible assumption | (with_reducible refine Cs.new _ _ _ _ ?_; first | rfl | (simp; done)) | with_reducible refine Cs.alloc ?_ _ | with_reducible refine Cs.drewN ?_ _ | with_reducible refine Cs.drew ?_ | with_reducible refine Cs.set4 ?_ _ _ _ _ | (with_reducible refine Cs.other4 ?_ ?_ _ _ _ _; rotate_left; focus (first | assumption | omega | (simp; done) | (simp; omega))) | with_reducible refine Cs.set2 ?_ _ _ | (with_reducible refine Cs.other2 ?_ ?_ _ _; rotate_left; focus (first | assumption | omega | (simp; done) | (simp; omega))) | (with_reducible refine Cs.other ?_ ?_ _; rotate_left; focus (first | assumption | omega | (simp; done) | (simp; omega))) | with_reducible refine Cs.keep ?_ (by assumption) | assumption)), (by repeat (first | with_reducible exact Below.refl _ _ | with_reducible assumption | with_reducible refine balloc ?_ _ | with_reducible refine bdrewN ?_ _ | with_reducible refine Below.drew ?_ | (with_reducible refine bset ?_ ?_ _; rotate_left; focus (first | assumption | omega | (simp; done) | (simp; omega))) | with_reducible refine bstep ?_ (by assumption) | assumption))⟩
  case round =>
    clear hB
    obtain ⟨k, x, y, W, hk, rfl, HW, Hx, Hy, B0, B1, B2, hbw⟩ := hrel
    obtain rfl := HW.out
    clear HW
    by_cases hkn : k < n
    · have hkI : (k : Int) < (n : Int) := by omega
      obtain ⟨b, off, p, rfl, hget, c0, c1⟩ := Hz.out.at_ hbw hkn
      have hmem := List.mem_of_getElem? hget
      have g := Hg.out p hmem
      have hok := Hz.out.2.2 p hmem
      have hfk := Hf.out k p hget
      have hen := g.en
      have hpa := plAt_eq hget
      obtain ⟨⟨q1, q2⟩, ⟨q3, q4⟩⟩ := Hb.out (k + 1) (by omega)
      have hp20 := pow20 (k + 1) (by omega)
      have Hx2 : Hid (x * p.gs.getD (f k) 0 = oddG zs f (k + 1)) := Lib.hid (by rw [Hx.out, oddG, hpa])
      have Hy2 : Hid (y * p.es.getD (f k) 0 = oddE zs f (k + 1)) := Lib.hid (by rw [Hy.out, oddE, hpa])
      have f1 : IntKind.i64.wrap (x * p.gs.getD (f k) 0) = x * p.gs.getD (f k) 0 := by rw [Hx2.out]; exact IntWalk.i64_in _ (by omega)
      have f2 : IntKind.i64.wrap (y * p.es.getD (f k) 0) = y * p.es.getD (f k) 0 := by rw [Hy2.out]; exact IntWalk.i64_in _ (by omega)
      obtain ⟨bg, og, hgA, hgl, hgc⟩ := hok.1.2 (by omega)
      obtain ⟨be, oe, heA, hel, hec⟩ := hok.2.1.2 (by omega)
      have hgc2 := hgc (f k) hfk
      have hec2 := hec (f k) (by omega)
      clear hgc hec hget hmem g hok hpa q1 q2 q3 q4 hp20 Hx Hy
      obtain ⟨gA, gn, gc, gs, eA, en, ec, es⟩ := p
      dsimp only at *
      subst hgA heA hen
      generalize gs.getD (f k) 0 = u at *
      generalize es.getD (f k) 0 = v at *
      have hfkI : ((f k : Nat) : Int) < (en : Int) := by omega
      have n0 := B0.lt
      have n2 := B2.lt
      go_wp2_with fail
      have Bx : Cs (W.alloc (.cells #[.slice (some ⟨bg, og, none⟩) en gc, .slice (some ⟨be, oe, none⟩) en ec] 73)) W.heap.size #[.slice (some ⟨bg, og, none⟩) en gc, .slice (some ⟨be, oe, none⟩) en ec] := (by repeat (first | with_reducible assumption | (with_reducible refine Cs.new _ _ _ _ ?_; first | rfl | (simp; done)) | with_reducible refine Cs.alloc ?_ _ | with_reducible refine Cs.drewN ?_ _ | with_reducible refine Cs.drew ?_ | with_reducible refine Cs.set4 ?_ _ _ _ _ | (with_reducible refine Cs.other4 ?_ ?_ _ _ _ _; rotate_left; focus (first | assumption | omega | (simp; done) | (simp; omega))) | with_reducible refine Cs.set2 ?_ _ _ | (with_reducible refine Cs.other2 ?_ ?_ _ _; rotate_left; focus (first | assumption | omega | (simp; done) | (simp; omega))) | (with_reducible refine Cs.other ?_ ?_ _; rotate_left; focus (first | assumption | omega | (simp; done) | (simp; omega))) | with_reducible refine Cs.keep ?_ (by assumption) | assumption))
      have A0 := B0.alloc (.cells #[.slice (some ⟨bg, og, none⟩) en gc, .slice (some ⟨be, oe, none⟩) en ec] 73)
      have A1 := B1.alloc (.cells #[.slice (some ⟨bg, og, none⟩) en gc, .slice (some ⟨be, oe, none⟩) en ec] 73)
      have A2 := B2.alloc (.cells #[.slice (some ⟨bg, og, none⟩) en gc, .slice (some ⟨be, oe, none⟩) en ec] 73)
      have hbA := balloc hbw (.cells #[.slice (some ⟨bg, og, none⟩) en gc, .slice (some ⟨be, oe, none⟩) en ec] 73)
      clear B0 B1 B2 hbw c0 c1
      generalize W.alloc (.cells #[.slice (some ⟨bg, og, none⟩) en gc, .slice (some ⟨be, oe, none⟩) en ec] 73) = W2 at *
      generalize hgx : W.heap.size = gx at *
      have ca : W2.cell? ⟨w.heap.size, k, none⟩ = some (.int .i64 (f k : Nat)) := by rw [A0.c, ans_get f k (by omega)]
      have cg : W2.cell? ⟨bg, og + f k, none⟩ = some (.int .i64 u) := (hbA.cell (p := ⟨bg, og + f k, none⟩) hgl).trans hgc2
      have x1 : w.heap.size ≠ w.heap.size + 1 + 1 := by omega
      have x2 : w.heap.size + 1 ≠ w.heap.size + 1 + 1 := by omega
      have x3 : gx ≠ w.heap.size + 1 + 1 := by omega
      have x4 : be ≠ w.heap.size + 1 + 1 := by omega
      have x5 : w.heap.size ≤ w.heap.size + 1 + 1 := by omega
      clear hgx
      have x6 : (0 : Int) ≤ (k : Int) := by omega
      have x7 : (k : Int) < 6 := by omega
      have cA2 := A2.c
      have fA2 := A2.f
      have lA2 := A2.lt
      have cBx := Bx.c
      have fBx := Bx.f
      have lBx := Bx.lt
      go_region
      have D0 := (A0.other (p := ⟨w.heap.size + 1 + 1, 0, none⟩) x1 (.int .i64 (x * u))).drew
      have D1 := (A1.other (p := ⟨w.heap.size + 1 + 1, 0, none⟩) x2 (.int .i64 (x * u))).drew
      have D2 : Cs _ (w.heap.size + 1 + 1) #[.int .i64 (x * u), .int .i64 y] := (A2.set 0 (.int .i64 (x * u)) (by simp)).drew
      have Dx := (Bx.other (p := ⟨w.heap.size + 1 + 1, 0, none⟩) x3 (.int .i64 (x * u))).drew
      have hbD := (bset hbA (p := ⟨w.heap.size + 1 + 1, 0, none⟩) x5 (.int .i64 (x * u))).drew
      clear A0 A1 A2 Bx hbA ca cg cA2 fA2 lA2 cBx fBx lBx f1
      generalize (W2.setCell ⟨w.heap.size + 1 + 1, 0, none⟩ (.int .i64 (x * u))).drew = W3 at *
      have ca : W3.cell? ⟨w.heap.size, k, none⟩ = some (.int .i64 (f k : Nat)) := by rw [D0.c, ans_get f k (by omega)]
      have ce : W3.cell? ⟨be, oe + f k, none⟩ = some (.int .i64 v) := (hbD.cell (p := ⟨be, oe + f k, none⟩) hel).trans hec2
      have cD2 := D2.c
      have fD2 := D2.f
      have lD2 := D2.lt
      have cDx := Dx.c
      have fDx := Dx.f
      have lDx := Dx.lt
      go_wp2_with fail
      go_region
      have E0 := (D0.other (p := ⟨w.heap.size + 1 + 1, 1, none⟩) x1 (.int .i64 (y * v))).drew
      have E1 := (D1.other (p := ⟨w.heap.size + 1 + 1, 1, none⟩) x2 (.int .i64 (y * v))).drew
      have E2 : Cs _ (w.heap.size + 1 + 1) #[.int .i64 (x * u), .int .i64 (y * v)] := (D2.set 1 (.int .i64 (y * v)) (by simp)).drew
      have hbE := (bset hbD (p := ⟨w.heap.size + 1 + 1, 1, none⟩) x5 (.int .i64 (y * v))).drew
      go_wp2_with fail
      go_roundw
      case rel => exact ⟨k + 1, x * u, y * v, _, by omega, by go_num, Lib.hid rfl, Hx2, Hy2, E0, E1, E2, hbE⟩
      case measure => simp [intOf]; omega
    · obtain rfl : k = n := by omega
      have hf1 : x = R1 := by rw [Hx.out, HR1.out]
      have hf2 : y = R2 := by rw [Hy.out, HR2.out]
      subst hf1 hf2
      clear Hx Hy HR1 HR2
      have cB1 := B1.c
      have fB1 := B1.f
      have lB1 := B1.lt
      have cB2 := B2.c
      have fB2 := B2.f
      have lB2 := B2.lt
      go_wp2_with fail
      have n2 := B2.lt
      have F1 := B1.set2 (.int .i64 x) (.int .i64 y)
      have cF := F1.c
      have fF := F1.f
      have lF := F1.lt
      have hbF := bset2 hbw (g := w.heap.size + 1) (by omega) (.int .i64 x) (.int .i64 y)
      exact bodyPost_ret (v := .agg #[.int .i64 x, .int .i64 y]) (by simp [results, Try.results64, go_sem, cF, fF, lF]) rfl ⟨rfl, hbF⟩

end Go.Proofs.Ytcmllkjgggcghaa
