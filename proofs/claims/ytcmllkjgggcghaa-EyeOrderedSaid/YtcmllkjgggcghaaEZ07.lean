/- EB6 EB7 EB8 EB9 -/
import Derived.Test.YtcmllkjgggcghaaEZ06
import Derived.Test.YtcmllkjgggcghaaEZ03
/- Walks of package eye: the odds of answers. -/
section
namespace Go.Proofs.Ytcmllkjgggcghaa
open Go.RowKit Go.Shelf
set_option linter.unusedSimpArgs false
set_option linter.unusedVariables false

/-- an answer to each plate -/
def ans (f : Nat → Nat) : Array Value := #[.int .i64 (f 0 : Nat), .int .i64 (f 1 : Nat), .int .i64 (f 2 : Nat), .int .i64 (f 3 : Nat), .int .i64 (f 4 : Nat), .int .i64 (f 5 : Nat)]
theorem ans_get (f : Nat → Nat) : ∀ k, k < 6 → (ans f)[k]? = some (.int .i64 (f k : Nat))
  | 0, _ => rfl | 1, _ => rfl | 2, _ => rfl | 3, _ => rfl | 4, _ => rfl | 5, _ => rfl
  | _ + 6, h => absurd h (by omega)

def plAt (zs : List Pl) (k : Nat) : Pl := zs.getD k ⟨none, 0, 0, [], none, 0, 0, []⟩
theorem plAt_eq {zs : List Pl} {k : Nat} {p : Pl} (h : zs[k]? = some p) : plAt zs k = p := by unfold plAt; rw [List.getD_eq_getElem?_getD, h]; rfl

/-- the odds of the first answers -/
def oddG (zs : List Pl) (f : Nat → Nat) : Nat → Int
  | 0 => 1
  | k + 1 => oddG zs f k * (plAt zs k).gs.getD (f k) 0
def oddE (zs : List Pl) (f : Nat → Nat) : Nat → Int
  | 0 => 1
  | k + 1 => oddE zs f k * (plAt zs k).es.getD (f k) 0

theorem mem_le_sum : ∀ (l : List Int), (∀ x ∈ l, 0 ≤ x) → ∀ i, i < l.length → 0 ≤ l.getD i 0 ∧ l.getD i 0 ≤ l.sum
  | [], _, i, h => by simp at h
  | x :: l, h, 0, _ => by
    have h1 := h x (List.mem_cons_self)
    have h2 := sum_nonneg l (fun y hy => h y (List.mem_cons_of_mem _ hy))
    simp; omega
  | x :: l, h, i + 1, hi => by
    have h1 := h x (List.mem_cons_self)
    have := mem_le_sum l (fun y hy => h y (List.mem_cons_of_mem _ hy)) i (by simpa using hi)
    simp at this ⊢; omega

/-- answers that can be given -/
def Fit (zs : List Pl) (f : Nat → Nat) : Prop := ∀ k p, zs[k]? = some p → f k < p.gn

theorem odd_bd {w : World} {zs : List Pl} {f : Nat → Nat} (hg : ∀ p ∈ zs, Good p) (hok : ∀ p ∈ zs, PlOk w p) (hf : Fit zs f) : ∀ k, k ≤ zs.length → (0 ≤ oddG zs f k ∧ oddG zs f k ≤ 20 ^ k) ∧ (0 ≤ oddE zs f k ∧ oddE zs f k ≤ 20 ^ k)
  | 0, _ => by simp [oddG, oddE]
  | k + 1, hk => by
    have hl : k < zs.length := by omega
    have hget : zs[k]? = some zs[k] := List.getElem?_eq_getElem hl
    obtain ⟨⟨h1, h2⟩, ⟨h3, h4⟩⟩ := odd_bd hg hok hf k (by omega)
    have hm := List.getElem_mem hl
    have g := hg zs[k] hm
    have o := hok zs[k] hm
    have hfk := hf k _ hget
    have s20 := g.s20
    have seq := g.eq
    have en := g.en
    obtain ⟨a1, a2⟩ := mem_le_sum zs[k].gs g.gs0 (f k) (by rw [o.1.1]; exact hfk)
    obtain ⟨b1, b2⟩ := mem_le_sum zs[k].es g.es0 (f k) (by rw [o.2.1.1, en]; exact hfk)
    rw [oddG, oddE, plAt_eq hget, Int.pow_succ]
    exact ⟨⟨Int.mul_nonneg h1 a1, Int.mul_le_mul h2 (by omega) a1 (Int.le_trans h1 h2)⟩, ⟨Int.mul_nonneg h3 b1, Int.mul_le_mul h4 (by omega) b1 (Int.le_trans h3 h4)⟩⟩

set_option maxRecDepth 10000 in
set_option maxHeartbeats 4000000 in
theorem odds_any (A : Option Addr) (n c m g : Nat) (zs : List Pl) (f : Nat → Nat) (w : World) (hz : Plates w A n zs) (hn : n ≤ 6) (hg : ∀ p ∈ zs, Good p) (hf : Fit zs f) (hB : Cs w g #[.slice A n c, .int .i64 (m : Nat)]) :
    Calls Try.prog 64 #[.pointer (some ⟨g, 0, none⟩), .agg (ans f)] w fun e w' => e = .returned (.agg #[.int .i64 (oddG zs f n), .int .i64 (oddE zs f n)]) ∧ Below w.heap.size w w' := by
  have hl := hz.1
  have Hz := Lib.hid hz
  have Hg := Lib.hid hg
  have Hf := Lib.hid hf
  have Hb := Lib.hid (fun k hk => odd_bd hg hz.2.2 hf k hk)
  generalize hR1 : oddG zs f n = R1 at *
  generalize hR2 : oddE zs f n = R2 at *
  have HR1 := Lib.hid hR1
  have HR2 := Lib.hid hR2
  clear hz hg hf hR1 hR2
  have e1 : ans f = #[.int .i64 (f 0 : Nat), .int .i64 (f 1 : Nat), .int .i64 (f 2 : Nat), .int .i64 (f 3 : Nat), .int .i64 (f 4 : Nat), .int .i64 (f 5 : Nat)] := rfl
  rw [e1]
  have d1 : ¬ g = w.heap.size := by have := hB.lt; omega
  have d2 : ¬ g = w.heap.size + 1 := by have := hB.lt; omega
  have d3 : ¬ g = w.heap.size + 1 + 1 := by have := hB.lt; omega
  have h0 : ∀ o1 o2 o3 : Obj, (((w.alloc o1).alloc o2).alloc o3).cell? ⟨g, 0, none⟩ = some (.slice A n c) := fun o1 o2 o3 => (((hB.alloc o1).alloc o2).alloc o3).c 0
  go_enter Try.func64, Try.ntmps64
  go_wp2_with fail
  clear d1 d2 d3 h0
  go_loopw [14] (fun s14 wx => ∃ (k : Nat) (x y : Int) (W : World), k ≤ n ∧ s14 = .int .i64 k ∧ Hid (W = wx) ∧ Hid (x = oddG zs f k) ∧ Hid (y = oddE zs f k) ∧ Cs W w.heap.size (ans f) ∧ Cs W (w.heap.size + 1) #[.int .i64 0, .int .i64 0] ∧ Cs W (w.heap.size + 1 + 1) #[.int .i64 x, .int .i64 y] ∧ Below w.heap.size w W) (fun s14 _ => n - (intOf s14).toNat)
  case atStart => exact ⟨0, 1, 1, _, Nat.zero_le _, rfl, Lib.hid rfl, Lib.hid rfl, Lib.hid rfl, by rw [e1]; exact csA, csA, csA, blA⟩
  case round =>
    clear hB
    obtain ⟨k, x, y, W, hk, rfl, HW, Hx, Hy, B0, B1, B2, hbw⟩ := hrel
    obtain rfl := HW.out
    clear HW
    by_cases hkn : k < n
    · have hkI : (k : Int) < (n : Int) := by omega
      obtain ⟨b, off, p, rfl, hget, c0, c1⟩ := Hz.out.at_ hbw hkn
      have hmem := List.mem_of_getElem? hget
      have g := Hg.out p hmem
      have hok := Hz.out.2.2 p hmem
      have hfk := Hf.out k p hget
      have hen := g.en
      have hpa := plAt_eq hget
      obtain ⟨⟨q1, q2⟩, ⟨q3, q4⟩⟩ := Hb.out (k + 1) (by omega)
      have hp20 := pow20 (k + 1) (by omega)
      have Hx2 : Hid (x * p.gs.getD (f k) 0 = oddG zs f (k + 1)) := Lib.hid (by rw [Hx.out, oddG, hpa])
      have Hy2 : Hid (y * p.es.getD (f k) 0 = oddE zs f (k + 1)) := Lib.hid (by rw [Hy.out, oddE, hpa])
      have f1 : IntKind.i64.wrap (x * p.gs.getD (f k) 0) = x * p.gs.getD (f k) 0 := by rw [Hx2.out]; exact IntWalk.i64_in _ (by omega)
      have f2 : IntKind.i64.wrap (y * p.es.getD (f k) 0) = y * p.es.getD (f k) 0 := by rw [Hy2.out]; exact IntWalk.i64_in _ (by omega)
      obtain ⟨bg, og, hgA, hgl, hgc⟩ := hok.1.2 (by omega)
      obtain ⟨be, oe, heA, hel, hec⟩ := hok.2.1.2 (by omega)
      have hgc2 := hgc (f k) hfk
      have hec2 := hec (f k) (by omega)
      clear hgc hec hget hmem g hok hpa q1 q2 q3 q4 hp20 Hx Hy
      obtain ⟨gA, gn, gc, gs, eA, en, ec, es⟩ := p
      dsimp only at *
      subst hgA heA hen
      generalize gs.getD (f k) 0 = u at *
      generalize es.getD (f k) 0 = v at *
      have hfkI : ((f k : Nat) : Int) < (en : Int) := by omega
      have n0 := B0.lt
      have n2 := B2.lt
      go_wp2_with fail
      have Bx : Cs (W.alloc (.cells #[.slice (some ⟨bg, og, none⟩) en gc, .slice (some ⟨be, oe, none⟩) en ec] 73)) W.heap.size #[.slice (some ⟨bg, og, none⟩) en gc, .slice (some ⟨be, oe, none⟩) en ec] := csA
      have A0 := B0.alloc (.cells #[.slice (some ⟨bg, og, none⟩) en gc, .slice (some ⟨be, oe, none⟩) en ec] 73)
      have A1 := B1.alloc (.cells #[.slice (some ⟨bg, og, none⟩) en gc, .slice (some ⟨be, oe, none⟩) en ec] 73)
      have A2 := B2.alloc (.cells #[.slice (some ⟨bg, og, none⟩) en gc, .slice (some ⟨be, oe, none⟩) en ec] 73)
      have hbA := balloc hbw (.cells #[.slice (some ⟨bg, og, none⟩) en gc, .slice (some ⟨be, oe, none⟩) en ec] 73)
      clear B0 B1 B2 hbw c0 c1
      generalize W.alloc (.cells #[.slice (some ⟨bg, og, none⟩) en gc, .slice (some ⟨be, oe, none⟩) en ec] 73) = W2 at *
      generalize hgx : W.heap.size = gx at *
      have ca : W2.cell? ⟨w.heap.size, k, none⟩ = some (.int .i64 (f k : Nat)) := by rw [A0.c, ans_get f k (by omega)]
      have cg : W2.cell? ⟨bg, og + f k, none⟩ = some (.int .i64 u) := (hbA.cell (p := ⟨bg, og + f k, none⟩) hgl).trans hgc2
      have x1 : w.heap.size ≠ w.heap.size + 1 + 1 := by omega
      have x2 : w.heap.size + 1 ≠ w.heap.size + 1 + 1 := by omega
      have x3 : gx ≠ w.heap.size + 1 + 1 := by omega
      have x4 : be ≠ w.heap.size + 1 + 1 := by omega
      have x5 : w.heap.size ≤ w.heap.size + 1 + 1 := by omega
      clear hgx
      have x6 : (0 : Int) ≤ (k : Int) := by omega
      have x7 : (k : Int) < 6 := by omega
      have cA2 := A2.c
      have fA2 := A2.f
      have lA2 := A2.lt
      have cBx := Bx.c
      have fBx := Bx.f
      have lBx := Bx.lt
      go_region
      have D0 := (A0.other (p := ⟨w.heap.size + 1 + 1, 0, none⟩) x1 (.int .i64 (x * u))).drew
      have D1 := (A1.other (p := ⟨w.heap.size + 1 + 1, 0, none⟩) x2 (.int .i64 (x * u))).drew
      have D2 : Cs _ (w.heap.size + 1 + 1) #[.int .i64 (x * u), .int .i64 y] := (A2.set 0 (.int .i64 (x * u)) (by simp)).drew
      have Dx := (Bx.other (p := ⟨w.heap.size + 1 + 1, 0, none⟩) x3 (.int .i64 (x * u))).drew
      have hbD := (bset hbA (p := ⟨w.heap.size + 1 + 1, 0, none⟩) x5 (.int .i64 (x * u))).drew
      clear A0 A1 A2 Bx hbA ca cg cA2 fA2 lA2 cBx fBx lBx f1
      generalize (W2.setCell ⟨w.heap.size + 1 + 1, 0, none⟩ (.int .i64 (x * u))).drew = W3 at *
      have ca : W3.cell? ⟨w.heap.size, k, none⟩ = some (.int .i64 (f k : Nat)) := by rw [D0.c, ans_get f k (by omega)]
      have ce : W3.cell? ⟨be, oe + f k, none⟩ = some (.int .i64 v) := (hbD.cell (p := ⟨be, oe + f k, none⟩) hel).trans hec2
      have cD2 := D2.c
      have fD2 := D2.f
      have lD2 := D2.lt
      have cDx := Dx.c
      have fDx := Dx.f
      have lDx := Dx.lt
      go_wp2_with fail
      go_region
      have E0 := (D0.other (p := ⟨w.heap.size + 1 + 1, 1, none⟩) x1 (.int .i64 (y * v))).drew
      have E1 := (D1.other (p := ⟨w.heap.size + 1 + 1, 1, none⟩) x2 (.int .i64 (y * v))).drew
      have E2 : Cs _ (w.heap.size + 1 + 1) #[.int .i64 (x * u), .int .i64 (y * v)] := (D2.set 1 (.int .i64 (y * v)) (by simp)).drew
      have hbE := (bset hbD (p := ⟨w.heap.size + 1 + 1, 1, none⟩) x5 (.int .i64 (y * v))).drew
      go_wp2_with fail
      go_roundw
      case rel => exact ⟨k + 1, x * u, y * v, _, by omega, by go_num, Lib.hid rfl, Hx2, Hy2, E0, E1, E2, hbE⟩
      case measure => simp [intOf]; omega
    · obtain rfl : k = n := by omega
      have hf1 : x = R1 := by rw [Hx.out, HR1.out]
      have hf2 : y = R2 := by rw [Hy.out, HR2.out]
      subst hf1 hf2
      clear Hx Hy HR1 HR2
      have cB1 := B1.c
      have fB1 := B1.f
      have lB1 := B1.lt
      have cB2 := B2.c
      have fB2 := B2.f
      have lB2 := B2.lt
      go_wp2_with fail
      have n2 := B2.lt
      have F1 := B1.set2 (.int .i64 x) (.int .i64 y)
      have cF := F1.c
      have fF := F1.f
      have lF := F1.lt
      have hbF := bset2 hbw (g := w.heap.size + 1) (by omega) (.int .i64 x) (.int .i64 y)
      exact bodyPost_ret (v := .agg #[.int .i64 x, .int .i64 y]) (by simp [results, Try.results64, go_sem, cF, fF, lF]) rfl ⟨rfl, hbF⟩

end Go.Proofs.Ytcmllkjgggcghaa
end

/- Walks of package eye: the answers that come next. -/
section
namespace Go.Proofs.Ytcmllkjgggcghaa
open Go.RowKit Go.Shelf
set_option linter.unusedSimpArgs false
set_option linter.unusedVariables false

def upd (f : Nat → Nat) (k v : Nat) : Nat → Nat := fun i => if i = k then v else f i
theorem ans_set (f : Nat → Nat) (v : Nat) : ∀ k, k < 6 → (ans f).setIfInBounds k (.int .i64 (v : Nat)) = ans (upd f k v)
  | 0, _ => rfl | 1, _ => rfl | 2, _ => rfl | 3, _ => rfl | 4, _ => rfl | 5, _ => rfl
  | _ + 6, h => absurd h (by omega)
theorem ans_ext {f g : Nat → Nat} (h : ∀ k, k < 6 → f k = g k) : ans f = ans g := by
  unfold ans
  simp only [h 0 (by omega), h 1 (by omega), h 2 (by omega), h 3 (by omega), h 4 (by omega), h 5 (by omega)]
theorem Cs.ansSet {w : World} {g : Nat} {f : Nat → Nat} (h : Cs w g (ans f)) (k v : Nat) (hk : k < 6) : Cs (w.setCell ⟨g, k, none⟩ (.int .i64 (v : Nat))) g (ans (upd f k v)) := by
  rw [← ans_set f v k hk]
  exact h.set k _ (by simpa [ans] using hk)

/-- all six cells of a block are set -/
def set6 (w : World) (g : Nat) (f : Nat → Nat) : World := ((((((w.setCell ⟨g, 0, none⟩ (.int .i64 (f 0 : Nat))).setCell ⟨g, 1, none⟩ (.int .i64 (f 1 : Nat))).setCell ⟨g, 2, none⟩ (.int .i64 (f 2 : Nat))).setCell ⟨g, 3, none⟩ (.int .i64 (f 3 : Nat))).setCell ⟨g, 4, none⟩ (.int .i64 (f 4 : Nat))).setCell ⟨g, 5, none⟩ (.int .i64 (f 5 : Nat)))
theorem Cs.set6 {w : World} {g : Nat} {e : Nat → Nat} (h : Cs w g (ans e)) (f : Nat → Nat) : Cs (Proofs.Ytcmllkjgggcghaa.set6 w g f) g (ans f) := by
  have k := (Cs.ansSet (Cs.ansSet (Cs.ansSet (Cs.ansSet (Cs.ansSet (Cs.ansSet h 0 (f 0) (by decide)) 1 (f 1) (by decide)) 2 (f 2) (by decide)) 3 (f 3) (by decide)) 4 (f 4) (by decide)) 5 (f 5) (by decide))
  refine cast (congrArg (Cs _ g) (ans_ext ?_)) k
  intro x hx
  match x, hx with
  | 0, _ => rfl | 1, _ => rfl | 2, _ => rfl | 3, _ => rfl | 4, _ => rfl | 5, _ => rfl
  | _ + 6, h => exact absurd h (by omega)
theorem bset6 {w W : World} {g' : Nat} (h : Below w.heap.size w W) (hg : w.heap.size ≤ g') (f : Nat → Nat) : Below w.heap.size w (Proofs.Ytcmllkjgggcghaa.set6 W g' f) := (bset (bset (bset (bset (bset (bset h (p := ⟨g', 0, none⟩) hg (.int .i64 (f 0 : Nat))) (p := ⟨g', 1, none⟩) hg (.int .i64 (f 1 : Nat))) (p := ⟨g', 2, none⟩) hg (.int .i64 (f 2 : Nat))) (p := ⟨g', 3, none⟩) hg (.int .i64 (f 3 : Nat))) (p := ⟨g', 4, none⟩) hg (.int .i64 (f 4 : Nat))) (p := ⟨g', 5, none⟩) hg (.int .i64 (f 5 : Nat)))

/-- the answers that come after some: the last plate's first -/
def nextA (lens : Nat → Nat) : Nat → (Nat → Nat) → (Nat → Nat)
  | 0, f => f
  | k + 1, f => if f k + 1 < lens k then upd f k (f k + 1) else nextA lens k (upd f k 0)

theorem upd_upd (f : Nat → Nat) (k a b : Nat) : upd (upd f k a) k b = upd f k b := by funext i; unfold upd; split <;> rfl

theorem Plates.cell {w wr : World} {b off n k : Nat} {zs : List Pl} {p : Pl} (h : Plates w (some ⟨b, off, none⟩) n zs) (hb : Below w.heap.size w wr) (hk : k < n) (hg : zs[k]? = some p) :
    wr.cell? ⟨b, off + k * 2, none⟩ = some (.slice p.gA p.gn p.gc) ∧ wr.cell? ⟨b, off + k * 2 + 1, none⟩ = some (.slice p.eA p.en p.ec) := by
  obtain ⟨b', off', q, e, hq, c0, c1⟩ := h.at_ hb hk
  injection e with e
  injection e with e1 e2
  subst e1 e2
  rw [hg] at hq
  injection hq with hq
  subst hq
  exact ⟨c0, c1⟩

set_option maxRecDepth 10000 in
set_option maxHeartbeats 4000000 in
theorem next_any (A : Option Addr) (n c m g : Nat) (zs : List Pl) (f : Nat → Nat) (w : World) (hz : Plates w A n zs) (hn : n ≤ 6) (hg : ∀ p ∈ zs, Good p) (hf : Fit zs f) (hB : Cs w g #[.slice A n c, .int .i64 (m : Nat)]) :
    Calls Try.prog 77 #[.pointer (some ⟨g, 0, none⟩), .agg (ans f)] w fun e w' => e = .returned (.agg (ans (nextA (fun i => (plAt zs i).gn) n f))) ∧ Below w.heap.size w w' := by
  have hl := hz.1
  have Hz := Lib.hid hz
  have Hg := Lib.hid hg
  have Hf := Lib.hid hf
  have hglt := hB.lt
  have HB := Lib.hid hB
  generalize hR : nextA (fun i => (plAt zs i).gn) n f = R at *
  have HR := Lib.hid hR
  clear hz hg hf hR
  have e1 : ans f = #[.int .i64 (f 0 : Nat), .int .i64 (f 1 : Nat), .int .i64 (f 2 : Nat), .int .i64 (f 3 : Nat), .int .i64 (f 4 : Nat), .int .i64 (f 5 : Nat)] := rfl
  rw [e1]
  have h0 : ∀ o1 o2 : Obj, ((w.alloc o1).alloc o2).cell? ⟨g, 0, none⟩ = some (.slice A n c) := fun o1 o2 => ((hB.alloc o1).alloc o2).c 0
  have i1 : IntKind.i64.wrap ((n : Int) - 1) = (n : Int) - 1 := IntWalk.i64_in _ (by omega)
  go_enter Try.func77, Try.ntmps77
  go_wp2_with fail
  clear h0 hB
  have e0 : ans (fun _ => 0) = #[.int .i64 0, .int .i64 0, .int .i64 0, .int .i64 0, .int .i64 0, .int .i64 0] := rfl
  go_loopw [5] (fun s5 wx => ∃ (k : Nat) (v : Int) (f2 : Nat → Nat) (W : World), k ≤ n ∧ s5 = .int .i64 v ∧ Hid (v = (k : Int) - 1) ∧ Hid (W = wx) ∧ Hid (nextA (fun i => (plAt zs i).gn) k f2 = R) ∧ Hid (∀ i p, i < k → zs[i]? = some p → f2 i < p.gn) ∧ Cs W w.heap.size (ans f2) ∧ Cs W (w.heap.size + 1) (ans (fun _ => 0)) ∧ Below w.heap.size w W) (fun s5 _ => (intOf s5 + 1).toNat)
  case atStart =>
    refine ⟨n, (n : Int) - 1, f, _, Nat.le_refl _, rfl, Lib.hid rfl, Lib.hid rfl, Lib.hid HR.out, Lib.hid (fun i p _ hp => Hf.out i p hp), ?_, ?_, blA⟩
    · rw [e1]; exact csA
    · rw [e0]; exact csA
  case round =>
    obtain ⟨k, v, f2, W, hk, rfl, Hv, HW, Hn, Hf2, B0, B1, hbw⟩ := hrel
    obtain rfl := HW.out
    clear HW
    cases k with
    | succ j =>
      have hv : v = (j : Int) := by rw [Hv.out]; omega
      subst hv
      have hj : j < n := by omega
      have hjI : (0 : Int) ≤ (j : Int) := by omega
      have hj6 : (j : Int) < 6 := by omega
      obtain ⟨b, off, p, rfl, hget, c0, c1⟩ := Hz.out.at_ hbw hj
      have hmem := List.mem_of_getElem? hget
      have g4 := (Hg.out p hmem).g4
      have hfj := Hf2.out j p (by omega) hget
      have hpa := plAt_eq hget
      have hjn : (j : Int) < (n : Int) := by omega
      have ca : W.cell? ⟨w.heap.size, j, none⟩ = some (.int .i64 (f2 j : Nat)) := by rw [B0.c, ans_get f2 j (by omega)]
      have f1 : IntKind.i64.wrap (((f2 j : Nat) : Int) + 1) = ((f2 j : Nat) : Int) + 1 := IntWalk.i64_in _ (by omega)
      have f5 : IntKind.i64.wrap ((j : Int) - 1) = (j : Int) - 1 := IntWalk.i64_in _ (by omega)
      have fB := B0.f
      have lB := B0.lt
      clear c0 c1
      go_wp2_with fail
      have D0 := B0.ansSet j (f2 j + 1) (by omega)
      have D1 := B1.other (p := ⟨w.heap.size, j, none⟩) (by simp) (.int .i64 ((f2 j + 1 : Nat) : Int))
      have hbD := bset hbw (p := ⟨w.heap.size, j, none⟩) (Nat.le_refl _) (.int .i64 ((f2 j + 1 : Nat) : Int))
      rw [show ((f2 j + 1 : Nat) : Int) = ((f2 j : Nat) : Int) + 1 by omega] at D0 D1 hbD
      clear B0 B1 hbw ca fB lB f1
      generalize W.setCell ⟨w.heap.size, j, none⟩ (.int .i64 (((f2 j : Nat) : Int) + 1)) = W1 at *
      have cg : W1.cell? ⟨g, 0, none⟩ = some (.slice (some ⟨b, off, none⟩) n c) := (hbD.cell (p := ⟨g, 0, none⟩) hglt).trans (HB.out.c 0)
      obtain ⟨c0, c1⟩ := Hz.out.cell hbD hj hget
      have ca : W1.cell? ⟨w.heap.size, j, none⟩ = some (.int .i64 (((f2 j : Nat) : Int) + 1)) := by
        rw [D0.c, ans_get _ j (by omega)]
        simp [upd]
      by_cases hlt : f2 j + 1 < p.gn
      · have hltI : ((f2 j : Nat) : Int) + 1 < (p.gn : Int) := by omega
        have hR2 : upd f2 j (f2 j + 1) = R := by
          rw [← Hn.out, nextA, hpa, if_pos hlt]
        generalize upd f2 j (f2 j + 1) = f3 at *
        subst hR2
        clear Hn Hf2 Hv hpa hmem hget
        obtain ⟨gA, gn, gc, gs, eA, en, ec, es⟩ := p
        dsimp only at *
        go_wp2_with fail
        go_quiet (fail)
        replace D0 := D0.drewN nq
        replace D1 := D1.drewN nq
        replace hbD := bdrewN hbD nq
        clear ca cg c0 c1
        generalize W1.drewN nq = W4 at *
        have B0u : Cs W4 w.heap.size #[.int .i64 (f3 0 : Nat), .int .i64 (f3 1 : Nat), .int .i64 (f3 2 : Nat), .int .i64 (f3 3 : Nat), .int .i64 (f3 4 : Nat), .int .i64 (f3 5 : Nat)] := D0
        have B1u : Cs W4 (w.heap.size + 1) #[.int .i64 0, .int .i64 0, .int .i64 0, .int .i64 0, .int .i64 0, .int .i64 0] := D1
        have X1 := D1.set6 f3
        have hbX := bset6 hbD (g' := w.heap.size + 1) (by omega) f3
        unfold set6 at X1 hbX
        have X1u : Cs _ (w.heap.size + 1) #[.int .i64 (f3 0 : Nat), .int .i64 (f3 1 : Nat), .int .i64 (f3 2 : Nat), .int .i64 (f3 3 : Nat), .int .i64 (f3 4 : Nat), .int .i64 (f3 5 : Nat)] := X1
        have cB0u := B0u.c
        have fB0u := B0u.f
        have lB0u := B0u.lt
        have cB1u := B1u.c
        have fB1u := B1u.f
        have lB1u := B1u.lt
        clear e0 e1 D0 D1 B0u B1u
        go_wp2_with fail
        have cX := X1u.c
        have fX := X1u.f
        have lX := X1u.lt
        exact bodyPost_ret (v := .agg (ans f3)) (by simp [results, Try.results77, go_sem, cX, fX, lX, ans]) rfl ⟨rfl, hbX⟩
      · have hltI : ¬ ((f2 j : Nat) : Int) + 1 < (p.gn : Int) := by omega
        have Hn2 : Hid (nextA (fun i => (plAt zs i).gn) j (upd f2 j 0) = R) := Lib.hid (by rw [← Hn.out, nextA, hpa, if_neg hlt])
        have Hf3 : Hid (∀ i p, i < j → zs[i]? = some p → upd f2 j 0 i < p.gn) := Lib.hid (fun i q hi hq => by
          unfold upd
          rw [if_neg (by omega)]
          exact Hf2.out i q (by omega) hq)
        have fD := D0.f
        have lD := D0.lt
        clear Hn Hf2 Hv hpa hmem hget
        obtain ⟨gA, gn, gc, gs, eA, en, ec, es⟩ := p
        dsimp only at *
        go_wp2_with fail
        go_quiet (fail)
        have E0 := (D0.drewN nq).ansSet j 0 (by omega)
        rw [upd_upd] at E0
        have E1 := (D1.drewN nq).other (p := ⟨w.heap.size, j, none⟩) (by simp) (.int .i64 ((0 : Nat) : Int))
        have hbE := bset (bdrewN hbD nq) (p := ⟨w.heap.size, j, none⟩) (Nat.le_refl _) (.int .i64 ((0 : Nat) : Int))
        go_wp2_with fail
        go_roundw
        case rel => exact ⟨j, (j : Int) - 1, upd f2 j 0, _, by omega, rfl, Lib.hid rfl, Lib.hid rfl, Hn2, Hf3, E0, E1, hbE⟩
        case measure => first | (simp [intOf]; done) | (simp [intOf]; omega)
    | zero =>
      have hv : v = -1 := by rw [Hv.out]; rfl
      subst hv
      have hR2 : f2 = R := Hn.out
      subst hR2
      clear Hv Hn Hf2
      have B0u : Cs W w.heap.size #[.int .i64 (f2 0 : Nat), .int .i64 (f2 1 : Nat), .int .i64 (f2 2 : Nat), .int .i64 (f2 3 : Nat), .int .i64 (f2 4 : Nat), .int .i64 (f2 5 : Nat)] := B0
      have B1u : Cs W (w.heap.size + 1) #[.int .i64 0, .int .i64 0, .int .i64 0, .int .i64 0, .int .i64 0, .int .i64 0] := B1
      have X1 := B1.set6 f2
      have hbX := bset6 hbw (g' := w.heap.size + 1) (by omega) f2
      unfold set6 at X1 hbX
      have X1u : Cs _ (w.heap.size + 1) #[.int .i64 (f2 0 : Nat), .int .i64 (f2 1 : Nat), .int .i64 (f2 2 : Nat), .int .i64 (f2 3 : Nat), .int .i64 (f2 4 : Nat), .int .i64 (f2 5 : Nat)] := X1
      have cB0u := B0u.c
      have fB0u := B0u.f
      have lB0u := B0u.lt
      have cB1u := B1u.c
      have fB1u := B1u.f
      have lB1u := B1u.lt
      clear e0 e1 B0 B1 B0u B1u
      go_wp2_with fail
      have cX := X1u.c
      have fX := X1u.f
      have lX := X1u.lt
      exact bodyPost_ret (v := .agg (ans f2)) (by simp [results, Try.results77, go_sem, cX, fX, lX, ans]) rfl ⟨rfl, hbX⟩

end Go.Proofs.Ytcmllkjgggcghaa
end

/- Walks of layer 10: thresholds; small functions of the law package. -/
section
namespace Go.Proofs.Ytcmllkjgggcghaa
open Go.RowKit Go.Shelf
set_option linter.unusedSimpArgs false
set_option linter.unusedVariables false

/-- a fraction is a threshold -/
def isTh (n d : Int) : Bool := decide (0 ≤ n ∧ n ≤ 1000000000 ∧ 1 ≤ d ∧ d ≤ 1000000000 ∧ Int.gcd n d = 1)

set_option maxHeartbeats 1000000 in
theorem over_any (n d g e : Int) (w : World) (hn : 0 ≤ n) (hN : n ≤ 1000000000) (hd : 0 ≤ d) (hD : d ≤ 1000000000) (hg : 0 ≤ g) (hG : g ≤ 64000000) (he : 0 ≤ e) (hE : e ≤ 64000000) :
    Calls Try.prog 50 #[.agg #[.int .i64 n, .int .i64 d], .agg #[.int .i64 g, .int .i64 e]] w fun x w' => x = .returned (.int .i64 (e * d - g * n)) ∧ Below w.heap.size w w' := by
  have m0 : 0 ≤ e * d := Int.mul_nonneg he hd
  have m1 : e * d ≤ 64000000 * 1000000000 := Int.mul_le_mul hE hD hd (by omega)
  have m2 : 0 ≤ g * n := Int.mul_nonneg hg hn
  have m3 : g * n ≤ 64000000 * 1000000000 := Int.mul_le_mul hG hN hn (by omega)
  have f1 : IntKind.i64.wrap (e * d) = e * d := IntWalk.i64_in _ (by omega)
  have f2 : IntKind.i64.wrap (g * n) = g * n := IntWalk.i64_in _ (by omega)
  have f3 : IntKind.i64.wrap (e * d - g * n) = e * d - g * n := IntWalk.i64_in _ (by omega)
  clear m0 m1 m2 m3
  go_enter Try.func50, Try.ntmps50
  go_wp2_with fail
  go_ret
  exact ⟨rfl, blA⟩

set_option maxHeartbeats 1000000 in
theorem valid_any (n d : Int) (w : World) :
    Calls Try.prog 48 #[.agg #[.int .i64 n, .int .i64 d]] w fun e w' => e = .returned (.bool (isTh n d)) ∧ Below w.heap.size w w' := by
  have k1 := fun A c W hz => within_any 0 1000000000 A 1 c [n] W hz (by omega)
  have k2 := fun A c W hz => within_any 1 1000000000 A 1 c [d] W hz (by omega)
  have e1 : ([n].all fun x => !out 0 1000000000 x) = decide (0 ≤ n ∧ n ≤ 1000000000) := by simp [out]; rw [Bool.eq_iff_iff]; simp
  have e2 : ([d].all fun x => !out 1 1000000000 x) = decide (1 ≤ d ∧ d ≤ 1000000000) := by simp [out]; rw [Bool.eq_iff_iff]; simp
  rw [e1] at k1
  rw [e2] at k2
  clear e1 e2
  by_cases h1 : 0 ≤ n ∧ n ≤ 1000000000
  · rw [decide_eq_true h1] at k1
    by_cases h2 : 1 ≤ d ∧ d ≤ 1000000000
    · rw [decide_eq_true h2] at k2
      have k3 := fun W => divisor_any n d W (by omega) (by omega) (by omega) (by omega)
      have hfin : Hid (((Int.gcd n d : Int) == 1) = isTh n d) := Lib.hid (by rw [Bool.eq_iff_iff]; simp [isTh, h1, h2]; omega)
      clear h1 h2
      generalize (Int.gcd n d : Int) = g at *
      go_enter Try.func48, Try.ntmps48
      go_wp2_with fail
      refine (k1 _ _ _ (Ints.new1 _ _ _ _ (by simp))).mono ?_
      rintro _ w1 ⟨rfl, hb1⟩
      replace B0 : Cs w1 (w.heap.size) #[.int .i64 n, .int .i64 d] := Cs.keep csA hb1
      replace hbw : Below w.heap.size w w1 := blA
      replace cB0 := B0.c
      replace fB0 := B0.f
      replace lB0 := B0.lt
      clear hb1
      go_wp2_with fail
      refine (k2 _ _ _ (Ints.new1 _ _ _ _ (by simp))).mono ?_
      rintro _ w2 ⟨rfl, hb2⟩
      replace B0 : Cs w2 (w.heap.size) #[.int .i64 n, .int .i64 d] := Cs.keep csA hb2
      replace hbw : Below w.heap.size w w2 := blA
      replace cB0 := B0.c
      replace fB0 := B0.f
      replace lB0 := B0.lt
      clear hb2
      go_wp2_with fail
      refine (k3 _).mono ?_
      rintro e w3 ⟨rfl, hb3⟩
      try clear cB0 fB0 lB0
      try clear B0
      replace hbw : Below w.heap.size w w3 := blA
      clear hb3
      go_wp2_with fail
      go_ret
      exact ⟨ret_bool hfin.out, blA⟩
    · rw [decide_eq_false h2] at k2
      have hfin : Hid (false = isTh n d) := Lib.hid (by symm; simp [isTh]; omega)
      clear h1 h2
      go_enter Try.func48, Try.ntmps48
      go_wp2_with fail
      refine (k1 _ _ _ (Ints.new1 _ _ _ _ (by simp))).mono ?_
      rintro _ w1 ⟨rfl, hb1⟩
      replace B0 : Cs w1 (w.heap.size) #[.int .i64 n, .int .i64 d] := Cs.keep csA hb1
      replace hbw : Below w.heap.size w w1 := blA
      replace cB0 := B0.c
      replace fB0 := B0.f
      replace lB0 := B0.lt
      clear hb1
      go_wp2_with fail
      refine (k2 _ _ _ (Ints.new1 _ _ _ _ (by simp))).mono ?_
      rintro _ w2 ⟨rfl, hb2⟩
      try clear cB0 fB0 lB0
      try clear B0
      replace hbw : Below w.heap.size w w2 := blA
      clear hb2
      go_wp2_with fail
      go_ret
      exact ⟨ret_bool hfin.out, blA⟩
  · rw [decide_eq_false h1] at k1
    have hfin : Hid (false = isTh n d) := Lib.hid (by symm; simp [isTh]; omega)
    clear h1 k2
    go_enter Try.func48, Try.ntmps48
    go_wp2_with fail
    refine (k1 _ _ _ (Ints.new1 _ _ _ _ (by simp))).mono ?_
    rintro _ w1 ⟨rfl, hb1⟩
    replace hbw : Below w.heap.size w w1 := blA
    clear hb1
    go_wp2_with fail
    go_ret
    exact ⟨ret_bool hfin.out, blA⟩

set_option maxHeartbeats 1000000 in
theorem risThreshold_any (n d : Int) (w : World) :
    Calls Try.prog 51 #[.agg #[.int .i64 n, .int .i64 d]] w fun e w' => e = .returned (.bool (isTh n d)) ∧ Below w.heap.size w w' := by
  by_cases h1 : 0 ≤ n
  case neg =>
    have hfin : Hid (false = isTh n d) := Lib.hid (by symm; simp [isTh]; omega)
    go_enter Try.func51, Try.ntmps51
    go_wp2_with fail
    go_ret
    exact ⟨ret_bool hfin.out, blA⟩
  case pos =>
  by_cases h2 : n ≤ 1000000000
  case neg =>
    have hfin : Hid (false = isTh n d) := Lib.hid (by symm; simp [isTh]; omega)
    go_enter Try.func51, Try.ntmps51
    go_wp2_with fail
    go_ret
    exact ⟨ret_bool hfin.out, blA⟩
  case pos =>
  by_cases h3 : 1 ≤ d
  case neg =>
    have hfin : Hid (false = isTh n d) := Lib.hid (by symm; simp [isTh]; omega)
    go_enter Try.func51, Try.ntmps51
    go_wp2_with fail
    go_ret
    exact ⟨ret_bool hfin.out, blA⟩
  case pos =>
  by_cases h4 : d ≤ 1000000000
  case neg =>
    have hfin : Hid (false = isTh n d) := Lib.hid (by symm; simp [isTh]; omega)
    go_enter Try.func51, Try.ntmps51
    go_wp2_with fail
    go_ret
    exact ⟨ret_bool hfin.out, blA⟩
  case pos =>
  have k3 := fun W => rcommon_any n d W (by omega) (by omega) (by omega) (by omega)
  have hfin : Hid (((Int.gcd n d : Int) == 1) = isTh n d) := Lib.hid (by rw [Bool.eq_iff_iff]; simp [isTh, h1, h2, h3, h4]; omega)
  generalize (Int.gcd n d : Int) = g at *
  go_enter Try.func51, Try.ntmps51
  go_wp2_with fail
  refine (k3 _).mono ?_
  rintro e w1 ⟨rfl, hb1⟩
  replace hbw : Below w.heap.size w w1 := blA
  clear hb1
  go_wp2_with fail
  go_ret
  exact ⟨ret_bool hfin.out, blA⟩

set_option maxHeartbeats 400000 in
theorem of_any (n d : Int) (w : World) :
    Calls Try.prog 28 #[.int .i64 n, .int .i64 d] w fun e w' => e = .returned (.agg #[.int .i64 n, .int .i64 d]) ∧ Below w.heap.size w w' := by
  go_enter Try.func28, Try.ntmps28
  go_wp2_with fail
  exact bodyPost_ret (v := .agg #[.int .i64 n, .int .i64 d]) (by simp [results, Try.results28, go_sem]) rfl ⟨rfl, blA⟩

theorem list_ext_getD (xs ys : List Int) (hl : xs.length = ys.length) (h : ∀ i, i < xs.length → xs.getD i 0 = ys.getD i 0) : xs = ys := by
  apply List.ext_getElem? 
  intro i
  by_cases hi : i < xs.length
  · have := h i hi
    rw [List.getD_eq_getElem?_getD, List.getD_eq_getElem?_getD, List.getElem?_eq_getElem hi, List.getElem?_eq_getElem (by omega)] at this
    rw [List.getElem?_eq_getElem hi, List.getElem?_eq_getElem (by omega)]
    simpa using this
  · rw [List.getElem?_eq_none (by omega), List.getElem?_eq_none (by omega)]

set_option maxHeartbeats 1000000 in
theorem ints_any (A B : Option Addr) (n m c c' : Nat) (xs ys : List Int) (w : World) (hx : Ints w A n xs) (hy : Ints w B m ys) (hn : n ≤ 9223372036854775807) (hm : m ≤ 9223372036854775807) (r : Bool) (hr : r = decide (xs = ys)) :
    Calls Try.prog 17 #[.slice A n c, .slice B m c'] w fun e w' => e = .returned (.bool r) ∧ Below w.heap.size w w' := by
  have Hx := Lib.hid hx
  have Hy := Lib.hid hy
  have Hr := Lib.hid hr
  clear hx hy hr
  by_cases hnm : n = m
  · subst hnm
    go_enter Try.func17, Try.ntmps17
    go_wp2_with fail
    go_loopw [5] (fun iv wr => ∃ k : Nat, k ≤ n ∧ iv = .int .i64 k ∧ Hid (∀ j, j < k → xs.getD j 0 = ys.getD j 0) ∧ Below w.heap.size w wr) (fun iv _ => n - (intOf iv).toNat)
    case atStart => exact ⟨0, by omega, rfl, Lib.hid (fun j hj => absurd hj (by omega)), blA⟩
    case round =>
      obtain ⟨k, hk, rfl, Hk, hbw⟩ := hrel
      by_cases hlt : k < n
      · obtain ⟨b1, o1, rfl, _, e1⟩ := Hx.out.at0 hbw hlt
        obtain ⟨b2, o2, rfl, _, e2⟩ := Hy.out.at0 hbw hlt
        by_cases he : xs.getD k 0 = ys.getD k 0
        · have Hk2 : Hid (∀ j, j < k + 1 → xs.getD j 0 = ys.getD j 0) := Lib.hid (fun j hj => by
            by_cases e : j = k
            · rw [e]; exact he
            · exact Hk.out j (by omega))
          rw [he] at e1
          generalize ys.getD k 0 = y at *
          clear he
          go_wp2_with fail
          go_quiet (fail)
          go_wp2_with fail
          go_roundw
          case rel => exact ⟨k + 1, by omega, by go_num, Hk2, blA⟩
          case measure => simp [intOf]; omega
        · have hr0 : Hid (r = false) := Lib.hid (by
            rw [Hr.out]
            exact decide_eq_false (fun h => he (by rw [h])))
          obtain rfl := hr0.out
          have he2 : (xs.getD k 0 == ys.getD k 0) = false := by simpa using he
          have he3 : (xs.getD k 0 != ys.getD k 0) = true := by simpa using he
          clear hr0 Hr Hk
          generalize xs.getD k 0 = x at *
          generalize ys.getD k 0 = y at *
          go_wp2_with fail
          go_quiet (fail)
          go_wp2_with fail
          go_ret
          exact ⟨rfl, blA⟩
      · obtain rfl : k = n := by omega
        have hr0 : Hid (r = true) := Lib.hid (by
          rw [Hr.out]
          exact decide_eq_true (list_ext_getD _ _ (by rw [Hx.out.1, Hy.out.1]) (fun i hi => Hk.out i (by have := Hx.out.1; omega))))
        obtain rfl := hr0.out
        clear hr0 Hr Hk
        go_wp2_with fail
        go_ret
        exact ⟨rfl, blA⟩
  · have hr0 : Hid (r = false) := Lib.hid (by
      rw [Hr.out]
      exact decide_eq_false (fun h => hnm (by rw [← Hx.out.1, ← Hy.out.1, h])))
    obtain rfl := hr0.out
    have h1 : ((n : Int) == (m : Int)) = false := by simp; omega
    have h2 : ¬ (n : Int) = (m : Int) := by omega
    have h3 : ¬ n = m := hnm
    clear hr0 Hr hnm
    go_enter Try.func17, Try.ntmps17
    go_wp2_with fail
    go_ret
    exact ⟨rfl, blA⟩


end Go.Proofs.Ytcmllkjgggcghaa
end

/- Walks of the reference of layer 10: Many. -/
section
namespace Go.Proofs.Ytcmllkjgggcghaa
open Go.RowKit Go.Shelf
set_option linter.unusedSimpArgs false
set_option linter.unusedVariables false

set_option maxRecDepth 10000 in
set_option maxHeartbeats 1000000 in
theorem many_same (A : Option Addr) (n c : Nat) (zs : List Pl) (w : World) (hz : Plates w A n zs) (hn : n ≤ 6) (hg : ∀ p ∈ zs, Good p) (m : Nat) (hm : m = manyT zs) :
    Calls Try.prog 45 #[.slice A n c] w fun e w' => e = .returned (.int .i64 (m : Nat)) ∧ w' = w := by
  have hl := hz.1
  have Hz := Lib.hid hz
  have Hg := Lib.hid hg
  have HM := Lib.hid (fun k hk => many_bd hg k hk)
  have Hm := Lib.hid hm
  clear hz hg hm
  go_enter Try.func45, Try.ntmps45
  go_wp2_with fail
  go_loopw [3, 4] (fun s3 s4 wx => ∃ (k x : Nat), k ≤ n ∧ s4 = .int .i64 k ∧ s3 = .int .i64 (x : Nat) ∧ Hid (x = manyT (zs.take k)) ∧ wx = w) (fun _ s4 _ => n - (intOf s4).toNat)
  case atStart => exact ⟨0, 1, Nat.zero_le _, rfl, rfl, Lib.hid (by simp [manyT]), rfl⟩
  case round =>
    obtain ⟨k, x, hk, rfl, rfl, Hx, rfl⟩ := hrel
    by_cases hkn : k < n
    · have hkI : (k : Int) < (n : Int) := by omega
      obtain ⟨b, off, p, rfl, hget, c0, c1⟩ := Hz.out.at_ (Below.refl _ _) hkn
      have hmem := List.mem_of_getElem? hget
      have Hx2 : Hid (x * p.gn = manyT (zs.take (k + 1))) := Lib.hid (by rw [Hx.out]; exact (many_next hget).symm)
      have hb2 := HM.out (k + 1) (by omega)
      have hp4 := pow4 (k + 1) (by omega)
      have hle : x * p.gn ≤ 4096 := by rw [Hx2.out]; omega
      have f1 : IntKind.i64.wrap ((x : Int) * (p.gn : Int)) = (x : Int) * (p.gn : Int) := by
        rw [← Int.natCast_mul]; exact IntWalk.i64_in _ (by omega)
      have f2 : ((x * p.gn : Nat) : Int) = (x : Int) * (p.gn : Int) := by rw [Int.natCast_mul]
      clear hget hmem hb2 hp4 Hx hle
      go_wp2_with fail
      go_roundw
      case rel => exact ⟨k + 1, x * p.gn, by omega, by go_num, by first | rfl | rw [f2] | simp [f2], Hx2, by trivial⟩
      case measure => simp [intOf]; omega
    · obtain rfl : k = n := by omega
      have Hf : Hid (x = m) := Lib.hid (by rw [Hx.out, Hm.out, List.take_of_length_le (by omega)])
      clear Hx
      go_wp2_with fail
      go_ret
      exact ⟨ret_int (by rw [Hf.out]), rfl⟩

end Go.Proofs.Ytcmllkjgggcghaa
end
