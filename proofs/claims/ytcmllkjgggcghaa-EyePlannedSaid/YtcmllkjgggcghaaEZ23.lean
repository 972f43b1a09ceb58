/- EK04 EL04 -/
import Derived.Test.YtcmllkjgggcghaaEZ22
import Derived.Test.YtcmllkjgggcghaaEZ04
import Derived.Test.YtcmllkjgggcghaaEZ01
import Derived.Deep.RegionHeld3
import Derived.Sort.AtCall
import Derived.Test.YtcmllkjgggcghaaEZ17
/- The walk of EyeTails: but for Works. -/
section
namespace Go.Proofs.Ytcmllkjgggcghaa
open Go.RowKit Go.Shelf
set_option linter.unusedSimpArgs false
set_option linter.unusedVariables false

theorem mul_i64 {a b A B : Int} (h0 : 0 ≤ a) (h1 : a ≤ A) (h2 : 0 ≤ b) (h3 : b ≤ B) : 0 ≤ a * b ∧ a * b ≤ A * B :=
  ⟨Int.mul_nonneg h0 h2, Int.mul_le_mul h1 h3 h2 (by omega)⟩
theorem size_below {W w : World} {o : Obj} (h : Below (W.alloc o).heap.size (W.alloc o) w) : W.heap.size + 1 ≤ w.heap.size := by
  have := h.size; simpa using this
theorem size_drew {W w : World} (h : Below W.drew.heap.size W.drew w) : W.heap.size ≤ w.heap.size := h.size
def S3 (a b : Nat) (x y z u : Int) (W : World) : Prop := W.cell? ⟨a, 0, none⟩ = some (.int .u8 x) ∧ W.cell? ⟨a, 1, none⟩ = some (.int .u8 y) ∧ W.cell? ⟨b, 0, none⟩ = some (.int .u8 z) ∧ W.cell? ⟨b, 1, none⟩ = some (.int .u8 u)
structure J3 (w : World) (x0 x1 y0 y1 c1 c2 d1 d2 : Int) (d : Nat → Bool) (v42 v47 v11 v12 : Value) (W : World) : Prop where
  a0 : Cs W w.heap.size #[.int .u8 x0, .int .u8 x1]
  a1 : Cs W (w.heap.size + 1) #[.int .u8 y0, .int .u8 y1]
  hb : Below w.heap.size w W
  c : d 4 = true → v42 = .agg #[.int .i64 c1, .int .i64 c2]
  e : d 9 = true → v47 = .agg #[.int .i64 d1, .int .i64 d2]
  p : Mk2 (w.heap.size + 2) W (d 10) (d 12) v11 c1 c2
  q : Mk2 (w.heap.size + 2) W (d 11) (d 13) v12 d1 d2
  n : d 10 = true → d 11 = true → v11 ≠ v12
theorem J3.s {w W : World} {x0 x1 y0 y1 c1 c2 d1 d2 : Int} {d : Nat → Bool} {v42 v47 v11 v12 : Value} (h : J3 w x0 x1 y0 y1 c1 c2 d1 d2 d v42 v47 v11 v12 W) : S3 w.heap.size (w.heap.size + 1) x0 x1 y0 y1 W :=
  ⟨h.a0.c 0, h.a0.c 1, h.a1.c 0, h.a1.c 1⟩

theorem tdiv_le {a b A : Int} (h0 : 0 ≤ a) (h1 : a ≤ A) (hb : 1 ≤ b) : 0 ≤ a / b ∧ a / b ≤ A :=
  ⟨Int.ediv_nonneg h0 (by omega), Int.le_trans (Int.ediv_le_self _ h0) h1⟩
theorem size_alloc (w : World) (o : Obj) : (w.alloc o).heap.size = w.heap.size + 1 := by simp
theorem size_drw (w : World) : w.drew.heap.size = w.heap.size := rfl
structure TF (c1 c2 x1 x2 y1 y2 W hx hy : Int) (t : Int × Int) : Prop where
  x0 : 1 ≤ x2
  y0 : 1 ≤ y2
  mx : W.tmod x2 = 0
  my : W.tmod y2 = 0
  dx : W.tdiv x2 = hx
  dy : W.tdiv y2 = hy
  hx0 : 0 ≤ hx ∧ hx ≤ 1000000000000
  hy0 : 0 ≤ hy ∧ hy ≤ 1000000000000
  cx : 0 ≤ c1 * x1 ∧ c1 * x1 ≤ 10000000000000
  cy : 0 ≤ (c2 - c1) * y1 ∧ (c2 - c1) * y1 ≤ 10000000000000
  sx : 0 ≤ c1 * x1 * hx ∧ c1 * x1 * hx ≤ 10000000000000
  sy : 0 ≤ (c2 - c1) * y1 * hy ∧ (c2 - c1) * y1 * hy ≤ 10000000000000
  w0 : 1 ≤ W * c2 ∧ W * c2 ≤ 1000000000000
  res : Em.red (c1 * x1 * hx + (c2 - c1) * y1 * hy) (W * c2) = t
theorem tailT_bd {c : Int × Int} (h : Em.Chc c) (n r : Nat) (hn : n ≤ 12) : 0 ≤ (Em.tailT n r c).1 ∧ (Em.tailT n r c).1 ≤ 1000000000000 ∧ 1 ≤ (Em.tailT n r c).2 ∧ (Em.tailT n r c).2 ≤ 1000000000000 := by
  have := Em.tailT_pr h n r hn
  simp [isPr] at this
  omega
theorem tailY_bd {c : Int × Int} (h : Em.Chc c) (n r : Nat) (hn : n ≤ 12) : 0 ≤ (Em.tailY n r c).1 ∧ (Em.tailY n r c).1 ≤ 1000000000000 ∧ 1 ≤ (Em.tailY n r c).2 ∧ (Em.tailY n r c).2 ≤ 1000000000000 := by
  unfold Em.tailY
  split
  · exact tailT_bd h n r hn
  · decide
theorem tails_facts {c1 c2 : Int} (h : Em.Chc (c1, c2)) (m q : Nat) (hm : m + 1 ≤ 12) (x1 x2 y1 y2 W : Int) (ex : Em.tailT m q (c1, c2) = (x1, x2)) (ey : Em.tailY m (q + 1) (c1, c2) = (y1, y2)) (eW : c2 ^ m = W) :
    ∃ hx hy, TF c1 c2 x1 x2 y1 y2 W hx hy (Em.tailT (m + 1) (q + 1) (c1, c2)) := by
  have a1 := tailT_bd h m q (by omega)
  have a2 := tailY_bd h m (q + 1) (by omega)
  have a3 := Em.tailT_part h m q
  have a4 := Em.tailY_part h m (q + 1)
  have a5 := Em.tailT_sum h m q
  have a6 := h.p1 m
  have a7 := h.p2 (n := m) (by omega)
  have b1 := h.p1 (m + 1)
  have b2 := h.p2 (n := m + 1) (by omega)
  have b3 := h.t0 m q
  have b4 := h.t1 m q
  have b5 := h.t0 m (q + 1)
  have b6 := h.t1 m (q + 1)
  obtain ⟨n0, n1, d0, d1, -⟩ := h
  rw [Int.pow_succ] at b1 b2
  dsimp only at *
  rw [ex] at a1 a3 a5
  rw [ey] at a2 a4 a5
  rw [eW] at a3 a4 a5 a6 a7 b1 b2 b4 b6
  dsimp only at *
  generalize Em.tail c1 (c2 - c1) m q = T at *
  generalize Em.tail c1 (c2 - c1) m (q + 1) = U at *
  have dx := tdiv_le (a := W) (b := x2) (by omega) a7 (by omega)
  have dy := tdiv_le (a := W) (b := y2) (by omega) a7 (by omega)
  have e1 : c1 * x1 * (W / x2) = c1 * T := by rw [Int.mul_assoc, a3.2]
  have e2 : (c2 - c1) * y1 * (W / y2) = (c2 - c1) * U := by rw [Int.mul_assoc, a4.2]
  refine ⟨W / x2, W / y2, a1.2.2.1, a2.2.2.1, ?_, ?_, ?_, ?_, dx, dy, ?_, ?_, ?_, ?_, ⟨b1, b2⟩, a5⟩
  · rw [Int.tmod_eq_emod_of_nonneg (by omega)]; exact a3.1
  · rw [Int.tmod_eq_emod_of_nonneg (by omega)]; exact a4.1
  · exact Int.tdiv_eq_ediv_of_nonneg (by omega)
  · exact Int.tdiv_eq_ediv_of_nonneg (by omega)
  · have := mul_i64 (a := c1) (b := x1) (A := 10) (B := 1000000000000) (by omega) (by omega) (by omega) (by omega); omega
  · have := mul_i64 (a := c2 - c1) (b := y1) (A := 10) (B := 1000000000000) (by omega) (by omega) (by omega) (by omega); omega
  · rw [e1]; have := mul_i64 (a := c1) (b := T) (A := 10) (B := 1000000000000) (by omega) (by omega) (by omega) (by omega); omega
  · rw [e2]; have := mul_i64 (a := c2 - c1) (b := U) (A := 10) (B := 1000000000000) (by omega) (by omega) (by omega) (by omega); omega

set_option maxRecDepth 100000 in
set_option maxHeartbeats 8000000 in
theorem eyeTails_walk (kw : ∀ w : World, Calls Try.prog 14 #[] w fun e w' => e = .returned (.bool true) ∧ Below w.heap.size w w')
    (P R x0 x1 y0 y1 : Int) (w : World) (hP : 0 ≤ P ∧ P ≤ 255) (hR : 0 ≤ R ∧ R ≤ 255) (hx0 : 0 ≤ x0 ∧ x0 ≤ 255) (hx1 : 0 ≤ x1 ∧ x1 ≤ 255) (hy0 : 0 ≤ y0 ∧ y0 ≤ 255) (hy1 : 0 ≤ y1 ∧ y1 ≤ 255) :
    Calls Try.prog 6 #[.int .u8 P, .int .u8 R, .agg #[.int .u8 x0, .int .u8 x1], .agg #[.int .u8 y0, .int .u8 y1]] w fun e w' => e = .returned (.bool true) ∧ Below w.heap.size w w' := by
  have hC := chP_chc x0 x1 hx0.1 hx1.1
  have hD := chP_chc y0 y1 hy0.1 hy1.1
  have kc := fun W => chance_any x0 x1 W hx0 hx1
  have kd := fun W => chance_any y0 y1 W hy0 hy1
  obtain ⟨⟨c1, c2⟩, hc⟩ : ∃ c, chP 10 x0 x1 = c := ⟨_, rfl⟩
  obtain ⟨⟨d1, d2⟩, hd⟩ : ∃ c, chP 10 y0 y1 = c := ⟨_, rfl⟩
  rw [hc] at hC kc
  rw [hd] at hD kd
  clear hc hd
  -- the numbers of plates
  obtain ⟨m, n, hmn, hn⟩ : ∃ m n : Nat, m + 1 = n ∧ (2 + P % 11 : Int) = n := ⟨(1 + P % 11).toNat, (2 + P % 11).toNat, by omega, by omega⟩
  obtain ⟨r, hr⟩ : ∃ r : Nat, (R % ((n : Int) + 1) : Int) = r := ⟨(R % ((n : Int) + 1)).toNat, by have := Int.emod_nonneg R (b := (n : Int) + 1) (by omega); omega⟩
  have hrn : r ≤ n := by have := Int.emod_lt_of_pos R (b := (n : Int) + 1) (by omega); omega
  have hn2 : 2 ≤ n ∧ n ≤ 12 := by omega
  have f0 : IntKind.i64.wrap P = P := IntWalk.i64_in _ (by omega)
  have f1 : P.tmod 11 = (n : Int) - 2 := by rw [Int.tmod_eq_emod_of_nonneg hP.1]; omega
  have f2 : IntKind.i64.wrap ((n : Int) - 2) = (n : Int) - 2 := IntWalk.i64_in _ (by omega)
  have f3 : IntKind.i64.wrap (2 + ((n : Int) - 2)) = (n : Int) := by rw [IntWalk.i64_in _ (by omega)]; omega
  have f4 : IntKind.i64.wrap R = R := IntWalk.i64_in _ (by omega)
  have f5 : IntKind.i64.wrap ((n : Int) + 1) = (n : Int) + 1 := IntWalk.i64_in _ (by omega)
  have f6 : (((n : Int) + 1) == 0) = false := by simp; omega
  have f7 : R.tmod ((n : Int) + 1) = (r : Int) := by rw [Int.tmod_eq_emod_of_nonneg hR.1]; exact hr
  have f8 : IntKind.i64.wrap (r : Int) = (r : Int) := IntWalk.i64_in _ (by omega)
  clear hn hr hP hR hx0 hx1 hy0 hy1
  -- the tails
  have tl : ∀ (p q : Nat) (e1 e2 : Int), Em.Chc (e1, e2) → 1 ≤ p → p ≤ 12 → q ≤ p → ∀ W, Calls Try.prog 22 #[.agg #[.int .i64 p, .int .i64 q], .agg #[.int .i64 e1, .int .i64 e2]] W fun e w' => e = .returned (.tuple #[.agg #[.int .i64 (Em.tailT p q (e1, e2)).1, .int .i64 (Em.tailT p q (e1, e2)).2], .int .i64 0]) ∧ Below W.heap.size W w' := fun p q e1 e2 hE h1 h2 h3 W => by
    have := tail_any p q e1 e2 W
    unfold tailP at this
    rw [if_pos ⟨by omega, by omega, by omega, by omega, Chc.isCh hE⟩] at this
    exact this
  have pr : ∀ (p q : Nat) (e1 e2 : Int), Em.Chc (e1, e2) → p ≤ 12 → ∀ W, Calls Try.prog 27 #[.agg #[.int .i64 (Em.tailT p q (e1, e2)).1, .int .i64 (Em.tailT p q (e1, e2)).2]] W fun e w' => e = .returned (.bool true) ∧ Below W.heap.size W w' := fun p q e1 e2 hE h2 W => by
    have := proper_any (Em.tailT p q (e1, e2)).1 (Em.tailT p q (e1, e2)).2 W
    rw [Em.tailT_pr hE p q h2] at this
    exact this
  have ls : ∀ (a b : Int × Int), 0 ≤ a.1 ∧ a.1 ≤ 1000000000000 ∧ 1 ≤ a.2 ∧ a.2 ≤ 1000000000000 → 0 ≤ b.1 ∧ b.1 ≤ 1000000000000 ∧ 1 ≤ b.2 ∧ b.2 ≤ 1000000000000 → b.1 * a.2 ≤ a.1 * b.2 → ∀ W, Calls Try.prog 29 #[.agg #[.int .i64 a.1, .int .i64 a.2], .agg #[.int .i64 b.1, .int .i64 b.2]] W fun e w' => e = .returned (.bool false) ∧ Below W.heap.size W w' := fun a b ha hb hab W =>
    less_any a.1 a.2 b.1 b.2 W ha.1 hb.1 ha.2.2.1 hb.2.2.1 (by omega) (by omega) (by omega) (by omega) false (by rw [decide_eq_false (by omega)])
  obtain ⟨⟨t1, t2⟩, ht⟩ : ∃ t, Em.tailT n r (c1, c2) = t := ⟨_, rfl⟩
  obtain ⟨⟨u1, u2⟩, hu⟩ : ∃ t, Em.tailT n r (d1, d2) = t := ⟨_, rfl⟩
  have kt := tl n r c1 c2 hC (by omega) (by omega) hrn
  have ku := tl n r d1 d2 hD (by omega) (by omega) hrn
  have kA := tl n 0 c1 c2 hC (by omega) (by omega) (by omega)
  have pt := pr n r c1 c2 hC (by omega)
  have pu := pr n r d1 d2 hD (by omega)
  have bt := tailT_bd hC n r (by omega)
  have bu := tailT_bd hD n r (by omega)
  have l1 : c1 * d2 ≤ d1 * c2 → ∀ W, Calls Try.prog 29 #[.agg #[.int .i64 u1, .int .i64 u2], .agg #[.int .i64 t1, .int .i64 t2]] W fun e w' => e = .returned (.bool false) ∧ Below W.heap.size W w' := fun h => by
    have := Em.tailT_less hC hD n r h
    rw [ht, hu] at this
    rw [ht] at bt
    rw [hu] at bu
    exact ls (u1, u2) (t1, t2) bu bt this
  have l2 : d1 * c2 ≤ c1 * d2 → ∀ W, Calls Try.prog 29 #[.agg #[.int .i64 t1, .int .i64 t2], .agg #[.int .i64 u1, .int .i64 u2]] W fun e w' => e = .returned (.bool false) ∧ Below W.heap.size W w' := fun h => by
    have := Em.tailT_less hD hC n r h
    rw [ht, hu] at this
    rw [ht] at bt
    rw [hu] at bu
    exact ls (t1, t2) (u1, u2) bt bu this
  rw [Em.tailT_all hC n] at kA
  rw [ht] at kt pt
  rw [hu] at ku pu
  dsimp only at kt ku kA pt pu
  have f9 : IntKind.i64.wrap (c1 * d2) = c1 * d2 := by
    obtain ⟨h1, h2, h3, h4, -⟩ := hC
    obtain ⟨i1, i2, i3, i4, -⟩ := hD
    dsimp only at *
    have := mul_i64 (a := c1) (b := d2) (A := 10) (B := 10) (by omega) (by omega) (by omega) (by omega)
    exact IntWalk.i64_in _ (by omega)
  have f10 : IntKind.i64.wrap (d1 * c2) = d1 * c2 := by
    obtain ⟨h1, h2, h3, h4, -⟩ := hC
    obtain ⟨i1, i2, i3, i4, -⟩ := hD
    dsimp only at *
    have := mul_i64 (a := d1) (b := c2) (A := 10) (B := 10) (by omega) (by omega) (by omega) (by omega)
    exact IntWalk.i64_in _ (by omega)
  have f11 : IntKind.i64.wrap ((n : Int) - 1) = (m : Int) := by rw [IntWalk.i64_in _ (by omega)]; omega
  have HC := Lib.hid hC
  have Hht := Lib.hid ht
  have Hls := Lib.hid ls
  have Htl := Lib.hid tl
  have Hpr := Lib.hid pr
  have Hbt := Lib.hid bt
  have Hrn := Lib.hid hrn
  have Hmn := Lib.hid hmn
  have Hn2 := Lib.hid hn2
  have Hl1 := Lib.hid l1
  have Hl2 := Lib.hid l2
  clear hC hD ht hu ls tl pr bt bu hrn hmn l1 l2 hn2
  go_enter Try.func6, Try.ntmps6
  go_upto_region 3 with fail
  go_cut [11, 12] (fun s11 s12 wx => ∃ g11 g12 : Nat, s11 = .pointer (some ⟨g11, 0, none⟩) ∧ s12 = .pointer (some ⟨g12, 0, none⟩) ∧ Cs wx g11 #[.int .i64 c1, .int .i64 c2] ∧ Cs wx g12 #[.int .i64 d1, .int .i64 d2] ∧ Below w.heap.size w wx)
  case first =>
    as_aux_lemma =>
     clear kt ku kA pt pu f0 f1 f2 f3 f4 f5 f6 f7 f8 f9 f10 f11 kw HC Hht Hls Htl Hpr Hbt Hrn Hmn Hn2 Hl1 Hl2
     obtain ⟨W, hW⟩ : ∃ W, ((w.alloc (.cells #[.int .u8 x0, .int .u8 x1] 44)).alloc (.cells #[.int .u8 y0, .int .u8 y1] 44)) = W := ⟨_, rfl⟩
     have A0 : Cs W w.heap.size #[.int .u8 x0, .int .u8 x1] := by rw [← hW]; exact (by repeat (first | with_reducible assumption | (with_reducible refine Cs.new _ _ _ _ ?_; first | rfl | (simp; done)) | with_reducible refine Cs.alloc ?_ _ | with_reducible refine Cs.drewN ?_ _ | with_reducible refine Cs.drew ?_ | with_reducible refine Cs.set4 ?_ _ _ _ _ | (with_reducible refine Cs.other4 ?_ ?_ _ _ _ _; rotate_left; focus (first | assumption | omega | (simp; done) | (simp; omega))) | with_reducible refine Cs.set2 ?_ _ _ | (with_reducible refine Cs.other2 ?_ ?_ _ _; rotate_left; focus (first | assumption | omega | (simp; done) | (simp; omega))) | (with_reducible refine Cs.other ?_ ?_ _; rotate_left; focus (first | assumption | omega | (simp; done) | (simp; omega))) | with_reducible refine Cs.keep ?_ (by assumption) | assumption))
     have A1 : Cs W (w.heap.size + 1) #[.int .u8 y0, .int .u8 y1] := by rw [← hW]; exact (by repeat (first | with_reducible assumption | (with_reducible refine Cs.new _ _ _ _ ?_; first | rfl | (simp; done)) | with_reducible refine Cs.alloc ?_ _ | with_reducible refine Cs.drewN ?_ _ | with_reducible refine Cs.drew ?_ | with_reducible refine Cs.set4 ?_ _ _ _ _ | (with_reducible refine Cs.other4 ?_ ?_ _ _ _ _; rotate_left; focus (first | assumption | omega | (simp; done) | (simp; omega))) | with_reducible refine Cs.set2 ?_ _ _ | (with_reducible refine Cs.other2 ?_ ?_ _ _; rotate_left; focus (first | assumption | omega | (simp; done) | (simp; omega))) | (with_reducible refine Cs.other ?_ ?_ _; rotate_left; focus (first | assumption | omega | (simp; done) | (simp; omega))) | with_reducible refine Cs.keep ?_ (by assumption) | assumption))
     have hbW : Below w.heap.size w W := by rw [← hW]; exact (by repeat (first | with_reducible exact Below.refl _ _ | with_reducible assumption | with_reducible refine balloc ?_ _ | with_reducible refine bdrewN ?_ _ | with_reducible refine Below.drew ?_ | (with_reducible refine bset ?_ ?_ _; rotate_left; focus (first | assumption | omega | (simp; done) | (simp; omega))) | with_reducible refine bstep ?_ (by assumption) | assumption))
     rw [hW]
     clear hW
     have hs0 := A1.lt
     have hS0 : S3 w.heap.size (w.heap.size + 1) x0 x1 y0 y1 W := ⟨A0.c 0, A0.c 1, A1.c 0, A1.c 1⟩
     refine wp_region_free (S := S3 w.heap.size (w.heap.size + 1) x0 x1 y0 y1) [(0, 1), (1, 3), (2, 7), (3, 15), (5, 47), (6, 111), (7, 239), (8, 495)] 495 [(4, []), (9, [4]), (10, []), (11, []), (12, [4, 9, 10, 11]), (13, [4, 9, 10, 11, 12])] (by kernel_rfl) (by kernel_rfl) (fun c a d v w h => by cases d <;> exact h) hS0 (fun hHeld => ?_)
     clear hHeld hS0
     refine free_take (v := ?_) rfl (by rfl) ?_ ?_
     rotate_left
     · intro w9 hSw; (unfold S3 at hSw); (go_simp <;> with_reducible rfl)
     try simp only [Act.put, List.setIfInBounds_toArray, List.set_cons_zero, List.set_cons_succ]
     refine free_take (v := ?_) rfl (by rfl) ?_ ?_
     rotate_left
     · intro w9 hSw; (unfold S3 at hSw); (go_simp <;> with_reducible rfl)
     try simp only [Act.put, List.setIfInBounds_toArray, List.set_cons_zero, List.set_cons_succ]
     refine free_take (v := ?_) rfl (by rfl) ?_ ?_
     rotate_left
     · intro w9 hSw; (unfold S3 at hSw); (go_simp <;> with_reducible rfl)
     try simp only [Act.put, List.setIfInBounds_toArray, List.set_cons_zero, List.set_cons_succ]
     refine free_take (v := ?_) rfl (by rfl) ?_ ?_
     rotate_left
     · intro w9 hSw; (unfold S3 at hSw); (go_simp <;> with_reducible rfl)
     try simp only [Act.put, List.setIfInBounds_toArray, List.set_cons_zero, List.set_cons_succ]
     refine free_take (v := ?_) rfl (by rfl) ?_ ?_
     rotate_left
     · intro w9 hSw; (unfold S3 at hSw); (go_simp <;> with_reducible rfl)
     try simp only [Act.put, List.setIfInBounds_toArray, List.set_cons_zero, List.set_cons_succ]
     refine free_take (v := ?_) rfl (by rfl) ?_ ?_
     rotate_left
     · intro w9 hSw; (unfold S3 at hSw); (go_simp <;> with_reducible rfl)
     try simp only [Act.put, List.setIfInBounds_toArray, List.set_cons_zero, List.set_cons_succ]
     refine free_take (v := ?_) rfl (by rfl) ?_ ?_
     rotate_left
     · intro w9 hSw; (unfold S3 at hSw); (go_simp <;> with_reducible rfl)
     try simp only [Act.put, List.setIfInBounds_toArray, List.set_cons_zero, List.set_cons_succ]
     refine free_take (v := ?_) rfl (by rfl) ?_ ?_
     rotate_left
     · intro w9 hSw; (unfold S3 at hSw); (go_simp <;> with_reducible rfl)
     try simp only [Act.put, List.setIfInBounds_toArray, List.set_cons_zero, List.set_cons_succ]
     refine free_part [42, 47, 11, 12] (fun d vs W => ∃ v42 v47 v11 v12, vs = [v42, v47, v11, v12] ∧ J3 w x0 x1 y0 y1 c1 c2 d1 d2 d v42 v47 v11 v12 W) (fun d vs W ⟨_, _, _, _, _, h⟩ => h.s) ?_ ?_ ?_
     · intro d vs hl hd
       obtain ⟨v42, v47, v11, v12, rfl⟩ := len_four' hl
       simp only [fsts, noB] at hd
       obtain ⟨n4, n9, n10, n11, n12, n13, -⟩ := hd
       exact ⟨_, _, _, _, rfl, A0.drew, A1.drew, hbW.drew, fun h => by simp [n4] at h, fun h => by simp [n9] at h, Mk2.no n10 n12, Mk2.no n11 n13, fun h => by simp [n10] at h⟩
     refine free_step rfl ?_ ?_
     · rintro d _ W2 ⟨v42, v47, v11, v12, rfl, hJ⟩ hd hD K9 hS9
       simp only [puts, Act.put, List.setIfInBounds_toArray, List.set_cons_zero, List.set_cons_succ]
       go_simp
       refine (kc _).mono ?_
       rintro e w3 ⟨rfl, hb3⟩
       refine hS9.out _ _ ⟨[_, v47, v11, v12], rfl, _, _, _, _, rfl, ?_⟩
       exact ⟨hJ.a0.keep hb3, hJ.a1.keep hb3, bstep hJ.hb hb3, fun _ => rfl, hJ.e, hJ.p.below hb3, hJ.q.below hb3, hJ.n⟩
     refine free_step rfl ?_ ?_
     · rintro d _ W2 ⟨v42, v47, v11, v12, rfl, hJ⟩ hd hD K9 hS9
       simp only [puts, Act.put, List.setIfInBounds_toArray, List.set_cons_zero, List.set_cons_succ]
       go_simp
       refine (kd _).mono ?_
       rintro e w3 ⟨rfl, hb3⟩
       refine hS9.out _ _ ⟨[v42, _, v11, v12], rfl, _, _, _, _, rfl, ?_⟩
       exact ⟨hJ.a0.keep hb3, hJ.a1.keep hb3, bstep hJ.hb hb3, hJ.c, fun _ => rfl, hJ.p.below hb3, hJ.q.below hb3, hJ.n⟩
     refine free_step rfl ?_ ?_
     · rintro d _ W2 ⟨v42, v47, v11, v12, rfl, hJ⟩ hd hD K9 hS9
       simp only [puts, Act.put, List.setIfInBounds_toArray, List.set_cons_zero, List.set_cons_succ]
       go_simp
       refine hS9.out _ _ ⟨[v42, v47, _, v12], rfl, _, _, _, _, rfl, ?_⟩
       exact ⟨hJ.a0.alloc _, hJ.a1.alloc _, balloc hJ.hb _, hJ.c, hJ.e, hJ.p.new hd (by have := hJ.a1.lt; omega), hJ.q.alloc _, fun _ h => (hJ.q.ne h).symm⟩
     refine free_step rfl ?_ ?_
     · rintro d _ W2 ⟨v42, v47, v11, v12, rfl, hJ⟩ hd hD K9 hS9
       simp only [puts, Act.put, List.setIfInBounds_toArray, List.set_cons_zero, List.set_cons_succ]
       go_simp
       refine hS9.out _ _ ⟨[v42, v47, v11, _], rfl, _, _, _, _, rfl, ?_⟩
       exact ⟨hJ.a0.alloc _, hJ.a1.alloc _, balloc hJ.hb _, hJ.c, hJ.e, hJ.p.alloc _, hJ.q.new hd (by have := hJ.a1.lt; omega), fun h _ => hJ.p.ne h⟩
     refine free_step rfl ?_ ?_
     · rintro d _ W2 ⟨v42, v47, v11, v12, rfl, hJ⟩ hd hD K9 hS9
       simp only [puts, Act.put, List.setIfInBounds_toArray, List.set_cons_zero, List.set_cons_succ]
       obtain ⟨h4, h9, h10, h11, -⟩ := hD
       obtain rfl := hJ.c h4
       obtain rfl := hJ.e h9
       obtain ⟨g, a, b, rfl, hBg, hg⟩ := hJ.p.at_ h10
       have cg := hg.c
       have fg := hg.f
       have lg := hg.lt
       go_simp
       refine hS9.out _ _ ⟨[_, _, _, v12], rfl, _, _, _, _, rfl, ?_⟩
       exact ⟨hJ.a0.other2 (by omega) _ _, hJ.a1.other2 (by omega) _ _, bset2 hJ.hb (by omega) _ _, hJ.c, hJ.e, hJ.p.set h10, hJ.q.other (fun h => (hJ.n h10 h).symm), hJ.n⟩
     refine free_step rfl ?_ ?_
     · rintro d _ W2 ⟨v42, v47, v11, v12, rfl, hJ⟩ hd hD K9 hS9
       simp only [puts, Act.put, List.setIfInBounds_toArray, List.set_cons_zero, List.set_cons_succ]
       obtain ⟨h4, h9, h10, h11, h12, -⟩ := hD
       obtain rfl := hJ.c h4
       obtain rfl := hJ.e h9
       obtain ⟨g, a, b, rfl, hBg, hg⟩ := hJ.q.at_ h11
       have cg := hg.c
       have fg := hg.f
       have lg := hg.lt
       go_simp
       refine hS9.out _ _ ⟨[_, _, v11, _], rfl, _, _, _, _, rfl, ?_⟩
       exact ⟨hJ.a0.other2 (by omega) _ _, hJ.a1.other2 (by omega) _ _, bset2 hJ.hb (by omega) _ _, hJ.c, hJ.e, hJ.p.other (fun h => hJ.n h h11), hJ.q.set h11, hJ.n⟩
     · exact free_done
     rintro d _ W2 hd ⟨v42, v47, v11, v12, rfl, hJ⟩
     simp only [fsts, allB] at hd
     obtain ⟨h4, h9, h10, h11, h12, h13, -⟩ := hd
     obtain rfl := hJ.c h4
     obtain rfl := hJ.e h9
     obtain ⟨g11, rfl, hB11, B11⟩ := hJ.p.out h10 h12
     obtain ⟨g12, rfl, hB12, B12⟩ := hJ.q.out h11 h13
     simp only [puts, Act.put, List.setIfInBounds_toArray, List.set_cons_zero, List.set_cons_succ]
     go_wp2_with fail
     go_meet
     exact ⟨_, _, rfl, rfl, B11, B12, hJ.hb⟩
  case rest =>
    obtain ⟨g11, g12, rfl, rfl, B11, B12, hbw⟩ := hcut
    have cB11 := B11.c
    have fB11 := B11.f
    have lB11 := B11.lt
    have cB12 := B12.c
    have fB12 := B12.f
    have lB12 := B12.lt
    clear kc kd
    go_wp2_with fail
    refine (kt _).mono ?_
    rintro e w1 ⟨rfl, hb1⟩
    replace B11 : Cs w1 g11 #[.int .i64 c1, .int .i64 c2] := Cs.keep (by repeat (first | with_reducible assumption | (with_reducible refine Cs.new _ _ _ _ ?_; first | rfl | (simp; done)) | with_reducible refine Cs.alloc ?_ _ | with_reducible refine Cs.drewN ?_ _ | with_reducible refine Cs.drew ?_ | with_reducible refine Cs.set4 ?_ _ _ _ _ | (with_reducible refine Cs.other4 ?_ ?_ _ _ _ _; rotate_left; focus (first | assumption | omega | (simp; done) | (simp; omega))) | with_reducible refine Cs.set2 ?_ _ _ | (with_reducible refine Cs.other2 ?_ ?_ _ _; rotate_left; focus (first | assumption | omega | (simp; done) | (simp; omega))) | (with_reducible refine Cs.other ?_ ?_ _; rotate_left; focus (first | assumption | omega | (simp; done) | (simp; omega))) | with_reducible refine Cs.keep ?_ (by assumption) | assumption)) hb1
    replace B12 : Cs w1 g12 #[.int .i64 d1, .int .i64 d2] := Cs.keep (by repeat (first | with_reducible assumption | (with_reducible refine Cs.new _ _ _ _ ?_; first | rfl | (simp; done)) | with_reducible refine Cs.alloc ?_ _ | with_reducible refine Cs.drewN ?_ _ | with_reducible refine Cs.drew ?_ | with_reducible refine Cs.set4 ?_ _ _ _ _ | (with_reducible refine Cs.other4 ?_ ?_ _ _ _ _; rotate_left; focus (first | assumption | omega | (simp; done) | (simp; omega))) | with_reducible refine Cs.set2 ?_ _ _ | (with_reducible refine Cs.other2 ?_ ?_ _ _; rotate_left; focus (first | assumption | omega | (simp; done) | (simp; omega))) | (with_reducible refine Cs.other ?_ ?_ _; rotate_left; focus (first | assumption | omega | (simp; done) | (simp; omega))) | with_reducible refine Cs.keep ?_ (by assumption) | assumption)) hb1
    replace hbw : Below w.heap.size w w1 := (by repeat (first | with_reducible exact Below.refl _ _ | with_reducible assumption | with_reducible refine balloc ?_ _ | with_reducible refine bdrewN ?_ _ | with_reducible refine Below.drew ?_ | (with_reducible refine bset ?_ ?_ _; rotate_left; focus (first | assumption | omega | (simp; done) | (simp; omega))) | with_reducible refine bstep ?_ (by assumption) | assumption))
    replace cB11 := B11.c
    replace fB11 := B11.f
    replace lB11 := B11.lt
    replace cB12 := B12.c
    replace fB12 := B12.f
    replace lB12 := B12.lt
    clear hb1
    go_wp2_with fail
    refine (ku _).mono ?_
    rintro e w2 ⟨rfl, hb2⟩
    replace B11 : Cs w2 g11 #[.int .i64 c1, .int .i64 c2] := Cs.keep (by repeat (first | with_reducible assumption | (with_reducible refine Cs.new _ _ _ _ ?_; first | rfl | (simp; done)) | with_reducible refine Cs.alloc ?_ _ | with_reducible refine Cs.drewN ?_ _ | with_reducible refine Cs.drew ?_ | with_reducible refine Cs.set4 ?_ _ _ _ _ | (with_reducible refine Cs.other4 ?_ ?_ _ _ _ _; rotate_left; focus (first | assumption | omega | (simp; done) | (simp; omega))) | with_reducible refine Cs.set2 ?_ _ _ | (with_reducible refine Cs.other2 ?_ ?_ _ _; rotate_left; focus (first | assumption | omega | (simp; done) | (simp; omega))) | (with_reducible refine Cs.other ?_ ?_ _; rotate_left; focus (first | assumption | omega | (simp; done) | (simp; omega))) | with_reducible refine Cs.keep ?_ (by assumption) | assumption)) hb2
    replace B12 : Cs w2 g12 #[.int .i64 d1, .int .i64 d2] := Cs.keep (by repeat (first | with_reducible assumption | (with_reducible refine Cs.new _ _ _ _ ?_; first | rfl | (simp; done)) | with_reducible refine Cs.alloc ?_ _ | with_reducible refine Cs.drewN ?_ _ | with_reducible refine Cs.drew ?_ | with_reducible refine Cs.set4 ?_ _ _ _ _ | (with_reducible refine Cs.other4 ?_ ?_ _ _ _ _; rotate_left; focus (first | assumption | omega | (simp; done) | (simp; omega))) | with_reducible refine Cs.set2 ?_ _ _ | (with_reducible refine Cs.other2 ?_ ?_ _ _; rotate_left; focus (first | assumption | omega | (simp; done) | (simp; omega))) | (with_reducible refine Cs.other ?_ ?_ _; rotate_left; focus (first | assumption | omega | (simp; done) | (simp; omega))) | with_reducible refine Cs.keep ?_ (by assumption) | assumption)) hb2
    replace B13 : Cs w2 (w1.heap.size) #[.int .i64 t1, .int .i64 t2] := Cs.keep (by repeat (first | with_reducible assumption | (with_reducible refine Cs.new _ _ _ _ ?_; first | rfl | (simp; done)) | with_reducible refine Cs.alloc ?_ _ | with_reducible refine Cs.drewN ?_ _ | with_reducible refine Cs.drew ?_ | with_reducible refine Cs.set4 ?_ _ _ _ _ | (with_reducible refine Cs.other4 ?_ ?_ _ _ _ _; rotate_left; focus (first | assumption | omega | (simp; done) | (simp; omega))) | with_reducible refine Cs.set2 ?_ _ _ | (with_reducible refine Cs.other2 ?_ ?_ _ _; rotate_left; focus (first | assumption | omega | (simp; done) | (simp; omega))) | (with_reducible refine Cs.other ?_ ?_ _; rotate_left; focus (first | assumption | omega | (simp; done) | (simp; omega))) | with_reducible refine Cs.keep ?_ (by assumption) | assumption)) hb2
    replace hbw : Below w.heap.size w w2 := (by repeat (first | with_reducible exact Below.refl _ _ | with_reducible assumption | with_reducible refine balloc ?_ _ | with_reducible refine bdrewN ?_ _ | with_reducible refine Below.drew ?_ | (with_reducible refine bset ?_ ?_ _; rotate_left; focus (first | assumption | omega | (simp; done) | (simp; omega))) | with_reducible refine bstep ?_ (by assumption) | assumption))
    replace cB11 := B11.c
    replace fB11 := B11.f
    replace lB11 := B11.lt
    replace cB12 := B12.c
    replace fB12 := B12.f
    replace lB12 := B12.lt
    replace cB13 := B13.c
    replace fB13 := B13.f
    replace lB13 := B13.lt
    clear hb2
    go_wp2_with fail
    refine (kA _).mono ?_
    rintro e w3 ⟨rfl, hb3⟩
    replace B11 : Cs w3 g11 #[.int .i64 c1, .int .i64 c2] := Cs.keep (by repeat (first | with_reducible assumption | (with_reducible refine Cs.new _ _ _ _ ?_; first | rfl | (simp; done)) | with_reducible refine Cs.alloc ?_ _ | with_reducible refine Cs.drewN ?_ _ | with_reducible refine Cs.drew ?_ | with_reducible refine Cs.set4 ?_ _ _ _ _ | (with_reducible refine Cs.other4 ?_ ?_ _ _ _ _; rotate_left; focus (first | assumption | omega | (simp; done) | (simp; omega))) | with_reducible refine Cs.set2 ?_ _ _ | (with_reducible refine Cs.other2 ?_ ?_ _ _; rotate_left; focus (first | assumption | omega | (simp; done) | (simp; omega))) | (with_reducible refine Cs.other ?_ ?_ _; rotate_left; focus (first | assumption | omega | (simp; done) | (simp; omega))) | with_reducible refine Cs.keep ?_ (by assumption) | assumption)) hb3
    replace B12 : Cs w3 g12 #[.int .i64 d1, .int .i64 d2] := Cs.keep (by repeat (first | with_reducible assumption | (with_reducible refine Cs.new _ _ _ _ ?_; first | rfl | (simp; done)) | with_reducible refine Cs.alloc ?_ _ | with_reducible refine Cs.drewN ?_ _ | with_reducible refine Cs.drew ?_ | with_reducible refine Cs.set4 ?_ _ _ _ _ | (with_reducible refine Cs.other4 ?_ ?_ _ _ _ _; rotate_left; focus (first | assumption | omega | (simp; done) | (simp; omega))) | with_reducible refine Cs.set2 ?_ _ _ | (with_reducible refine Cs.other2 ?_ ?_ _ _; rotate_left; focus (first | assumption | omega | (simp; done) | (simp; omega))) | (with_reducible refine Cs.other ?_ ?_ _; rotate_left; focus (first | assumption | omega | (simp; done) | (simp; omega))) | with_reducible refine Cs.keep ?_ (by assumption) | assumption)) hb3
    replace B13 : Cs w3 (w1.heap.size) #[.int .i64 t1, .int .i64 t2] := Cs.keep (by repeat (first | with_reducible assumption | (with_reducible refine Cs.new _ _ _ _ ?_; first | rfl | (simp; done)) | with_reducible refine Cs.alloc ?_ _ | with_reducible refine Cs.drewN ?_ _ | with_reducible refine Cs.drew ?_ | with_reducible refine Cs.set4 ?_ _ _ _ _ | (with_reducible refine Cs.other4 ?_ ?_ _ _ _ _; rotate_left; focus (first | assumption | omega | (simp; done) | (simp; omega))) | with_reducible refine Cs.set2 ?_ _ _ | (with_reducible refine Cs.other2 ?_ ?_ _ _; rotate_left; focus (first | assumption | omega | (simp; done) | (simp; omega))) | (with_reducible refine Cs.other ?_ ?_ _; rotate_left; focus (first | assumption | omega | (simp; done) | (simp; omega))) | with_reducible refine Cs.keep ?_ (by assumption) | assumption)) hb3
    replace B15 : Cs w3 (w2.heap.size) #[.int .i64 u1, .int .i64 u2] := Cs.keep (by repeat (first | with_reducible assumption | (with_reducible refine Cs.new _ _ _ _ ?_; first | rfl | (simp; done)) | with_reducible refine Cs.alloc ?_ _ | with_reducible refine Cs.drewN ?_ _ | with_reducible refine Cs.drew ?_ | with_reducible refine Cs.set4 ?_ _ _ _ _ | (with_reducible refine Cs.other4 ?_ ?_ _ _ _ _; rotate_left; focus (first | assumption | omega | (simp; done) | (simp; omega))) | with_reducible refine Cs.set2 ?_ _ _ | (with_reducible refine Cs.other2 ?_ ?_ _ _; rotate_left; focus (first | assumption | omega | (simp; done) | (simp; omega))) | (with_reducible refine Cs.other ?_ ?_ _; rotate_left; focus (first | assumption | omega | (simp; done) | (simp; omega))) | with_reducible refine Cs.keep ?_ (by assumption) | assumption)) hb3
    replace hbw : Below w.heap.size w w3 := (by repeat (first | with_reducible exact Below.refl _ _ | with_reducible assumption | with_reducible refine balloc ?_ _ | with_reducible refine bdrewN ?_ _ | with_reducible refine Below.drew ?_ | (with_reducible refine bset ?_ ?_ _; rotate_left; focus (first | assumption | omega | (simp; done) | (simp; omega))) | with_reducible refine bstep ?_ (by assumption) | assumption))
    replace cB11 := B11.c
    replace fB11 := B11.f
    replace lB11 := B11.lt
    replace cB12 := B12.c
    replace fB12 := B12.f
    replace lB12 := B12.lt
    replace cB13 := B13.c
    replace fB13 := B13.f
    replace lB13 := B13.lt
    replace cB15 := B15.c
    replace fB15 := B15.f
    replace lB15 := B15.lt
    clear hb3
    clear kt ku kA
    go_upto_region 7 with fail
    go_cut [95] (fun s95 wx => s95 = .bool false ∧ Cs wx g11 #[.int .i64 c1, .int .i64 c2] ∧ Cs wx g12 #[.int .i64 d1, .int .i64 d2] ∧ Cs wx w1.heap.size #[.int .i64 t1, .int .i64 t2] ∧ Cs wx w2.heap.size #[.int .i64 u1, .int .i64 u2] ∧ Below w.heap.size w wx)
    case first =>
      as_aux_lemma =>
       obtain ⟨W3, hW3⟩ : ∃ W, (w3.alloc (.cells #[.int .i64 1, .int .i64 1] 25)) = W := ⟨_, rfl⟩
       replace B11 : Cs W3 g11 #[.int .i64 c1, .int .i64 c2] := by rw [← hW3]; exact B11.alloc _
       replace B12 : Cs W3 g12 #[.int .i64 d1, .int .i64 d2] := by rw [← hW3]; exact B12.alloc _
       replace B13 : Cs W3 w1.heap.size #[.int .i64 t1, .int .i64 t2] := by rw [← hW3]; exact B13.alloc _
       replace B15 : Cs W3 w2.heap.size #[.int .i64 u1, .int .i64 u2] := by rw [← hW3]; exact B15.alloc _
       have B17 : Cs W3 w3.heap.size #[.int .i64 1, .int .i64 1] := by rw [← hW3]; exact (by repeat (first | with_reducible assumption | (with_reducible refine Cs.new _ _ _ _ ?_; first | rfl | (simp; done)) | with_reducible refine Cs.alloc ?_ _ | with_reducible refine Cs.drewN ?_ _ | with_reducible refine Cs.drew ?_ | with_reducible refine Cs.set4 ?_ _ _ _ _ | (with_reducible refine Cs.other4 ?_ ?_ _ _ _ _; rotate_left; focus (first | assumption | omega | (simp; done) | (simp; omega))) | with_reducible refine Cs.set2 ?_ _ _ | (with_reducible refine Cs.other2 ?_ ?_ _ _; rotate_left; focus (first | assumption | omega | (simp; done) | (simp; omega))) | (with_reducible refine Cs.other ?_ ?_ _; rotate_left; focus (first | assumption | omega | (simp; done) | (simp; omega))) | with_reducible refine Cs.keep ?_ (by assumption) | assumption))
       replace hbw : Below w.heap.size w W3 := by rw [← hW3]; exact (by repeat (first | with_reducible exact Below.refl _ _ | with_reducible assumption | with_reducible refine balloc ?_ _ | with_reducible refine bdrewN ?_ _ | with_reducible refine Below.drew ?_ | (with_reducible refine bset ?_ ?_ _; rotate_left; focus (first | assumption | omega | (simp; done) | (simp; omega))) | with_reducible refine bstep ?_ (by assumption) | assumption))
       rw [hW3]
       clear cB11 fB11 lB11 cB12 fB12 lB12 cB13 fB13 lB13 cB15 fB15 lB15
       clear hW3 kw f9 f10 HC Hht Hls Htl Hpr Hbt Hrn Hmn Hn2 Hl1 Hl2
       go_region_held3 (fun w' => w'.cell? ⟨g11, 0, none⟩ = some (.int .i64 c1) ∧ w'.cell? ⟨g11, 1, none⟩ = some (.int .i64 c2) ∧ w'.cell? ⟨g12, 0, none⟩ = some (.int .i64 d1) ∧ w'.cell? ⟨g12, 1, none⟩ = some (.int .i64 d2) ∧ w'.cell? ⟨w1.heap.size, 0, none⟩ = some (.int .i64 t1) ∧ w'.cell? ⟨w1.heap.size, 1, none⟩ = some (.int .i64 t2) ∧ w'.cell? ⟨w2.heap.size, 0, none⟩ = some (.int .i64 u1) ∧ w'.cell? ⟨w2.heap.size, 1, none⟩ = some (.int .i64 u2) ∧ w'.cell? ⟨w3.heap.size, 0, none⟩ = some (.int .i64 1) ∧ w'.cell? ⟨w3.heap.size, 1, none⟩ = some (.int .i64 1))
         (first | exact ⟨B11.c 0, B11.c 1, B12.c 0, B12.c 1, B13.c 0, B13.c 1, B15.c 0, B15.c 1, B17.c 0, B17.c 1⟩ | exact ⟨(Cs.alloc B11 _).c 0, (Cs.alloc B11 _).c 1, (Cs.alloc B12 _).c 0, (Cs.alloc B12 _).c 1, (Cs.alloc B13 _).c 0, (Cs.alloc B13 _).c 1, (Cs.alloc B15 _).c 0, (Cs.alloc B15 _).c 1, (Cs.alloc B17 _).c 0, (Cs.alloc B17 _).c 1⟩ | go_keep)
         (first | (go_at_call 27; (with_reducible refine (pt _).mono ?_); rintro e w4 ⟨rfl, hb4⟩; have B11 : Cs w4 g11 #[.int .i64 c1, .int .i64 c2] := Cs.keep (by repeat (first | with_reducible assumption | (with_reducible refine Cs.new _ _ _ _ ?_; first | rfl | (simp; done)) | with_reducible refine Cs.alloc ?_ _ | with_reducible refine Cs.drewN ?_ _ | with_reducible refine Cs.drew ?_ | with_reducible refine Cs.set4 ?_ _ _ _ _ | (with_reducible refine Cs.other4 ?_ ?_ _ _ _ _; rotate_left; focus (first | assumption | omega | (simp; done) | (simp; omega))) | with_reducible refine Cs.set2 ?_ _ _ | (with_reducible refine Cs.other2 ?_ ?_ _ _; rotate_left; focus (first | assumption | omega | (simp; done) | (simp; omega))) | (with_reducible refine Cs.other ?_ ?_ _; rotate_left; focus (first | assumption | omega | (simp; done) | (simp; omega))) | with_reducible refine Cs.keep ?_ (by assumption) | assumption)) hb4; have B12 : Cs w4 g12 #[.int .i64 d1, .int .i64 d2] := Cs.keep (by repeat (first | with_reducible assumption | (with_reducible refine Cs.new _ _ _ _ ?_; first | rfl | (simp; done)) | with_reducible refine Cs.alloc ?_ _ | with_reducible refine Cs.drewN ?_ _ | with_reducible refine Cs.drew ?_ | with_reducible refine Cs.set4 ?_ _ _ _ _ | (with_reducible refine Cs.other4 ?_ ?_ _ _ _ _; rotate_left; focus (first | assumption | omega | (simp; done) | (simp; omega))) | with_reducible refine Cs.set2 ?_ _ _ | (with_reducible refine Cs.other2 ?_ ?_ _ _; rotate_left; focus (first | assumption | omega | (simp; done) | (simp; omega))) | (with_reducible refine Cs.other ?_ ?_ _; rotate_left; focus (first | assumption | omega | (simp; done) | (simp; omega))) | with_reducible refine Cs.keep ?_ (by assumption) | assumption)) hb4; have B13 : Cs w4 (w1.heap.size) #[.int .i64 t1, .int .i64 t2] := Cs.keep (by repeat (first | with_reducible assumption | (with_reducible refine Cs.new _ _ _ _ ?_; first | rfl | (simp; done)) | with_reducible refine Cs.alloc ?_ _ | with_reducible refine Cs.drewN ?_ _ | with_reducible refine Cs.drew ?_ | with_reducible refine Cs.set4 ?_ _ _ _ _ | (with_reducible refine Cs.other4 ?_ ?_ _ _ _ _; rotate_left; focus (first | assumption | omega | (simp; done) | (simp; omega))) | with_reducible refine Cs.set2 ?_ _ _ | (with_reducible refine Cs.other2 ?_ ?_ _ _; rotate_left; focus (first | assumption | omega | (simp; done) | (simp; omega))) | (with_reducible refine Cs.other ?_ ?_ _; rotate_left; focus (first | assumption | omega | (simp; done) | (simp; omega))) | with_reducible refine Cs.keep ?_ (by assumption) | assumption)) hb4; have B15 : Cs w4 (w2.heap.size) #[.int .i64 u1, .int .i64 u2] := Cs.keep (by repeat (first | with_reducible assumption | (with_reducible refine Cs.new _ _ _ _ ?_; first | rfl | (simp; done)) | with_reducible refine Cs.alloc ?_ _ | with_reducible refine Cs.drewN ?_ _ | with_reducible refine Cs.drew ?_ | with_reducible refine Cs.set4 ?_ _ _ _ _ | (with_reducible refine Cs.other4 ?_ ?_ _ _ _ _; rotate_left; focus (first | assumption | omega | (simp; done) | (simp; omega))) | with_reducible refine Cs.set2 ?_ _ _ | (with_reducible refine Cs.other2 ?_ ?_ _ _; rotate_left; focus (first | assumption | omega | (simp; done) | (simp; omega))) | (with_reducible refine Cs.other ?_ ?_ _; rotate_left; focus (first | assumption | omega | (simp; done) | (simp; omega))) | with_reducible refine Cs.keep ?_ (by assumption) | assumption)) hb4; have B17 : Cs w4 (w3.heap.size) #[.int .i64 1, .int .i64 1] := Cs.keep (by repeat (first | with_reducible assumption | (with_reducible refine Cs.new _ _ _ _ ?_; first | rfl | (simp; done)) | with_reducible refine Cs.alloc ?_ _ | with_reducible refine Cs.drewN ?_ _ | with_reducible refine Cs.drew ?_ | with_reducible refine Cs.set4 ?_ _ _ _ _ | (with_reducible refine Cs.other4 ?_ ?_ _ _ _ _; rotate_left; focus (first | assumption | omega | (simp; done) | (simp; omega))) | with_reducible refine Cs.set2 ?_ _ _ | (with_reducible refine Cs.other2 ?_ ?_ _ _; rotate_left; focus (first | assumption | omega | (simp; done) | (simp; omega))) | (with_reducible refine Cs.other ?_ ?_ _; rotate_left; focus (first | assumption | omega | (simp; done) | (simp; omega))) | with_reducible refine Cs.keep ?_ (by assumption) | assumption)) hb4; have hbw : Below w.heap.size w w4 := (by repeat (first | with_reducible exact Below.refl _ _ | with_reducible assumption | with_reducible refine balloc ?_ _ | with_reducible refine bdrewN ?_ _ | with_reducible refine Below.drew ?_ | (with_reducible refine bset ?_ ?_ _; rotate_left; focus (first | assumption | omega | (simp; done) | (simp; omega))) | with_reducible refine bstep ?_ (by assumption) | assumption)); clear hb4) | (go_at_call 27; (with_reducible refine (pu _).mono ?_); rintro e w4 ⟨rfl, hb4⟩; have B11 : Cs w4 g11 #[.int .i64 c1, .int .i64 c2] := Cs.keep (by repeat (first | with_reducible assumption | (with_reducible refine Cs.new _ _ _ _ ?_; first | rfl | (simp; done)) | with_reducible refine Cs.alloc ?_ _ | with_reducible refine Cs.drewN ?_ _ | with_reducible refine Cs.drew ?_ | with_reducible refine Cs.set4 ?_ _ _ _ _ | (with_reducible refine Cs.other4 ?_ ?_ _ _ _ _; rotate_left; focus (first | assumption | omega | (simp; done) | (simp; omega))) | with_reducible refine Cs.set2 ?_ _ _ | (with_reducible refine Cs.other2 ?_ ?_ _ _; rotate_left; focus (first | assumption | omega | (simp; done) | (simp; omega))) | (with_reducible refine Cs.other ?_ ?_ _; rotate_left; focus (first | assumption | omega | (simp; done) | (simp; omega))) | with_reducible refine Cs.keep ?_ (by assumption) | assumption)) hb4; have B12 : Cs w4 g12 #[.int .i64 d1, .int .i64 d2] := Cs.keep (by repeat (first | with_reducible assumption | (with_reducible refine Cs.new _ _ _ _ ?_; first | rfl | (simp; done)) | with_reducible refine Cs.alloc ?_ _ | with_reducible refine Cs.drewN ?_ _ | with_reducible refine Cs.drew ?_ | with_reducible refine Cs.set4 ?_ _ _ _ _ | (with_reducible refine Cs.other4 ?_ ?_ _ _ _ _; rotate_left; focus (first | assumption | omega | (simp; done) | (simp; omega))) | with_reducible refine Cs.set2 ?_ _ _ | (with_reducible refine Cs.other2 ?_ ?_ _ _; rotate_left; focus (first | assumption | omega | (simp; done) | (simp; omega))) | (with_reducible refine Cs.other ?_ ?_ _; rotate_left; focus (first | assumption | omega | (simp; done) | (simp; omega))) | with_reducible refine Cs.keep ?_ (by assumption) | assumption)) hb4; have B13 : Cs w4 (w1.heap.size) #[.int .i64 t1, .int .i64 t2] := Cs.keep (by repeat (first | with_reducible assumption | (with_reducible refine Cs.new _ _ _ _ ?_; first | rfl | (simp; done)) | with_reducible refine Cs.alloc ?_ _ | with_reducible refine Cs.drewN ?_ _ | with_reducible refine Cs.drew ?_ | with_reducible refine Cs.set4 ?_ _ _ _ _ | (with_reducible refine Cs.other4 ?_ ?_ _ _ _ _; rotate_left; focus (first | assumption | omega | (simp; done) | (simp; omega))) | with_reducible refine Cs.set2 ?_ _ _ | (with_reducible refine Cs.other2 ?_ ?_ _ _; rotate_left; focus (first | assumption | omega | (simp; done) | (simp; omega))) | (with_reducible refine Cs.other ?_ ?_ _; rotate_left; focus (first | assumption | omega | (simp; done) | (simp; omega))) | with_reducible refine Cs.keep ?_ (by assumption) | assumption)) hb4; have B15 : Cs w4 (w2.heap.size) #[.int .i64 u1, .int .i64 u2] := Cs.keep (by repeat (first | with_reducible assumption | (with_reducible refine Cs.new _ _ _ _ ?_; first | rfl | (simp; done)) | with_reducible refine Cs.alloc ?_ _ | with_reducible refine Cs.drewN ?_ _ | with_reducible refine Cs.drew ?_ | with_reducible refine Cs.set4 ?_ _ _ _ _ | (with_reducible refine Cs.other4 ?_ ?_ _ _ _ _; rotate_left; focus (first | assumption | omega | (simp; done) | (simp; omega))) | with_reducible refine Cs.set2 ?_ _ _ | (with_reducible refine Cs.other2 ?_ ?_ _ _; rotate_left; focus (first | assumption | omega | (simp; done) | (simp; omega))) | (with_reducible refine Cs.other ?_ ?_ _; rotate_left; focus (first | assumption | omega | (simp; done) | (simp; omega))) | with_reducible refine Cs.keep ?_ (by assumption) | assumption)) hb4; have B17 : Cs w4 (w3.heap.size) #[.int .i64 1, .int .i64 1] := Cs.keep (by repeat (first | with_reducible assumption | (with_reducible refine Cs.new _ _ _ _ ?_; first | rfl | (simp; done)) | with_reducible refine Cs.alloc ?_ _ | with_reducible refine Cs.drewN ?_ _ | with_reducible refine Cs.drew ?_ | with_reducible refine Cs.set4 ?_ _ _ _ _ | (with_reducible refine Cs.other4 ?_ ?_ _ _ _ _; rotate_left; focus (first | assumption | omega | (simp; done) | (simp; omega))) | with_reducible refine Cs.set2 ?_ _ _ | (with_reducible refine Cs.other2 ?_ ?_ _ _; rotate_left; focus (first | assumption | omega | (simp; done) | (simp; omega))) | (with_reducible refine Cs.other ?_ ?_ _; rotate_left; focus (first | assumption | omega | (simp; done) | (simp; omega))) | with_reducible refine Cs.keep ?_ (by assumption) | assumption)) hb4; have hbw : Below w.heap.size w w4 := (by repeat (first | with_reducible exact Below.refl _ _ | with_reducible assumption | with_reducible refine balloc ?_ _ | with_reducible refine bdrewN ?_ _ | with_reducible refine Below.drew ?_ | (with_reducible refine bset ?_ ?_ _; rotate_left; focus (first | assumption | omega | (simp; done) | (simp; omega))) | with_reducible refine bstep ?_ (by assumption) | assumption)); clear hb4) | (go_at_call 28; (with_reducible refine (of_any _ _ _).mono ?_); rintro e w4 ⟨rfl, hb4⟩; have B11 : Cs w4 g11 #[.int .i64 c1, .int .i64 c2] := Cs.keep (by repeat (first | with_reducible assumption | (with_reducible refine Cs.new _ _ _ _ ?_; first | rfl | (simp; done)) | with_reducible refine Cs.alloc ?_ _ | with_reducible refine Cs.drewN ?_ _ | with_reducible refine Cs.drew ?_ | with_reducible refine Cs.set4 ?_ _ _ _ _ | (with_reducible refine Cs.other4 ?_ ?_ _ _ _ _; rotate_left; focus (first | assumption | omega | (simp; done) | (simp; omega))) | with_reducible refine Cs.set2 ?_ _ _ | (with_reducible refine Cs.other2 ?_ ?_ _ _; rotate_left; focus (first | assumption | omega | (simp; done) | (simp; omega))) | (with_reducible refine Cs.other ?_ ?_ _; rotate_left; focus (first | assumption | omega | (simp; done) | (simp; omega))) | with_reducible refine Cs.keep ?_ (by assumption) | assumption)) hb4; have B12 : Cs w4 g12 #[.int .i64 d1, .int .i64 d2] := Cs.keep (by repeat (first | with_reducible assumption | (with_reducible refine Cs.new _ _ _ _ ?_; first | rfl | (simp; done)) | with_reducible refine Cs.alloc ?_ _ | with_reducible refine Cs.drewN ?_ _ | with_reducible refine Cs.drew ?_ | with_reducible refine Cs.set4 ?_ _ _ _ _ | (with_reducible refine Cs.other4 ?_ ?_ _ _ _ _; rotate_left; focus (first | assumption | omega | (simp; done) | (simp; omega))) | with_reducible refine Cs.set2 ?_ _ _ | (with_reducible refine Cs.other2 ?_ ?_ _ _; rotate_left; focus (first | assumption | omega | (simp; done) | (simp; omega))) | (with_reducible refine Cs.other ?_ ?_ _; rotate_left; focus (first | assumption | omega | (simp; done) | (simp; omega))) | with_reducible refine Cs.keep ?_ (by assumption) | assumption)) hb4; have B13 : Cs w4 (w1.heap.size) #[.int .i64 t1, .int .i64 t2] := Cs.keep (by repeat (first | with_reducible assumption | (with_reducible refine Cs.new _ _ _ _ ?_; first | rfl | (simp; done)) | with_reducible refine Cs.alloc ?_ _ | with_reducible refine Cs.drewN ?_ _ | with_reducible refine Cs.drew ?_ | with_reducible refine Cs.set4 ?_ _ _ _ _ | (with_reducible refine Cs.other4 ?_ ?_ _ _ _ _; rotate_left; focus (first | assumption | omega | (simp; done) | (simp; omega))) | with_reducible refine Cs.set2 ?_ _ _ | (with_reducible refine Cs.other2 ?_ ?_ _ _; rotate_left; focus (first | assumption | omega | (simp; done) | (simp; omega))) | (with_reducible refine Cs.other ?_ ?_ _; rotate_left; focus (first | assumption | omega | (simp; done) | (simp; omega))) | with_reducible refine Cs.keep ?_ (by assumption) | assumption)) hb4; have B15 : Cs w4 (w2.heap.size) #[.int .i64 u1, .int .i64 u2] := Cs.keep (by repeat (first | with_reducible assumption | (with_reducible refine Cs.new _ _ _ _ ?_; first | rfl | (simp; done)) | with_reducible refine Cs.alloc ?_ _ | with_reducible refine Cs.drewN ?_ _ | with_reducible refine Cs.drew ?_ | with_reducible refine Cs.set4 ?_ _ _ _ _ | (with_reducible refine Cs.other4 ?_ ?_ _ _ _ _; rotate_left; focus (first | assumption | omega | (simp; done) | (simp; omega))) | with_reducible refine Cs.set2 ?_ _ _ | (with_reducible refine Cs.other2 ?_ ?_ _ _; rotate_left; focus (first | assumption | omega | (simp; done) | (simp; omega))) | (with_reducible refine Cs.other ?_ ?_ _; rotate_left; focus (first | assumption | omega | (simp; done) | (simp; omega))) | with_reducible refine Cs.keep ?_ (by assumption) | assumption)) hb4; have B17 : Cs w4 (w3.heap.size) #[.int .i64 1, .int .i64 1] := Cs.keep (by repeat (first | with_reducible assumption | (with_reducible refine Cs.new _ _ _ _ ?_; first | rfl | (simp; done)) | with_reducible refine Cs.alloc ?_ _ | with_reducible refine Cs.drewN ?_ _ | with_reducible refine Cs.drew ?_ | with_reducible refine Cs.set4 ?_ _ _ _ _ | (with_reducible refine Cs.other4 ?_ ?_ _ _ _ _; rotate_left; focus (first | assumption | omega | (simp; done) | (simp; omega))) | with_reducible refine Cs.set2 ?_ _ _ | (with_reducible refine Cs.other2 ?_ ?_ _ _; rotate_left; focus (first | assumption | omega | (simp; done) | (simp; omega))) | (with_reducible refine Cs.other ?_ ?_ _; rotate_left; focus (first | assumption | omega | (simp; done) | (simp; omega))) | with_reducible refine Cs.keep ?_ (by assumption) | assumption)) hb4; have hbw : Below w.heap.size w w4 := (by repeat (first | with_reducible exact Below.refl _ _ | with_reducible assumption | with_reducible refine balloc ?_ _ | with_reducible refine bdrewN ?_ _ | with_reducible refine Below.drew ?_ | (with_reducible refine bset ?_ ?_ _; rotate_left; focus (first | assumption | omega | (simp; done) | (simp; omega))) | with_reducible refine bstep ?_ (by assumption) | assumption)); clear hb4))
       all_goals (
         go_wp2_with fail
         go_meet
         exact ⟨rfl, B11, B12, B13, B15, hbw⟩)
    case rest =>
      clear B11 cB11 fB11 lB11 B12 cB12 fB12 lB12 B13 cB13 fB13 lB13 B15 cB15 fB15 lB15 hbw pt pu
      obtain ⟨rfl, B11, B12, B13, B15, hbw⟩ := hcut
      go_upto_region 9 with fail
      go_cut [129] (fun s129 wx => s129 = .bool false ∧ Cs wx g11 #[.int .i64 c1, .int .i64 c2] ∧ Cs wx w1.heap.size #[.int .i64 t1, .int .i64 t2] ∧ Below w.heap.size w wx)
      case first =>
        as_aux_lemma =>
         have l1 := Hl1.out
         have l2 := Hl2.out
         clear kw HC Hht Hls Htl Hpr Hbt Hrn Hmn Hn2 Hl1 Hl2
         have cB11 := B11.c
         have fB11 := B11.f
         have lB11 := B11.lt
         have cB12 := B12.c
         have fB12 := B12.f
         have lB12 := B12.lt
         have cB13 := B13.c
         have fB13 := B13.f
         have lB13 := B13.lt
         have cB15 := B15.c
         have fB15 := B15.f
         have lB15 := B15.lt
         by_cases h1 : c1 * d2 ≤ d1 * c2
         · replace l1 := l1 h1
           by_cases h2 : d1 * c2 ≤ c1 * d2
           · replace l2 := l2 h2
             go_wp2_with fail
             refine (l1 _).mono ?_
             rintro e w5 ⟨rfl, hb5⟩
             replace B11 : Cs w5 g11 #[.int .i64 c1, .int .i64 c2] := Cs.keep (by repeat (first | with_reducible assumption | (with_reducible refine Cs.new _ _ _ _ ?_; first | rfl | (simp; done)) | with_reducible refine Cs.alloc ?_ _ | with_reducible refine Cs.drewN ?_ _ | with_reducible refine Cs.drew ?_ | with_reducible refine Cs.set4 ?_ _ _ _ _ | (with_reducible refine Cs.other4 ?_ ?_ _ _ _ _; rotate_left; focus (first | assumption | omega | (simp; done) | (simp; omega))) | with_reducible refine Cs.set2 ?_ _ _ | (with_reducible refine Cs.other2 ?_ ?_ _ _; rotate_left; focus (first | assumption | omega | (simp; done) | (simp; omega))) | (with_reducible refine Cs.other ?_ ?_ _; rotate_left; focus (first | assumption | omega | (simp; done) | (simp; omega))) | with_reducible refine Cs.keep ?_ (by assumption) | assumption)) hb5
             replace B12 : Cs w5 g12 #[.int .i64 d1, .int .i64 d2] := Cs.keep (by repeat (first | with_reducible assumption | (with_reducible refine Cs.new _ _ _ _ ?_; first | rfl | (simp; done)) | with_reducible refine Cs.alloc ?_ _ | with_reducible refine Cs.drewN ?_ _ | with_reducible refine Cs.drew ?_ | with_reducible refine Cs.set4 ?_ _ _ _ _ | (with_reducible refine Cs.other4 ?_ ?_ _ _ _ _; rotate_left; focus (first | assumption | omega | (simp; done) | (simp; omega))) | with_reducible refine Cs.set2 ?_ _ _ | (with_reducible refine Cs.other2 ?_ ?_ _ _; rotate_left; focus (first | assumption | omega | (simp; done) | (simp; omega))) | (with_reducible refine Cs.other ?_ ?_ _; rotate_left; focus (first | assumption | omega | (simp; done) | (simp; omega))) | with_reducible refine Cs.keep ?_ (by assumption) | assumption)) hb5
             replace B13 : Cs w5 (w1.heap.size) #[.int .i64 t1, .int .i64 t2] := Cs.keep (by repeat (first | with_reducible assumption | (with_reducible refine Cs.new _ _ _ _ ?_; first | rfl | (simp; done)) | with_reducible refine Cs.alloc ?_ _ | with_reducible refine Cs.drewN ?_ _ | with_reducible refine Cs.drew ?_ | with_reducible refine Cs.set4 ?_ _ _ _ _ | (with_reducible refine Cs.other4 ?_ ?_ _ _ _ _; rotate_left; focus (first | assumption | omega | (simp; done) | (simp; omega))) | with_reducible refine Cs.set2 ?_ _ _ | (with_reducible refine Cs.other2 ?_ ?_ _ _; rotate_left; focus (first | assumption | omega | (simp; done) | (simp; omega))) | (with_reducible refine Cs.other ?_ ?_ _; rotate_left; focus (first | assumption | omega | (simp; done) | (simp; omega))) | with_reducible refine Cs.keep ?_ (by assumption) | assumption)) hb5
             replace B15 : Cs w5 (w2.heap.size) #[.int .i64 u1, .int .i64 u2] := Cs.keep (by repeat (first | with_reducible assumption | (with_reducible refine Cs.new _ _ _ _ ?_; first | rfl | (simp; done)) | with_reducible refine Cs.alloc ?_ _ | with_reducible refine Cs.drewN ?_ _ | with_reducible refine Cs.drew ?_ | with_reducible refine Cs.set4 ?_ _ _ _ _ | (with_reducible refine Cs.other4 ?_ ?_ _ _ _ _; rotate_left; focus (first | assumption | omega | (simp; done) | (simp; omega))) | with_reducible refine Cs.set2 ?_ _ _ | (with_reducible refine Cs.other2 ?_ ?_ _ _; rotate_left; focus (first | assumption | omega | (simp; done) | (simp; omega))) | (with_reducible refine Cs.other ?_ ?_ _; rotate_left; focus (first | assumption | omega | (simp; done) | (simp; omega))) | with_reducible refine Cs.keep ?_ (by assumption) | assumption)) hb5
             replace hbw : Below w.heap.size w w5 := (by repeat (first | with_reducible exact Below.refl _ _ | with_reducible assumption | with_reducible refine balloc ?_ _ | with_reducible refine bdrewN ?_ _ | with_reducible refine Below.drew ?_ | (with_reducible refine bset ?_ ?_ _; rotate_left; focus (first | assumption | omega | (simp; done) | (simp; omega))) | with_reducible refine bstep ?_ (by assumption) | assumption))
             replace cB11 := B11.c
             replace fB11 := B11.f
             replace lB11 := B11.lt
             replace cB12 := B12.c
             replace fB12 := B12.f
             replace lB12 := B12.lt
             replace cB13 := B13.c
             replace fB13 := B13.f
             replace lB13 := B13.lt
             replace cB15 := B15.c
             replace fB15 := B15.f
             replace lB15 := B15.lt
             clear hb5
             go_wp2_with fail
             refine (l2 _).mono ?_
             rintro e w6 ⟨rfl, hb6⟩
             replace B11 : Cs w6 g11 #[.int .i64 c1, .int .i64 c2] := Cs.keep (by repeat (first | with_reducible assumption | (with_reducible refine Cs.new _ _ _ _ ?_; first | rfl | (simp; done)) | with_reducible refine Cs.alloc ?_ _ | with_reducible refine Cs.drewN ?_ _ | with_reducible refine Cs.drew ?_ | with_reducible refine Cs.set4 ?_ _ _ _ _ | (with_reducible refine Cs.other4 ?_ ?_ _ _ _ _; rotate_left; focus (first | assumption | omega | (simp; done) | (simp; omega))) | with_reducible refine Cs.set2 ?_ _ _ | (with_reducible refine Cs.other2 ?_ ?_ _ _; rotate_left; focus (first | assumption | omega | (simp; done) | (simp; omega))) | (with_reducible refine Cs.other ?_ ?_ _; rotate_left; focus (first | assumption | omega | (simp; done) | (simp; omega))) | with_reducible refine Cs.keep ?_ (by assumption) | assumption)) hb6
             replace B12 : Cs w6 g12 #[.int .i64 d1, .int .i64 d2] := Cs.keep (by repeat (first | with_reducible assumption | (with_reducible refine Cs.new _ _ _ _ ?_; first | rfl | (simp; done)) | with_reducible refine Cs.alloc ?_ _ | with_reducible refine Cs.drewN ?_ _ | with_reducible refine Cs.drew ?_ | with_reducible refine Cs.set4 ?_ _ _ _ _ | (with_reducible refine Cs.other4 ?_ ?_ _ _ _ _; rotate_left; focus (first | assumption | omega | (simp; done) | (simp; omega))) | with_reducible refine Cs.set2 ?_ _ _ | (with_reducible refine Cs.other2 ?_ ?_ _ _; rotate_left; focus (first | assumption | omega | (simp; done) | (simp; omega))) | (with_reducible refine Cs.other ?_ ?_ _; rotate_left; focus (first | assumption | omega | (simp; done) | (simp; omega))) | with_reducible refine Cs.keep ?_ (by assumption) | assumption)) hb6
             replace B13 : Cs w6 (w1.heap.size) #[.int .i64 t1, .int .i64 t2] := Cs.keep (by repeat (first | with_reducible assumption | (with_reducible refine Cs.new _ _ _ _ ?_; first | rfl | (simp; done)) | with_reducible refine Cs.alloc ?_ _ | with_reducible refine Cs.drewN ?_ _ | with_reducible refine Cs.drew ?_ | with_reducible refine Cs.set4 ?_ _ _ _ _ | (with_reducible refine Cs.other4 ?_ ?_ _ _ _ _; rotate_left; focus (first | assumption | omega | (simp; done) | (simp; omega))) | with_reducible refine Cs.set2 ?_ _ _ | (with_reducible refine Cs.other2 ?_ ?_ _ _; rotate_left; focus (first | assumption | omega | (simp; done) | (simp; omega))) | (with_reducible refine Cs.other ?_ ?_ _; rotate_left; focus (first | assumption | omega | (simp; done) | (simp; omega))) | with_reducible refine Cs.keep ?_ (by assumption) | assumption)) hb6
             replace B15 : Cs w6 (w2.heap.size) #[.int .i64 u1, .int .i64 u2] := Cs.keep (by repeat (first | with_reducible assumption | (with_reducible refine Cs.new _ _ _ _ ?_; first | rfl | (simp; done)) | with_reducible refine Cs.alloc ?_ _ | with_reducible refine Cs.drewN ?_ _ | with_reducible refine Cs.drew ?_ | with_reducible refine Cs.set4 ?_ _ _ _ _ | (with_reducible refine Cs.other4 ?_ ?_ _ _ _ _; rotate_left; focus (first | assumption | omega | (simp; done) | (simp; omega))) | with_reducible refine Cs.set2 ?_ _ _ | (with_reducible refine Cs.other2 ?_ ?_ _ _; rotate_left; focus (first | assumption | omega | (simp; done) | (simp; omega))) | (with_reducible refine Cs.other ?_ ?_ _; rotate_left; focus (first | assumption | omega | (simp; done) | (simp; omega))) | with_reducible refine Cs.keep ?_ (by assumption) | assumption)) hb6
             replace hbw : Below w.heap.size w w6 := (by repeat (first | with_reducible exact Below.refl _ _ | with_reducible assumption | with_reducible refine balloc ?_ _ | with_reducible refine bdrewN ?_ _ | with_reducible refine Below.drew ?_ | (with_reducible refine bset ?_ ?_ _; rotate_left; focus (first | assumption | omega | (simp; done) | (simp; omega))) | with_reducible refine bstep ?_ (by assumption) | assumption))
             replace cB11 := B11.c
             replace fB11 := B11.f
             replace lB11 := B11.lt
             replace cB12 := B12.c
             replace fB12 := B12.f
             replace lB12 := B12.lt
             replace cB13 := B13.c
             replace fB13 := B13.f
             replace lB13 := B13.lt
             replace cB15 := B15.c
             replace fB15 := B15.f
             replace lB15 := B15.lt
             clear hb6
             go_wp2_with fail
             go_meet
             exact ⟨rfl, B11, B13, hbw⟩
           · have h2' : c1 * d2 < d1 * c2 := by omega
             clear l2
             go_wp2_with fail
             refine (l1 _).mono ?_
             rintro e w5 ⟨rfl, hb5⟩
             replace B11 : Cs w5 g11 #[.int .i64 c1, .int .i64 c2] := Cs.keep (by repeat (first | with_reducible assumption | (with_reducible refine Cs.new _ _ _ _ ?_; first | rfl | (simp; done)) | with_reducible refine Cs.alloc ?_ _ | with_reducible refine Cs.drewN ?_ _ | with_reducible refine Cs.drew ?_ | with_reducible refine Cs.set4 ?_ _ _ _ _ | (with_reducible refine Cs.other4 ?_ ?_ _ _ _ _; rotate_left; focus (first | assumption | omega | (simp; done) | (simp; omega))) | with_reducible refine Cs.set2 ?_ _ _ | (with_reducible refine Cs.other2 ?_ ?_ _ _; rotate_left; focus (first | assumption | omega | (simp; done) | (simp; omega))) | (with_reducible refine Cs.other ?_ ?_ _; rotate_left; focus (first | assumption | omega | (simp; done) | (simp; omega))) | with_reducible refine Cs.keep ?_ (by assumption) | assumption)) hb5
             replace B12 : Cs w5 g12 #[.int .i64 d1, .int .i64 d2] := Cs.keep (by repeat (first | with_reducible assumption | (with_reducible refine Cs.new _ _ _ _ ?_; first | rfl | (simp; done)) | with_reducible refine Cs.alloc ?_ _ | with_reducible refine Cs.drewN ?_ _ | with_reducible refine Cs.drew ?_ | with_reducible refine Cs.set4 ?_ _ _ _ _ | (with_reducible refine Cs.other4 ?_ ?_ _ _ _ _; rotate_left; focus (first | assumption | omega | (simp; done) | (simp; omega))) | with_reducible refine Cs.set2 ?_ _ _ | (with_reducible refine Cs.other2 ?_ ?_ _ _; rotate_left; focus (first | assumption | omega | (simp; done) | (simp; omega))) | (with_reducible refine Cs.other ?_ ?_ _; rotate_left; focus (first | assumption | omega | (simp; done) | (simp; omega))) | with_reducible refine Cs.keep ?_ (by assumption) | assumption)) hb5
             replace B13 : Cs w5 (w1.heap.size) #[.int .i64 t1, .int .i64 t2] := Cs.keep (by repeat (first | with_reducible assumption | (with_reducible refine Cs.new _ _ _ _ ?_; first | rfl | (simp; done)) | with_reducible refine Cs.alloc ?_ _ | with_reducible refine Cs.drewN ?_ _ | with_reducible refine Cs.drew ?_ | with_reducible refine Cs.set4 ?_ _ _ _ _ | (with_reducible refine Cs.other4 ?_ ?_ _ _ _ _; rotate_left; focus (first | assumption | omega | (simp; done) | (simp; omega))) | with_reducible refine Cs.set2 ?_ _ _ | (with_reducible refine Cs.other2 ?_ ?_ _ _; rotate_left; focus (first | assumption | omega | (simp; done) | (simp; omega))) | (with_reducible refine Cs.other ?_ ?_ _; rotate_left; focus (first | assumption | omega | (simp; done) | (simp; omega))) | with_reducible refine Cs.keep ?_ (by assumption) | assumption)) hb5
             replace B15 : Cs w5 (w2.heap.size) #[.int .i64 u1, .int .i64 u2] := Cs.keep (by repeat (first | with_reducible assumption | (with_reducible refine Cs.new _ _ _ _ ?_; first | rfl | (simp; done)) | with_reducible refine Cs.alloc ?_ _ | with_reducible refine Cs.drewN ?_ _ | with_reducible refine Cs.drew ?_ | with_reducible refine Cs.set4 ?_ _ _ _ _ | (with_reducible refine Cs.other4 ?_ ?_ _ _ _ _; rotate_left; focus (first | assumption | omega | (simp; done) | (simp; omega))) | with_reducible refine Cs.set2 ?_ _ _ | (with_reducible refine Cs.other2 ?_ ?_ _ _; rotate_left; focus (first | assumption | omega | (simp; done) | (simp; omega))) | (with_reducible refine Cs.other ?_ ?_ _; rotate_left; focus (first | assumption | omega | (simp; done) | (simp; omega))) | with_reducible refine Cs.keep ?_ (by assumption) | assumption)) hb5
             replace hbw : Below w.heap.size w w5 := (by repeat (first | with_reducible exact Below.refl _ _ | with_reducible assumption | with_reducible refine balloc ?_ _ | with_reducible refine bdrewN ?_ _ | with_reducible refine Below.drew ?_ | (with_reducible refine bset ?_ ?_ _; rotate_left; focus (first | assumption | omega | (simp; done) | (simp; omega))) | with_reducible refine bstep ?_ (by assumption) | assumption))
             replace cB11 := B11.c
             replace fB11 := B11.f
             replace lB11 := B11.lt
             replace cB12 := B12.c
             replace fB12 := B12.f
             replace lB12 := B12.lt
             replace cB13 := B13.c
             replace fB13 := B13.f
             replace lB13 := B13.lt
             replace cB15 := B15.c
             replace fB15 := B15.f
             replace lB15 := B15.lt
             clear hb5
             go_wp2_with fail
             go_meet
             exact ⟨rfl, B11, B13, hbw⟩
         · have h2 : d1 * c2 ≤ c1 * d2 := by omega
           have h1' : d1 * c2 < c1 * d2 := by omega
           replace l2 := l2 h2
           clear l1
           go_wp2_with fail
           refine (l2 _).mono ?_
           rintro e w6 ⟨rfl, hb6⟩
           replace B11 : Cs w6 g11 #[.int .i64 c1, .int .i64 c2] := Cs.keep (by repeat (first | with_reducible assumption | (with_reducible refine Cs.new _ _ _ _ ?_; first | rfl | (simp; done)) | with_reducible refine Cs.alloc ?_ _ | with_reducible refine Cs.drewN ?_ _ | with_reducible refine Cs.drew ?_ | with_reducible refine Cs.set4 ?_ _ _ _ _ | (with_reducible refine Cs.other4 ?_ ?_ _ _ _ _; rotate_left; focus (first | assumption | omega | (simp; done) | (simp; omega))) | with_reducible refine Cs.set2 ?_ _ _ | (with_reducible refine Cs.other2 ?_ ?_ _ _; rotate_left; focus (first | assumption | omega | (simp; done) | (simp; omega))) | (with_reducible refine Cs.other ?_ ?_ _; rotate_left; focus (first | assumption | omega | (simp; done) | (simp; omega))) | with_reducible refine Cs.keep ?_ (by assumption) | assumption)) hb6
           replace B12 : Cs w6 g12 #[.int .i64 d1, .int .i64 d2] := Cs.keep (by repeat (first | with_reducible assumption | (with_reducible refine Cs.new _ _ _ _ ?_; first | rfl | (simp; done)) | with_reducible refine Cs.alloc ?_ _ | with_reducible refine Cs.drewN ?_ _ | with_reducible refine Cs.drew ?_ | with_reducible refine Cs.set4 ?_ _ _ _ _ | (with_reducible refine Cs.other4 ?_ ?_ _ _ _ _; rotate_left; focus (first | assumption | omega | (simp; done) | (simp; omega))) | with_reducible refine Cs.set2 ?_ _ _ | (with_reducible refine Cs.other2 ?_ ?_ _ _; rotate_left; focus (first | assumption | omega | (simp; done) | (simp; omega))) | (with_reducible refine Cs.other ?_ ?_ _; rotate_left; focus (first | assumption | omega | (simp; done) | (simp; omega))) | with_reducible refine Cs.keep ?_ (by assumption) | assumption)) hb6
           replace B13 : Cs w6 (w1.heap.size) #[.int .i64 t1, .int .i64 t2] := Cs.keep (by repeat (first | with_reducible assumption | (with_reducible refine Cs.new _ _ _ _ ?_; first | rfl | (simp; done)) | with_reducible refine Cs.alloc ?_ _ | with_reducible refine Cs.drewN ?_ _ | with_reducible refine Cs.drew ?_ | with_reducible refine Cs.set4 ?_ _ _ _ _ | (with_reducible refine Cs.other4 ?_ ?_ _ _ _ _; rotate_left; focus (first | assumption | omega | (simp; done) | (simp; omega))) | with_reducible refine Cs.set2 ?_ _ _ | (with_reducible refine Cs.other2 ?_ ?_ _ _; rotate_left; focus (first | assumption | omega | (simp; done) | (simp; omega))) | (with_reducible refine Cs.other ?_ ?_ _; rotate_left; focus (first | assumption | omega | (simp; done) | (simp; omega))) | with_reducible refine Cs.keep ?_ (by assumption) | assumption)) hb6
           replace B15 : Cs w6 (w2.heap.size) #[.int .i64 u1, .int .i64 u2] := Cs.keep (by repeat (first | with_reducible assumption | (with_reducible refine Cs.new _ _ _ _ ?_; first | rfl | (simp; done)) | with_reducible refine Cs.alloc ?_ _ | with_reducible refine Cs.drewN ?_ _ | with_reducible refine Cs.drew ?_ | with_reducible refine Cs.set4 ?_ _ _ _ _ | (with_reducible refine Cs.other4 ?_ ?_ _ _ _ _; rotate_left; focus (first | assumption | omega | (simp; done) | (simp; omega))) | with_reducible refine Cs.set2 ?_ _ _ | (with_reducible refine Cs.other2 ?_ ?_ _ _; rotate_left; focus (first | assumption | omega | (simp; done) | (simp; omega))) | (with_reducible refine Cs.other ?_ ?_ _; rotate_left; focus (first | assumption | omega | (simp; done) | (simp; omega))) | with_reducible refine Cs.keep ?_ (by assumption) | assumption)) hb6
           replace hbw : Below w.heap.size w w6 := (by repeat (first | with_reducible exact Below.refl _ _ | with_reducible assumption | with_reducible refine balloc ?_ _ | with_reducible refine bdrewN ?_ _ | with_reducible refine Below.drew ?_ | (with_reducible refine bset ?_ ?_ _; rotate_left; focus (first | assumption | omega | (simp; done) | (simp; omega))) | with_reducible refine bstep ?_ (by assumption) | assumption))
           replace cB11 := B11.c
           replace fB11 := B11.f
           replace lB11 := B11.lt
           replace cB12 := B12.c
           replace fB12 := B12.f
           replace lB12 := B12.lt
           replace cB13 := B13.c
           replace fB13 := B13.f
           replace lB13 := B13.lt
           replace cB15 := B15.c
           replace fB15 := B15.f
           replace lB15 := B15.lt
           clear hb6
           go_wp2_with fail
           go_meet
           exact ⟨rfl, B11, B13, hbw⟩
      case rest =>
        clear B11 B12 B13 B15 hbw f9 f10 Hl1 Hl2
        obtain ⟨rfl, B11, B13, hbw⟩ := hcut
        have cB11 := B11.c
        have fB11 := B11.f
        have lB11 := B11.lt
        have cB13 := B13.c
        have fB13 := B13.f
        have lB13 := B13.lt
        obtain ⟨o1, o2⟩ := Hn2.out
        have o3 := Hmn.out
        have o4 := Hrn.out
        by_cases hr0 : r = 0
        · subst hr0
          have hr0 : ((0 : Nat) : Int) = 0 := rfl
          clear Hht Hls Htl Hpr Hbt
          go_wp2_with fail
          refine (kw _).mono ?_
          rintro e w5 ⟨rfl, hb5⟩
          try clear cB11 fB11 lB11
          try clear B11
          try clear cB13 fB13 lB13
          try clear B13
          replace hbw : Below w.heap.size w w5 := (by repeat (first | with_reducible exact Below.refl _ _ | with_reducible assumption | with_reducible refine balloc ?_ _ | with_reducible refine bdrewN ?_ _ | with_reducible refine Below.drew ?_ | (with_reducible refine bset ?_ ?_ _; rotate_left; focus (first | assumption | omega | (simp; done) | (simp; omega))) | with_reducible refine bstep ?_ (by assumption) | assumption))
          clear hb5
          go_wp2_with fail
          go_ret
          exact ⟨rfl, (by repeat (first | with_reducible exact Below.refl _ _ | with_reducible assumption | with_reducible refine balloc ?_ _ | with_reducible refine bdrewN ?_ _ | with_reducible refine Below.drew ?_ | (with_reducible refine bset ?_ ?_ _; rotate_left; focus (first | assumption | omega | (simp; done) | (simp; omega))) | with_reducible refine bstep ?_ (by assumption) | assumption))⟩
        obtain ⟨q, rfl⟩ : ∃ q, r = q + 1 := ⟨r - 1, by omega⟩
        subst o3
        have hC := HC.out
        have hcn : 0 ≤ c1 ∧ c1 ≤ c2 ∧ c2 ≤ 10 := ⟨hC.n0, hC.n1, hC.d1⟩
        have f12 : IntKind.i64.wrap (((q + 1 : Nat) : Int) - 1) = (q : Int) := by rw [IntWalk.i64_in _ (by omega)]; omega
        have g12 : ((((q + 1 : Nat) : Int)) == 0) = false := by simp; omega
        have kb := Htl.out (m + 1) q c1 c2 hC (by omega) (by omega) (by omega)
        have pb := Hpr.out (m + 1) q c1 c2 hC (by omega)
        have kx := Htl.out m q c1 c2 hC (by omega) (by omega) (by omega)
        have px := Hpr.out m q c1 c2 hC (by omega)
        have lb := Hls.out (Em.tailT (m + 1) q (c1, c2)) (Em.tailT (m + 1) (q + 1) (c1, c2)) (tailT_bd hC _ _ (by omega)) Hbt.out (Em.tailT_right hC _ _)
        have kz : q < m → _ := fun h => Htl.out m (q + 1) c1 c2 hC (by omega) (by omega) (by omega)
        have pz : q < m → _ := fun h => Hpr.out m (q + 1) c1 c2 hC (by omega)
        have yz : q < m → Em.tailT m (q + 1) (c1, c2) = Em.tailY m (q + 1) (c1, c2) := fun h => by unfold Em.tailY; rw [if_pos (by omega)]
        have yn : ¬ q < m → Em.tailY m (q + 1) (c1, c2) = (0, 1) := fun h => by unfold Em.tailY; rw [if_neg (by omega)]
        have hht := Hht.out
        rw [hht] at lb
        obtain ⟨⟨b1, b2⟩, hb⟩ : ∃ t, Em.tailT (m + 1) q (c1, c2) = t := ⟨_, rfl⟩
        obtain ⟨⟨x1, x2⟩, hx⟩ : ∃ t, Em.tailT m q (c1, c2) = t := ⟨_, rfl⟩
        obtain ⟨⟨y1, y2⟩, hy⟩ : ∃ t, Em.tailY m (q + 1) (c1, c2) = t := ⟨_, rfl⟩
        obtain ⟨dx, dy, tf⟩ := tails_facts hC m q (by omega) x1 x2 y1 y2 _ hx hy rfl
        rw [hb] at kb pb lb
        rw [hx] at kx px
        rw [hht] at tf
        dsimp only at kb pb lb kx px
        have hp0 := hC.p1
        have hp1 := fun k h => hC.p2 (n := k) h
        dsimp only at hp0 hp1
        have TFh := Lib.hid tf
        have Hkz := Lib.hid kz
        have Hpz := Lib.hid pz
        have Hyz := Lib.hid yz
        have Hyn := Lib.hid yn
        have Hy := Lib.hid hy
        have Hp0 := Lib.hid hp0
        have Hp1 := Lib.hid hp1
        clear kz pz yz yn hy hht hx hb hC tf hp0 hp1 HC Hht Hls Htl Hpr Hbt
        have hcc : IntKind.i64.wrap (c2 - c1) = c2 - c1 := IntWalk.i64_in _ (by omega)
        clear hcn
        go_wp2_with fail
        refine (kb _).mono ?_
        rintro e w5 ⟨rfl, hb5⟩
        replace B11 : Cs w5 g11 #[.int .i64 c1, .int .i64 c2] := Cs.keep (by repeat (first | with_reducible assumption | (with_reducible refine Cs.new _ _ _ _ ?_; first | rfl | (simp; done)) | with_reducible refine Cs.alloc ?_ _ | with_reducible refine Cs.drewN ?_ _ | with_reducible refine Cs.drew ?_ | with_reducible refine Cs.set4 ?_ _ _ _ _ | (with_reducible refine Cs.other4 ?_ ?_ _ _ _ _; rotate_left; focus (first | assumption | omega | (simp; done) | (simp; omega))) | with_reducible refine Cs.set2 ?_ _ _ | (with_reducible refine Cs.other2 ?_ ?_ _ _; rotate_left; focus (first | assumption | omega | (simp; done) | (simp; omega))) | (with_reducible refine Cs.other ?_ ?_ _; rotate_left; focus (first | assumption | omega | (simp; done) | (simp; omega))) | with_reducible refine Cs.keep ?_ (by assumption) | assumption)) hb5
        replace B13 : Cs w5 (w1.heap.size) #[.int .i64 t1, .int .i64 t2] := Cs.keep (by repeat (first | with_reducible assumption | (with_reducible refine Cs.new _ _ _ _ ?_; first | rfl | (simp; done)) | with_reducible refine Cs.alloc ?_ _ | with_reducible refine Cs.drewN ?_ _ | with_reducible refine Cs.drew ?_ | with_reducible refine Cs.set4 ?_ _ _ _ _ | (with_reducible refine Cs.other4 ?_ ?_ _ _ _ _; rotate_left; focus (first | assumption | omega | (simp; done) | (simp; omega))) | with_reducible refine Cs.set2 ?_ _ _ | (with_reducible refine Cs.other2 ?_ ?_ _ _; rotate_left; focus (first | assumption | omega | (simp; done) | (simp; omega))) | (with_reducible refine Cs.other ?_ ?_ _; rotate_left; focus (first | assumption | omega | (simp; done) | (simp; omega))) | with_reducible refine Cs.keep ?_ (by assumption) | assumption)) hb5
        replace hbw : Below w.heap.size w w5 := (by repeat (first | with_reducible exact Below.refl _ _ | with_reducible assumption | with_reducible refine balloc ?_ _ | with_reducible refine bdrewN ?_ _ | with_reducible refine Below.drew ?_ | (with_reducible refine bset ?_ ?_ _; rotate_left; focus (first | assumption | omega | (simp; done) | (simp; omega))) | with_reducible refine bstep ?_ (by assumption) | assumption))
        replace cB11 := B11.c
        replace fB11 := B11.f
        replace lB11 := B11.lt
        replace cB13 := B13.c
        replace fB13 := B13.f
        replace lB13 := B13.lt
        clear hb5
        go_wp2_with fail
        refine (pb _).mono ?_
        rintro e w6 ⟨rfl, hb6⟩
        replace B11 : Cs w6 g11 #[.int .i64 c1, .int .i64 c2] := Cs.keep (by repeat (first | with_reducible assumption | (with_reducible refine Cs.new _ _ _ _ ?_; first | rfl | (simp; done)) | with_reducible refine Cs.alloc ?_ _ | with_reducible refine Cs.drewN ?_ _ | with_reducible refine Cs.drew ?_ | with_reducible refine Cs.set4 ?_ _ _ _ _ | (with_reducible refine Cs.other4 ?_ ?_ _ _ _ _; rotate_left; focus (first | assumption | omega | (simp; done) | (simp; omega))) | with_reducible refine Cs.set2 ?_ _ _ | (with_reducible refine Cs.other2 ?_ ?_ _ _; rotate_left; focus (first | assumption | omega | (simp; done) | (simp; omega))) | (with_reducible refine Cs.other ?_ ?_ _; rotate_left; focus (first | assumption | omega | (simp; done) | (simp; omega))) | with_reducible refine Cs.keep ?_ (by assumption) | assumption)) hb6
        replace B13 : Cs w6 (w1.heap.size) #[.int .i64 t1, .int .i64 t2] := Cs.keep (by repeat (first | with_reducible assumption | (with_reducible refine Cs.new _ _ _ _ ?_; first | rfl | (simp; done)) | with_reducible refine Cs.alloc ?_ _ | with_reducible refine Cs.drewN ?_ _ | with_reducible refine Cs.drew ?_ | with_reducible refine Cs.set4 ?_ _ _ _ _ | (with_reducible refine Cs.other4 ?_ ?_ _ _ _ _; rotate_left; focus (first | assumption | omega | (simp; done) | (simp; omega))) | with_reducible refine Cs.set2 ?_ _ _ | (with_reducible refine Cs.other2 ?_ ?_ _ _; rotate_left; focus (first | assumption | omega | (simp; done) | (simp; omega))) | (with_reducible refine Cs.other ?_ ?_ _; rotate_left; focus (first | assumption | omega | (simp; done) | (simp; omega))) | with_reducible refine Cs.keep ?_ (by assumption) | assumption)) hb6
        replace B19 : Cs w6 (w5.heap.size) #[.int .i64 b1, .int .i64 b2] := Cs.keep (by repeat (first | with_reducible assumption | (with_reducible refine Cs.new _ _ _ _ ?_; first | rfl | (simp; done)) | with_reducible refine Cs.alloc ?_ _ | with_reducible refine Cs.drewN ?_ _ | with_reducible refine Cs.drew ?_ | with_reducible refine Cs.set4 ?_ _ _ _ _ | (with_reducible refine Cs.other4 ?_ ?_ _ _ _ _; rotate_left; focus (first | assumption | omega | (simp; done) | (simp; omega))) | with_reducible refine Cs.set2 ?_ _ _ | (with_reducible refine Cs.other2 ?_ ?_ _ _; rotate_left; focus (first | assumption | omega | (simp; done) | (simp; omega))) | (with_reducible refine Cs.other ?_ ?_ _; rotate_left; focus (first | assumption | omega | (simp; done) | (simp; omega))) | with_reducible refine Cs.keep ?_ (by assumption) | assumption)) hb6
        replace hbw : Below w.heap.size w w6 := (by repeat (first | with_reducible exact Below.refl _ _ | with_reducible assumption | with_reducible refine balloc ?_ _ | with_reducible refine bdrewN ?_ _ | with_reducible refine Below.drew ?_ | (with_reducible refine bset ?_ ?_ _; rotate_left; focus (first | assumption | omega | (simp; done) | (simp; omega))) | with_reducible refine bstep ?_ (by assumption) | assumption))
        replace cB11 := B11.c
        replace fB11 := B11.f
        replace lB11 := B11.lt
        replace cB13 := B13.c
        replace fB13 := B13.f
        replace lB13 := B13.lt
        replace cB19 := B19.c
        replace fB19 := B19.f
        replace lB19 := B19.lt
        clear hb6
        go_wp2_with fail
        refine (lb _).mono ?_
        rintro e w7 ⟨rfl, hb7⟩
        replace B11 : Cs w7 g11 #[.int .i64 c1, .int .i64 c2] := Cs.keep (by repeat (first | with_reducible assumption | (with_reducible refine Cs.new _ _ _ _ ?_; first | rfl | (simp; done)) | with_reducible refine Cs.alloc ?_ _ | with_reducible refine Cs.drewN ?_ _ | with_reducible refine Cs.drew ?_ | with_reducible refine Cs.set4 ?_ _ _ _ _ | (with_reducible refine Cs.other4 ?_ ?_ _ _ _ _; rotate_left; focus (first | assumption | omega | (simp; done) | (simp; omega))) | with_reducible refine Cs.set2 ?_ _ _ | (with_reducible refine Cs.other2 ?_ ?_ _ _; rotate_left; focus (first | assumption | omega | (simp; done) | (simp; omega))) | (with_reducible refine Cs.other ?_ ?_ _; rotate_left; focus (first | assumption | omega | (simp; done) | (simp; omega))) | with_reducible refine Cs.keep ?_ (by assumption) | assumption)) hb7
        replace B13 : Cs w7 (w1.heap.size) #[.int .i64 t1, .int .i64 t2] := Cs.keep (by repeat (first | with_reducible assumption | (with_reducible refine Cs.new _ _ _ _ ?_; first | rfl | (simp; done)) | with_reducible refine Cs.alloc ?_ _ | with_reducible refine Cs.drewN ?_ _ | with_reducible refine Cs.drew ?_ | with_reducible refine Cs.set4 ?_ _ _ _ _ | (with_reducible refine Cs.other4 ?_ ?_ _ _ _ _; rotate_left; focus (first | assumption | omega | (simp; done) | (simp; omega))) | with_reducible refine Cs.set2 ?_ _ _ | (with_reducible refine Cs.other2 ?_ ?_ _ _; rotate_left; focus (first | assumption | omega | (simp; done) | (simp; omega))) | (with_reducible refine Cs.other ?_ ?_ _; rotate_left; focus (first | assumption | omega | (simp; done) | (simp; omega))) | with_reducible refine Cs.keep ?_ (by assumption) | assumption)) hb7
        replace B19 : Cs w7 (w5.heap.size) #[.int .i64 b1, .int .i64 b2] := Cs.keep (by repeat (first | with_reducible assumption | (with_reducible refine Cs.new _ _ _ _ ?_; first | rfl | (simp; done)) | with_reducible refine Cs.alloc ?_ _ | with_reducible refine Cs.drewN ?_ _ | with_reducible refine Cs.drew ?_ | with_reducible refine Cs.set4 ?_ _ _ _ _ | (with_reducible refine Cs.other4 ?_ ?_ _ _ _ _; rotate_left; focus (first | assumption | omega | (simp; done) | (simp; omega))) | with_reducible refine Cs.set2 ?_ _ _ | (with_reducible refine Cs.other2 ?_ ?_ _ _; rotate_left; focus (first | assumption | omega | (simp; done) | (simp; omega))) | (with_reducible refine Cs.other ?_ ?_ _; rotate_left; focus (first | assumption | omega | (simp; done) | (simp; omega))) | with_reducible refine Cs.keep ?_ (by assumption) | assumption)) hb7
        replace hbw : Below w.heap.size w w7 := (by repeat (first | with_reducible exact Below.refl _ _ | with_reducible assumption | with_reducible refine balloc ?_ _ | with_reducible refine bdrewN ?_ _ | with_reducible refine Below.drew ?_ | (with_reducible refine bset ?_ ?_ _; rotate_left; focus (first | assumption | omega | (simp; done) | (simp; omega))) | with_reducible refine bstep ?_ (by assumption) | assumption))
        replace cB11 := B11.c
        replace fB11 := B11.f
        replace lB11 := B11.lt
        replace cB13 := B13.c
        replace fB13 := B13.f
        replace lB13 := B13.lt
        replace cB19 := B19.c
        replace fB19 := B19.f
        replace lB19 := B19.lt
        clear hb7
        clear kb pb lb
        go_wp2_with fail
        refine (kx _).mono ?_
        rintro e w8 ⟨rfl, hb8⟩
        try clear cB19 fB19 lB19
        try clear B19
        replace B11 : Cs w8 g11 #[.int .i64 c1, .int .i64 c2] := Cs.keep (by repeat (first | with_reducible assumption | (with_reducible refine Cs.new _ _ _ _ ?_; first | rfl | (simp; done)) | with_reducible refine Cs.alloc ?_ _ | with_reducible refine Cs.drewN ?_ _ | with_reducible refine Cs.drew ?_ | with_reducible refine Cs.set4 ?_ _ _ _ _ | (with_reducible refine Cs.other4 ?_ ?_ _ _ _ _; rotate_left; focus (first | assumption | omega | (simp; done) | (simp; omega))) | with_reducible refine Cs.set2 ?_ _ _ | (with_reducible refine Cs.other2 ?_ ?_ _ _; rotate_left; focus (first | assumption | omega | (simp; done) | (simp; omega))) | (with_reducible refine Cs.other ?_ ?_ _; rotate_left; focus (first | assumption | omega | (simp; done) | (simp; omega))) | with_reducible refine Cs.keep ?_ (by assumption) | assumption)) hb8
        replace B13 : Cs w8 (w1.heap.size) #[.int .i64 t1, .int .i64 t2] := Cs.keep (by repeat (first | with_reducible assumption | (with_reducible refine Cs.new _ _ _ _ ?_; first | rfl | (simp; done)) | with_reducible refine Cs.alloc ?_ _ | with_reducible refine Cs.drewN ?_ _ | with_reducible refine Cs.drew ?_ | with_reducible refine Cs.set4 ?_ _ _ _ _ | (with_reducible refine Cs.other4 ?_ ?_ _ _ _ _; rotate_left; focus (first | assumption | omega | (simp; done) | (simp; omega))) | with_reducible refine Cs.set2 ?_ _ _ | (with_reducible refine Cs.other2 ?_ ?_ _ _; rotate_left; focus (first | assumption | omega | (simp; done) | (simp; omega))) | (with_reducible refine Cs.other ?_ ?_ _; rotate_left; focus (first | assumption | omega | (simp; done) | (simp; omega))) | with_reducible refine Cs.keep ?_ (by assumption) | assumption)) hb8
        replace hbw : Below w.heap.size w w8 := (by repeat (first | with_reducible exact Below.refl _ _ | with_reducible assumption | with_reducible refine balloc ?_ _ | with_reducible refine bdrewN ?_ _ | with_reducible refine Below.drew ?_ | (with_reducible refine bset ?_ ?_ _; rotate_left; focus (first | assumption | omega | (simp; done) | (simp; omega))) | with_reducible refine bstep ?_ (by assumption) | assumption))
        replace cB11 := B11.c
        replace fB11 := B11.f
        replace lB11 := B11.lt
        replace cB13 := B13.c
        replace fB13 := B13.f
        replace lB13 := B13.lt
        clear hb8
        go_wp2_with fail
        refine (px _).mono ?_
        rintro e w9 ⟨rfl, hb9⟩
        try clear cB19 fB19 lB19
        try clear B19
        replace B11 : Cs w9 g11 #[.int .i64 c1, .int .i64 c2] := Cs.keep (by repeat (first | with_reducible assumption | (with_reducible refine Cs.new _ _ _ _ ?_; first | rfl | (simp; done)) | with_reducible refine Cs.alloc ?_ _ | with_reducible refine Cs.drewN ?_ _ | with_reducible refine Cs.drew ?_ | with_reducible refine Cs.set4 ?_ _ _ _ _ | (with_reducible refine Cs.other4 ?_ ?_ _ _ _ _; rotate_left; focus (first | assumption | omega | (simp; done) | (simp; omega))) | with_reducible refine Cs.set2 ?_ _ _ | (with_reducible refine Cs.other2 ?_ ?_ _ _; rotate_left; focus (first | assumption | omega | (simp; done) | (simp; omega))) | (with_reducible refine Cs.other ?_ ?_ _; rotate_left; focus (first | assumption | omega | (simp; done) | (simp; omega))) | with_reducible refine Cs.keep ?_ (by assumption) | assumption)) hb9
        replace B13 : Cs w9 (w1.heap.size) #[.int .i64 t1, .int .i64 t2] := Cs.keep (by repeat (first | with_reducible assumption | (with_reducible refine Cs.new _ _ _ _ ?_; first | rfl | (simp; done)) | with_reducible refine Cs.alloc ?_ _ | with_reducible refine Cs.drewN ?_ _ | with_reducible refine Cs.drew ?_ | with_reducible refine Cs.set4 ?_ _ _ _ _ | (with_reducible refine Cs.other4 ?_ ?_ _ _ _ _; rotate_left; focus (first | assumption | omega | (simp; done) | (simp; omega))) | with_reducible refine Cs.set2 ?_ _ _ | (with_reducible refine Cs.other2 ?_ ?_ _ _; rotate_left; focus (first | assumption | omega | (simp; done) | (simp; omega))) | (with_reducible refine Cs.other ?_ ?_ _; rotate_left; focus (first | assumption | omega | (simp; done) | (simp; omega))) | with_reducible refine Cs.keep ?_ (by assumption) | assumption)) hb9
        replace B21 : Cs w9 (w8.heap.size) #[.int .i64 x1, .int .i64 x2] := Cs.keep (by repeat (first | with_reducible assumption | (with_reducible refine Cs.new _ _ _ _ ?_; first | rfl | (simp; done)) | with_reducible refine Cs.alloc ?_ _ | with_reducible refine Cs.drewN ?_ _ | with_reducible refine Cs.drew ?_ | with_reducible refine Cs.set4 ?_ _ _ _ _ | (with_reducible refine Cs.other4 ?_ ?_ _ _ _ _; rotate_left; focus (first | assumption | omega | (simp; done) | (simp; omega))) | with_reducible refine Cs.set2 ?_ _ _ | (with_reducible refine Cs.other2 ?_ ?_ _ _; rotate_left; focus (first | assumption | omega | (simp; done) | (simp; omega))) | (with_reducible refine Cs.other ?_ ?_ _; rotate_left; focus (first | assumption | omega | (simp; done) | (simp; omega))) | with_reducible refine Cs.keep ?_ (by assumption) | assumption)) hb9
        replace hbw : Below w.heap.size w w9 := (by repeat (first | with_reducible exact Below.refl _ _ | with_reducible assumption | with_reducible refine balloc ?_ _ | with_reducible refine bdrewN ?_ _ | with_reducible refine Below.drew ?_ | (with_reducible refine bset ?_ ?_ _; rotate_left; focus (first | assumption | omega | (simp; done) | (simp; omega))) | with_reducible refine bstep ?_ (by assumption) | assumption))
        replace cB11 := B11.c
        replace fB11 := B11.f
        replace lB11 := B11.lt
        replace cB13 := B13.c
        replace fB13 := B13.f
        replace lB13 := B13.lt
        replace cB21 := B21.c
        replace fB21 := B21.f
        replace lB21 := B21.lt
        clear hb9
        go_wp2_with fail
        refine (of_any _ _ _).mono ?_
        rintro e w10 ⟨rfl, hb10⟩
        try clear cB19 fB19 lB19
        try clear B19
        replace B11 : Cs w10 g11 #[.int .i64 c1, .int .i64 c2] := Cs.keep (by repeat (first | with_reducible assumption | (with_reducible refine Cs.new _ _ _ _ ?_; first | rfl | (simp; done)) | with_reducible refine Cs.alloc ?_ _ | with_reducible refine Cs.drewN ?_ _ | with_reducible refine Cs.drew ?_ | with_reducible refine Cs.set4 ?_ _ _ _ _ | (with_reducible refine Cs.other4 ?_ ?_ _ _ _ _; rotate_left; focus (first | assumption | omega | (simp; done) | (simp; omega))) | with_reducible refine Cs.set2 ?_ _ _ | (with_reducible refine Cs.other2 ?_ ?_ _ _; rotate_left; focus (first | assumption | omega | (simp; done) | (simp; omega))) | (with_reducible refine Cs.other ?_ ?_ _; rotate_left; focus (first | assumption | omega | (simp; done) | (simp; omega))) | with_reducible refine Cs.keep ?_ (by assumption) | assumption)) hb10
        replace B13 : Cs w10 (w1.heap.size) #[.int .i64 t1, .int .i64 t2] := Cs.keep (by repeat (first | with_reducible assumption | (with_reducible refine Cs.new _ _ _ _ ?_; first | rfl | (simp; done)) | with_reducible refine Cs.alloc ?_ _ | with_reducible refine Cs.drewN ?_ _ | with_reducible refine Cs.drew ?_ | with_reducible refine Cs.set4 ?_ _ _ _ _ | (with_reducible refine Cs.other4 ?_ ?_ _ _ _ _; rotate_left; focus (first | assumption | omega | (simp; done) | (simp; omega))) | with_reducible refine Cs.set2 ?_ _ _ | (with_reducible refine Cs.other2 ?_ ?_ _ _; rotate_left; focus (first | assumption | omega | (simp; done) | (simp; omega))) | (with_reducible refine Cs.other ?_ ?_ _; rotate_left; focus (first | assumption | omega | (simp; done) | (simp; omega))) | with_reducible refine Cs.keep ?_ (by assumption) | assumption)) hb10
        replace B21 : Cs w10 (w8.heap.size) #[.int .i64 x1, .int .i64 x2] := Cs.keep (by repeat (first | with_reducible assumption | (with_reducible refine Cs.new _ _ _ _ ?_; first | rfl | (simp; done)) | with_reducible refine Cs.alloc ?_ _ | with_reducible refine Cs.drewN ?_ _ | with_reducible refine Cs.drew ?_ | with_reducible refine Cs.set4 ?_ _ _ _ _ | (with_reducible refine Cs.other4 ?_ ?_ _ _ _ _; rotate_left; focus (first | assumption | omega | (simp; done) | (simp; omega))) | with_reducible refine Cs.set2 ?_ _ _ | (with_reducible refine Cs.other2 ?_ ?_ _ _; rotate_left; focus (first | assumption | omega | (simp; done) | (simp; omega))) | (with_reducible refine Cs.other ?_ ?_ _; rotate_left; focus (first | assumption | omega | (simp; done) | (simp; omega))) | with_reducible refine Cs.keep ?_ (by assumption) | assumption)) hb10
        replace hbw : Below w.heap.size w w10 := (by repeat (first | with_reducible exact Below.refl _ _ | with_reducible assumption | with_reducible refine balloc ?_ _ | with_reducible refine bdrewN ?_ _ | with_reducible refine Below.drew ?_ | (with_reducible refine bset ?_ ?_ _; rotate_left; focus (first | assumption | omega | (simp; done) | (simp; omega))) | with_reducible refine bstep ?_ (by assumption) | assumption))
        replace cB11 := B11.c
        replace fB11 := B11.f
        replace lB11 := B11.lt
        replace cB13 := B13.c
        replace fB13 := B13.f
        replace lB13 := B13.lt
        replace cB21 := B21.c
        replace fB21 := B21.f
        replace lB21 := B21.lt
        clear hb10
        clear kx px
        have hsz : w.heap.size ≤ w10.heap.size := hbw.size
        have hs1 := B11.lt
        have hs2 := B13.lt
        have hs3 := B21.lt
        by_cases hq : q < m
        · have kz := Hkz.out hq
          have pz := Hpz.out hq
          rw [Hyz.out hq, Hy.out] at kz pz
          dsimp only at kz pz
          have hqI : ((q + 1 : Nat) : Int) < ((m + 1 : Nat) : Int) := by omega
          clear Hkz Hpz Hyz Hyn Hy
          go_wp2_with fail
          refine (kz _).mono ?_
          rintro e w11 ⟨rfl, hb11⟩
          try clear cB19 fB19 lB19
          try clear B19
          replace B11 : Cs w11 g11 #[.int .i64 c1, .int .i64 c2] := Cs.keep (by repeat (first | with_reducible assumption | (with_reducible refine Cs.new _ _ _ _ ?_; first | rfl | (simp; done)) | with_reducible refine Cs.alloc ?_ _ | with_reducible refine Cs.drewN ?_ _ | with_reducible refine Cs.drew ?_ | with_reducible refine Cs.set4 ?_ _ _ _ _ | (with_reducible refine Cs.other4 ?_ ?_ _ _ _ _; rotate_left; focus (first | assumption | omega | (simp; done) | (simp; omega))) | with_reducible refine Cs.set2 ?_ _ _ | (with_reducible refine Cs.other2 ?_ ?_ _ _; rotate_left; focus (first | assumption | omega | (simp; done) | (simp; omega))) | (with_reducible refine Cs.other ?_ ?_ _; rotate_left; focus (first | assumption | omega | (simp; done) | (simp; omega))) | with_reducible refine Cs.keep ?_ (by assumption) | assumption)) hb11
          replace B13 : Cs w11 (w1.heap.size) #[.int .i64 t1, .int .i64 t2] := Cs.keep (by repeat (first | with_reducible assumption | (with_reducible refine Cs.new _ _ _ _ ?_; first | rfl | (simp; done)) | with_reducible refine Cs.alloc ?_ _ | with_reducible refine Cs.drewN ?_ _ | with_reducible refine Cs.drew ?_ | with_reducible refine Cs.set4 ?_ _ _ _ _ | (with_reducible refine Cs.other4 ?_ ?_ _ _ _ _; rotate_left; focus (first | assumption | omega | (simp; done) | (simp; omega))) | with_reducible refine Cs.set2 ?_ _ _ | (with_reducible refine Cs.other2 ?_ ?_ _ _; rotate_left; focus (first | assumption | omega | (simp; done) | (simp; omega))) | (with_reducible refine Cs.other ?_ ?_ _; rotate_left; focus (first | assumption | omega | (simp; done) | (simp; omega))) | with_reducible refine Cs.keep ?_ (by assumption) | assumption)) hb11
          replace B21 : Cs w11 (w8.heap.size) #[.int .i64 x1, .int .i64 x2] := Cs.keep (by repeat (first | with_reducible assumption | (with_reducible refine Cs.new _ _ _ _ ?_; first | rfl | (simp; done)) | with_reducible refine Cs.alloc ?_ _ | with_reducible refine Cs.drewN ?_ _ | with_reducible refine Cs.drew ?_ | with_reducible refine Cs.set4 ?_ _ _ _ _ | (with_reducible refine Cs.other4 ?_ ?_ _ _ _ _; rotate_left; focus (first | assumption | omega | (simp; done) | (simp; omega))) | with_reducible refine Cs.set2 ?_ _ _ | (with_reducible refine Cs.other2 ?_ ?_ _ _; rotate_left; focus (first | assumption | omega | (simp; done) | (simp; omega))) | (with_reducible refine Cs.other ?_ ?_ _; rotate_left; focus (first | assumption | omega | (simp; done) | (simp; omega))) | with_reducible refine Cs.keep ?_ (by assumption) | assumption)) hb11
          replace B23 : Cs w11 (w10.heap.size) #[.int .i64 0, .int .i64 1] := Cs.keep (by repeat (first | with_reducible assumption | (with_reducible refine Cs.new _ _ _ _ ?_; first | rfl | (simp; done)) | with_reducible refine Cs.alloc ?_ _ | with_reducible refine Cs.drewN ?_ _ | with_reducible refine Cs.drew ?_ | with_reducible refine Cs.set4 ?_ _ _ _ _ | (with_reducible refine Cs.other4 ?_ ?_ _ _ _ _; rotate_left; focus (first | assumption | omega | (simp; done) | (simp; omega))) | with_reducible refine Cs.set2 ?_ _ _ | (with_reducible refine Cs.other2 ?_ ?_ _ _; rotate_left; focus (first | assumption | omega | (simp; done) | (simp; omega))) | (with_reducible refine Cs.other ?_ ?_ _; rotate_left; focus (first | assumption | omega | (simp; done) | (simp; omega))) | with_reducible refine Cs.keep ?_ (by assumption) | assumption)) hb11
          replace hbw : Below w.heap.size w w11 := (by repeat (first | with_reducible exact Below.refl _ _ | with_reducible assumption | with_reducible refine balloc ?_ _ | with_reducible refine bdrewN ?_ _ | with_reducible refine Below.drew ?_ | (with_reducible refine bset ?_ ?_ _; rotate_left; focus (first | assumption | omega | (simp; done) | (simp; omega))) | with_reducible refine bstep ?_ (by assumption) | assumption))
          replace cB11 := B11.c
          replace fB11 := B11.f
          replace lB11 := B11.lt
          replace cB13 := B13.c
          replace fB13 := B13.f
          replace lB13 := B13.lt
          replace cB21 := B21.c
          replace fB21 := B21.f
          replace lB21 := B21.lt
          replace cB23 := B23.c
          replace fB23 := B23.f
          replace lB23 := B23.lt
          clear hb11
          go_wp2_with fail
          refine (pz _).mono ?_
          rintro e w12 ⟨rfl, hb12⟩
          try clear cB19 fB19 lB19
          try clear B19
          replace B11 : Cs w12 g11 #[.int .i64 c1, .int .i64 c2] := Cs.keep (by repeat (first | with_reducible assumption | (with_reducible refine Cs.new _ _ _ _ ?_; first | rfl | (simp; done)) | with_reducible refine Cs.alloc ?_ _ | with_reducible refine Cs.drewN ?_ _ | with_reducible refine Cs.drew ?_ | with_reducible refine Cs.set4 ?_ _ _ _ _ | (with_reducible refine Cs.other4 ?_ ?_ _ _ _ _; rotate_left; focus (first | assumption | omega | (simp; done) | (simp; omega))) | with_reducible refine Cs.set2 ?_ _ _ | (with_reducible refine Cs.other2 ?_ ?_ _ _; rotate_left; focus (first | assumption | omega | (simp; done) | (simp; omega))) | (with_reducible refine Cs.other ?_ ?_ _; rotate_left; focus (first | assumption | omega | (simp; done) | (simp; omega))) | with_reducible refine Cs.keep ?_ (by assumption) | assumption)) hb12
          replace B13 : Cs w12 (w1.heap.size) #[.int .i64 t1, .int .i64 t2] := Cs.keep (by repeat (first | with_reducible assumption | (with_reducible refine Cs.new _ _ _ _ ?_; first | rfl | (simp; done)) | with_reducible refine Cs.alloc ?_ _ | with_reducible refine Cs.drewN ?_ _ | with_reducible refine Cs.drew ?_ | with_reducible refine Cs.set4 ?_ _ _ _ _ | (with_reducible refine Cs.other4 ?_ ?_ _ _ _ _; rotate_left; focus (first | assumption | omega | (simp; done) | (simp; omega))) | with_reducible refine Cs.set2 ?_ _ _ | (with_reducible refine Cs.other2 ?_ ?_ _ _; rotate_left; focus (first | assumption | omega | (simp; done) | (simp; omega))) | (with_reducible refine Cs.other ?_ ?_ _; rotate_left; focus (first | assumption | omega | (simp; done) | (simp; omega))) | with_reducible refine Cs.keep ?_ (by assumption) | assumption)) hb12
          replace B21 : Cs w12 (w8.heap.size) #[.int .i64 x1, .int .i64 x2] := Cs.keep (by repeat (first | with_reducible assumption | (with_reducible refine Cs.new _ _ _ _ ?_; first | rfl | (simp; done)) | with_reducible refine Cs.alloc ?_ _ | with_reducible refine Cs.drewN ?_ _ | with_reducible refine Cs.drew ?_ | with_reducible refine Cs.set4 ?_ _ _ _ _ | (with_reducible refine Cs.other4 ?_ ?_ _ _ _ _; rotate_left; focus (first | assumption | omega | (simp; done) | (simp; omega))) | with_reducible refine Cs.set2 ?_ _ _ | (with_reducible refine Cs.other2 ?_ ?_ _ _; rotate_left; focus (first | assumption | omega | (simp; done) | (simp; omega))) | (with_reducible refine Cs.other ?_ ?_ _; rotate_left; focus (first | assumption | omega | (simp; done) | (simp; omega))) | with_reducible refine Cs.keep ?_ (by assumption) | assumption)) hb12
          replace B23 : Cs w12 (w10.heap.size) #[.int .i64 0, .int .i64 1] := Cs.keep (by repeat (first | with_reducible assumption | (with_reducible refine Cs.new _ _ _ _ ?_; first | rfl | (simp; done)) | with_reducible refine Cs.alloc ?_ _ | with_reducible refine Cs.drewN ?_ _ | with_reducible refine Cs.drew ?_ | with_reducible refine Cs.set4 ?_ _ _ _ _ | (with_reducible refine Cs.other4 ?_ ?_ _ _ _ _; rotate_left; focus (first | assumption | omega | (simp; done) | (simp; omega))) | with_reducible refine Cs.set2 ?_ _ _ | (with_reducible refine Cs.other2 ?_ ?_ _ _; rotate_left; focus (first | assumption | omega | (simp; done) | (simp; omega))) | (with_reducible refine Cs.other ?_ ?_ _; rotate_left; focus (first | assumption | omega | (simp; done) | (simp; omega))) | with_reducible refine Cs.keep ?_ (by assumption) | assumption)) hb12
          replace B24 : Cs w12 (w11.heap.size) #[.int .i64 y1, .int .i64 y2] := Cs.keep (by repeat (first | with_reducible assumption | (with_reducible refine Cs.new _ _ _ _ ?_; first | rfl | (simp; done)) | with_reducible refine Cs.alloc ?_ _ | with_reducible refine Cs.drewN ?_ _ | with_reducible refine Cs.drew ?_ | with_reducible refine Cs.set4 ?_ _ _ _ _ | (with_reducible refine Cs.other4 ?_ ?_ _ _ _ _; rotate_left; focus (first | assumption | omega | (simp; done) | (simp; omega))) | with_reducible refine Cs.set2 ?_ _ _ | (with_reducible refine Cs.other2 ?_ ?_ _ _; rotate_left; focus (first | assumption | omega | (simp; done) | (simp; omega))) | (with_reducible refine Cs.other ?_ ?_ _; rotate_left; focus (first | assumption | omega | (simp; done) | (simp; omega))) | with_reducible refine Cs.keep ?_ (by assumption) | assumption)) hb12
          replace hbw : Below w.heap.size w w12 := (by repeat (first | with_reducible exact Below.refl _ _ | with_reducible assumption | with_reducible refine balloc ?_ _ | with_reducible refine bdrewN ?_ _ | with_reducible refine Below.drew ?_ | (with_reducible refine bset ?_ ?_ _; rotate_left; focus (first | assumption | omega | (simp; done) | (simp; omega))) | with_reducible refine bstep ?_ (by assumption) | assumption))
          replace cB11 := B11.c
          replace fB11 := B11.f
          replace lB11 := B11.lt
          replace cB13 := B13.c
          replace fB13 := B13.f
          replace lB13 := B13.lt
          replace cB21 := B21.c
          replace fB21 := B21.f
          replace lB21 := B21.lt
          replace cB23 := B23.c
          replace fB23 := B23.f
          replace lB23 := B23.lt
          replace cB24 := B24.c
          replace fB24 := B24.f
          replace lB24 := B24.lt
          clear hb12
          clear kz pz
          go_upto_region 25 with fail
          obtain ⟨W, hW⟩ : ∃ W, ((w12.setCell ⟨w10.heap.size, 0, none⟩ (.int .i64 y1)).setCell ⟨w10.heap.size, 1, none⟩ (.int .i64 y2)) = W := ⟨_, rfl⟩
          replace B11 : Cs W g11 #[.int .i64 c1, .int .i64 c2] := by rw [← hW]; exact B11.other2 (by omega) _ _
          replace B13 : Cs W w1.heap.size #[.int .i64 t1, .int .i64 t2] := by rw [← hW]; exact B13.other2 (by omega) _ _
          replace B21 : Cs W w8.heap.size #[.int .i64 x1, .int .i64 x2] := by rw [← hW]; exact B21.other2 (by omega) _ _
          replace B23 : Cs W w10.heap.size #[.int .i64 y1, .int .i64 y2] := by rw [← hW]; exact B23.set2 _ _
          replace hbw : Below w.heap.size w W := by rw [← hW]; exact bset2 hbw hsz _ _
          rw [hW]
          clear hW cB11 fB11 lB11 cB13 fB13 lB13 cB21 fB21 lB21 cB23 fB23 lB23
          have cB11 := B11.c
          have fB11 := B11.f
          have lB11 := B11.lt
          have cB13 := B13.c
          have fB13 := B13.f
          have lB13 := B13.lt
          have cB21 := B21.c
          have fB21 := B21.f
          have lB21 := B21.lt
          have cB23 := B23.c
          have fB23 := B23.f
          have lB23 := B23.lt
          have Hbw := Lib.hid hbw
          clear hbw
          go_wp2_with fail
          go_loopw [26, 27] (fun s26 s27 wx => ∃ k : Nat, k ≤ m ∧ s27 = .int .i64 (k : Nat) ∧ s26 = .int .i64 (c2 ^ k) ∧ wx = W) (fun _ s27 _ => m - (intOf s27).toNat)
          case atStart => exact ⟨0, Nat.zero_le _, rfl, by simp, rfl⟩
          case round =>
            obtain ⟨k, hk, rfl, rfl, rfl⟩ := hrel
            by_cases hkm : k < m
            · have hkI : (k : Int) < (m : Int) := by omega
              have fw : IntKind.i64.wrap (c2 ^ k * c2) = c2 ^ (k + 1) := by
                rw [show c2 ^ k * c2 = c2 ^ (k + 1) from (Int.pow_succ c2 k).symm]
                have i1 := Hp0.out (k + 1)
                have i2 := Hp1.out (k + 1) (by omega)
                exact IntWalk.i64_in _ (by omega)
              obtain ⟨V1, hV1⟩ : ∃ v, c2 ^ (k + 1) = v := ⟨_, rfl⟩
              rw [hV1] at fw
              have HV1 := Lib.hid hV1
              clear hV1
              generalize c2 ^ k = V at *
              go_wp2_with fail
              go_roundw
              case rel => exact ⟨k + 1, by omega, by go_num, by rw [HV1.out], by trivial⟩
              case measure => simp [intOf]; omega
            · obtain rfl : k = m := by omega
              have tf := TFh.out
              clear TFh Hp0 Hp1
              generalize c2 ^ k = V at *
              obtain ⟨z1, z2, m1, m2, d1, d2, ⟨p1, p2⟩, ⟨p3, p4⟩, ⟨p5, p6⟩, ⟨p7, p8⟩, ⟨p9, p10⟩, ⟨p11, p12⟩, ⟨p13, p14⟩, hres⟩ := tf
              have e1 : (x2 == 0) = false := by simp; omega
              have e2 : (y2 == 0) = false := by simp; omega
              have e1' : ¬ x2 = 0 := by omega
              have e2' : ¬ y2 = 0 := by omega
              have wr1 : IntKind.i64.wrap dx = dx := IntWalk.i64_in _ (by omega)
              have wr2 : IntKind.i64.wrap dy = dy := IntWalk.i64_in _ (by omega)
              have wr3 : IntKind.i64.wrap (c1 * x1) = c1 * x1 := IntWalk.i64_in _ (by omega)
              have wr4 : IntKind.i64.wrap ((c2 - c1) * y1) = (c2 - c1) * y1 := IntWalk.i64_in _ (by omega)
              have wr5 : IntKind.i64.wrap (c1 * x1 * dx) = c1 * x1 * dx := IntWalk.i64_in _ (by omega)
              have wr6 : IntKind.i64.wrap ((c2 - c1) * y1 * dy) = (c2 - c1) * y1 * dy := IntWalk.i64_in _ (by omega)
              have wr7 : IntKind.i64.wrap (V * c2) = V * c2 := IntWalk.i64_in _ (by omega)
              have wr8 : IntKind.i64.wrap (c1 * x1 * dx + (c2 - c1) * y1 * dy) = c1 * x1 * dx + (c2 - c1) * y1 * dy := IntWalk.i64_in _ (by omega)
              have wr9 : IntKind.i64.wrap (c2 - c1) = c2 - c1 := hcc
              have kf := fun W => fraction_any (c1 * x1 * dx + (c2 - c1) * y1 * dy) (V * c2) W (by omega) p13 (by omega) (by omega)
              rw [hres] at kf
              dsimp only at kf
              clear hres z1 z2 p1 p2 p3 p4 p5 p6 p7 p8 p9 p10 p11 p12 p13 p14
              as_aux_lemma =>
               go_wp2_with fail
               go_quiet (fail)
               as_aux_lemma =>
                go_wp2_with fail
                clear cB11 fB11 lB11 cB13 fB13 lB13 cB21 fB21 lB21 cB23 fB23 lB23
                have hbw := Hbw.out
                as_aux_lemma =>
                 go_region_held3 (fun w' => w'.cell? ⟨g11, 0, none⟩ = some (.int .i64 c1) ∧ w'.cell? ⟨g11, 1, none⟩ = some (.int .i64 c2) ∧ w'.cell? ⟨w1.heap.size, 0, none⟩ = some (.int .i64 t1) ∧ w'.cell? ⟨w1.heap.size, 1, none⟩ = some (.int .i64 t2))
                   (first | exact ⟨B11.c 0, B11.c 1, B13.c 0, B13.c 1⟩ | exact ⟨(Cs.alloc B11 _).c 0, (Cs.alloc B11 _).c 1, (Cs.alloc B13 _).c 0, (Cs.alloc B13 _).c 1⟩ | go_keep)
                   (first | (go_at_call 30; (with_reducible refine (kf _).mono ?_); rintro e w13 ⟨rfl, hb13⟩; have B11 : Cs w13 g11 #[.int .i64 c1, .int .i64 c2] := Cs.keep (by repeat (first | with_reducible assumption | (with_reducible refine Cs.new _ _ _ _ ?_; first | rfl | (simp; done)) | with_reducible refine Cs.alloc ?_ _ | with_reducible refine Cs.drewN ?_ _ | with_reducible refine Cs.drew ?_ | with_reducible refine Cs.set4 ?_ _ _ _ _ | (with_reducible refine Cs.other4 ?_ ?_ _ _ _ _; rotate_left; focus (first | assumption | omega | (simp; done) | (simp; omega))) | with_reducible refine Cs.set2 ?_ _ _ | (with_reducible refine Cs.other2 ?_ ?_ _ _; rotate_left; focus (first | assumption | omega | (simp; done) | (simp; omega))) | (with_reducible refine Cs.other ?_ ?_ _; rotate_left; focus (first | assumption | omega | (simp; done) | (simp; omega))) | with_reducible refine Cs.keep ?_ (by assumption) | assumption)) hb13; have B13 : Cs w13 (w1.heap.size) #[.int .i64 t1, .int .i64 t2] := Cs.keep (by repeat (first | with_reducible assumption | (with_reducible refine Cs.new _ _ _ _ ?_; first | rfl | (simp; done)) | with_reducible refine Cs.alloc ?_ _ | with_reducible refine Cs.drewN ?_ _ | with_reducible refine Cs.drew ?_ | with_reducible refine Cs.set4 ?_ _ _ _ _ | (with_reducible refine Cs.other4 ?_ ?_ _ _ _ _; rotate_left; focus (first | assumption | omega | (simp; done) | (simp; omega))) | with_reducible refine Cs.set2 ?_ _ _ | (with_reducible refine Cs.other2 ?_ ?_ _ _; rotate_left; focus (first | assumption | omega | (simp; done) | (simp; omega))) | (with_reducible refine Cs.other ?_ ?_ _; rotate_left; focus (first | assumption | omega | (simp; done) | (simp; omega))) | with_reducible refine Cs.keep ?_ (by assumption) | assumption)) hb13; have hbw : Below w.heap.size w w13 := (by repeat (first | with_reducible exact Below.refl _ _ | with_reducible assumption | with_reducible refine balloc ?_ _ | with_reducible refine bdrewN ?_ _ | with_reducible refine Below.drew ?_ | (with_reducible refine bset ?_ ?_ _; rotate_left; focus (first | assumption | omega | (simp; done) | (simp; omega))) | with_reducible refine bstep ?_ (by assumption) | assumption)); clear hb13) | (go_at_call 14; (with_reducible refine (kw _).mono ?_); rintro e w13 ⟨rfl, hb13⟩; have B11 : Cs w13 g11 #[.int .i64 c1, .int .i64 c2] := Cs.keep (by repeat (first | with_reducible assumption | (with_reducible refine Cs.new _ _ _ _ ?_; first | rfl | (simp; done)) | with_reducible refine Cs.alloc ?_ _ | with_reducible refine Cs.drewN ?_ _ | with_reducible refine Cs.drew ?_ | with_reducible refine Cs.set4 ?_ _ _ _ _ | (with_reducible refine Cs.other4 ?_ ?_ _ _ _ _; rotate_left; focus (first | assumption | omega | (simp; done) | (simp; omega))) | with_reducible refine Cs.set2 ?_ _ _ | (with_reducible refine Cs.other2 ?_ ?_ _ _; rotate_left; focus (first | assumption | omega | (simp; done) | (simp; omega))) | (with_reducible refine Cs.other ?_ ?_ _; rotate_left; focus (first | assumption | omega | (simp; done) | (simp; omega))) | with_reducible refine Cs.keep ?_ (by assumption) | assumption)) hb13; have B13 : Cs w13 (w1.heap.size) #[.int .i64 t1, .int .i64 t2] := Cs.keep (by repeat (first | with_reducible assumption | (with_reducible refine Cs.new _ _ _ _ ?_; first | rfl | (simp; done)) | with_reducible refine Cs.alloc ?_ _ | with_reducible refine Cs.drewN ?_ _ | with_reducible refine Cs.drew ?_ | with_reducible refine Cs.set4 ?_ _ _ _ _ | (with_reducible refine Cs.other4 ?_ ?_ _ _ _ _; rotate_left; focus (first | assumption | omega | (simp; done) | (simp; omega))) | with_reducible refine Cs.set2 ?_ _ _ | (with_reducible refine Cs.other2 ?_ ?_ _ _; rotate_left; focus (first | assumption | omega | (simp; done) | (simp; omega))) | (with_reducible refine Cs.other ?_ ?_ _; rotate_left; focus (first | assumption | omega | (simp; done) | (simp; omega))) | with_reducible refine Cs.keep ?_ (by assumption) | assumption)) hb13; have hbw : Below w.heap.size w w13 := (by repeat (first | with_reducible exact Below.refl _ _ | with_reducible assumption | with_reducible refine balloc ?_ _ | with_reducible refine bdrewN ?_ _ | with_reducible refine Below.drew ?_ | (with_reducible refine bset ?_ ?_ _; rotate_left; focus (first | assumption | omega | (simp; done) | (simp; omega))) | with_reducible refine bstep ?_ (by assumption) | assumption)); clear hb13))
                 all_goals (
                   go_wp2_with fail
                   go_ret
                   exact ⟨rfl, hbw⟩)
        · have hy01 : y1 = 0 ∧ y2 = 1 := by have := Hy.out; rw [Hyn.out hq] at this; injection this with a b; exact ⟨a.symm, b.symm⟩
          have hqI : ¬ ((q + 1 : Nat) : Int) < ((m + 1 : Nat) : Int) := by omega
          clear Hkz Hpz Hyz Hyn Hy
          go_upto_region 25 with fail
          obtain ⟨W, hW⟩ : ∃ W, (w10.alloc (.cells #[.int .i64 0, .int .i64 1] 25)) = W := ⟨_, rfl⟩
          replace B11 : Cs W g11 #[.int .i64 c1, .int .i64 c2] := by rw [← hW]; exact B11.alloc _
          replace B13 : Cs W w1.heap.size #[.int .i64 t1, .int .i64 t2] := by rw [← hW]; exact B13.alloc _
          replace B21 : Cs W w8.heap.size #[.int .i64 x1, .int .i64 x2] := by rw [← hW]; exact B21.alloc _
          have B23 : Cs W w10.heap.size #[.int .i64 y1, .int .i64 y2] := by rw [hy01.1, hy01.2, ← hW]; exact (by repeat (first | with_reducible assumption | (with_reducible refine Cs.new _ _ _ _ ?_; first | rfl | (simp; done)) | with_reducible refine Cs.alloc ?_ _ | with_reducible refine Cs.drewN ?_ _ | with_reducible refine Cs.drew ?_ | with_reducible refine Cs.set4 ?_ _ _ _ _ | (with_reducible refine Cs.other4 ?_ ?_ _ _ _ _; rotate_left; focus (first | assumption | omega | (simp; done) | (simp; omega))) | with_reducible refine Cs.set2 ?_ _ _ | (with_reducible refine Cs.other2 ?_ ?_ _ _; rotate_left; focus (first | assumption | omega | (simp; done) | (simp; omega))) | (with_reducible refine Cs.other ?_ ?_ _; rotate_left; focus (first | assumption | omega | (simp; done) | (simp; omega))) | with_reducible refine Cs.keep ?_ (by assumption) | assumption))
          clear hy01
          replace hbw : Below w.heap.size w W := by rw [← hW]; exact (by repeat (first | with_reducible exact Below.refl _ _ | with_reducible assumption | with_reducible refine balloc ?_ _ | with_reducible refine bdrewN ?_ _ | with_reducible refine Below.drew ?_ | (with_reducible refine bset ?_ ?_ _; rotate_left; focus (first | assumption | omega | (simp; done) | (simp; omega))) | with_reducible refine bstep ?_ (by assumption) | assumption))
          rw [hW]
          clear hW cB11 fB11 lB11 cB13 fB13 lB13 cB21 fB21 lB21
          have cB11 := B11.c
          have fB11 := B11.f
          have lB11 := B11.lt
          have cB13 := B13.c
          have fB13 := B13.f
          have lB13 := B13.lt
          have cB21 := B21.c
          have fB21 := B21.f
          have lB21 := B21.lt
          have cB23 := B23.c
          have fB23 := B23.f
          have lB23 := B23.lt
          have Hbw := Lib.hid hbw
          clear hbw
          go_wp2_with fail
          go_loopw [26, 27] (fun s26 s27 wx => ∃ k : Nat, k ≤ m ∧ s27 = .int .i64 (k : Nat) ∧ s26 = .int .i64 (c2 ^ k) ∧ wx = W) (fun _ s27 _ => m - (intOf s27).toNat)
          case atStart => exact ⟨0, Nat.zero_le _, rfl, by simp, rfl⟩
          case round =>
            obtain ⟨k, hk, rfl, rfl, rfl⟩ := hrel
            by_cases hkm : k < m
            · have hkI : (k : Int) < (m : Int) := by omega
              have fw : IntKind.i64.wrap (c2 ^ k * c2) = c2 ^ (k + 1) := by
                rw [show c2 ^ k * c2 = c2 ^ (k + 1) from (Int.pow_succ c2 k).symm]
                have i1 := Hp0.out (k + 1)
                have i2 := Hp1.out (k + 1) (by omega)
                exact IntWalk.i64_in _ (by omega)
              obtain ⟨V1, hV1⟩ : ∃ v, c2 ^ (k + 1) = v := ⟨_, rfl⟩
              rw [hV1] at fw
              have HV1 := Lib.hid hV1
              clear hV1
              generalize c2 ^ k = V at *
              go_wp2_with fail
              go_roundw
              case rel => exact ⟨k + 1, by omega, by go_num, by rw [HV1.out], by trivial⟩
              case measure => simp [intOf]; omega
            · obtain rfl : k = m := by omega
              have tf := TFh.out
              clear TFh Hp0 Hp1
              generalize c2 ^ k = V at *
              obtain ⟨z1, z2, m1, m2, d1, d2, ⟨p1, p2⟩, ⟨p3, p4⟩, ⟨p5, p6⟩, ⟨p7, p8⟩, ⟨p9, p10⟩, ⟨p11, p12⟩, ⟨p13, p14⟩, hres⟩ := tf
              have e1 : (x2 == 0) = false := by simp; omega
              have e2 : (y2 == 0) = false := by simp; omega
              have e1' : ¬ x2 = 0 := by omega
              have e2' : ¬ y2 = 0 := by omega
              have wr1 : IntKind.i64.wrap dx = dx := IntWalk.i64_in _ (by omega)
              have wr2 : IntKind.i64.wrap dy = dy := IntWalk.i64_in _ (by omega)
              have wr3 : IntKind.i64.wrap (c1 * x1) = c1 * x1 := IntWalk.i64_in _ (by omega)
              have wr4 : IntKind.i64.wrap ((c2 - c1) * y1) = (c2 - c1) * y1 := IntWalk.i64_in _ (by omega)
              have wr5 : IntKind.i64.wrap (c1 * x1 * dx) = c1 * x1 * dx := IntWalk.i64_in _ (by omega)
              have wr6 : IntKind.i64.wrap ((c2 - c1) * y1 * dy) = (c2 - c1) * y1 * dy := IntWalk.i64_in _ (by omega)
              have wr7 : IntKind.i64.wrap (V * c2) = V * c2 := IntWalk.i64_in _ (by omega)
              have wr8 : IntKind.i64.wrap (c1 * x1 * dx + (c2 - c1) * y1 * dy) = c1 * x1 * dx + (c2 - c1) * y1 * dy := IntWalk.i64_in _ (by omega)
              have wr9 : IntKind.i64.wrap (c2 - c1) = c2 - c1 := hcc
              have kf := fun W => fraction_any (c1 * x1 * dx + (c2 - c1) * y1 * dy) (V * c2) W (by omega) p13 (by omega) (by omega)
              rw [hres] at kf
              dsimp only at kf
              clear hres z1 z2 p1 p2 p3 p4 p5 p6 p7 p8 p9 p10 p11 p12 p13 p14
              as_aux_lemma =>
               go_wp2_with fail
               go_quiet (fail)
               as_aux_lemma =>
                go_wp2_with fail
                clear cB11 fB11 lB11 cB13 fB13 lB13 cB21 fB21 lB21 cB23 fB23 lB23
                have hbw := Hbw.out
                as_aux_lemma =>
                 go_region_held3 (fun w' => w'.cell? ⟨g11, 0, none⟩ = some (.int .i64 c1) ∧ w'.cell? ⟨g11, 1, none⟩ = some (.int .i64 c2) ∧ w'.cell? ⟨w1.heap.size, 0, none⟩ = some (.int .i64 t1) ∧ w'.cell? ⟨w1.heap.size, 1, none⟩ = some (.int .i64 t2))
                   (first | exact ⟨B11.c 0, B11.c 1, B13.c 0, B13.c 1⟩ | exact ⟨(Cs.alloc B11 _).c 0, (Cs.alloc B11 _).c 1, (Cs.alloc B13 _).c 0, (Cs.alloc B13 _).c 1⟩ | go_keep)
                   (first | (go_at_call 30; (with_reducible refine (kf _).mono ?_); rintro e w13 ⟨rfl, hb13⟩; have B11 : Cs w13 g11 #[.int .i64 c1, .int .i64 c2] := Cs.keep (by repeat (first | with_reducible assumption | (with_reducible refine Cs.new _ _ _ _ ?_; first | rfl | (simp; done)) | with_reducible refine Cs.alloc ?_ _ | with_reducible refine Cs.drewN ?_ _ | with_reducible refine Cs.drew ?_ | with_reducible refine Cs.set4 ?_ _ _ _ _ | (with_reducible refine Cs.other4 ?_ ?_ _ _ _ _; rotate_left; focus (first | assumption | omega | (simp; done) | (simp; omega))) | with_reducible refine Cs.set2 ?_ _ _ | (with_reducible refine Cs.other2 ?_ ?_ _ _; rotate_left; focus (first | assumption | omega | (simp; done) | (simp; omega))) | (with_reducible refine Cs.other ?_ ?_ _; rotate_left; focus (first | assumption | omega | (simp; done) | (simp; omega))) | with_reducible refine Cs.keep ?_ (by assumption) | assumption)) hb13; have B13 : Cs w13 (w1.heap.size) #[.int .i64 t1, .int .i64 t2] := Cs.keep (by repeat (first | with_reducible assumption | (with_reducible refine Cs.new _ _ _ _ ?_; first | rfl | (simp; done)) | with_reducible refine Cs.alloc ?_ _ | with_reducible refine Cs.drewN ?_ _ | with_reducible refine Cs.drew ?_ | with_reducible refine Cs.set4 ?_ _ _ _ _ | (with_reducible refine Cs.other4 ?_ ?_ _ _ _ _; rotate_left; focus (first | assumption | omega | (simp; done) | (simp; omega))) | with_reducible refine Cs.set2 ?_ _ _ | (with_reducible refine Cs.other2 ?_ ?_ _ _; rotate_left; focus (first | assumption | omega | (simp; done) | (simp; omega))) | (with_reducible refine Cs.other ?_ ?_ _; rotate_left; focus (first | assumption | omega | (simp; done) | (simp; omega))) | with_reducible refine Cs.keep ?_ (by assumption) | assumption)) hb13; have hbw : Below w.heap.size w w13 := (by repeat (first | with_reducible exact Below.refl _ _ | with_reducible assumption | with_reducible refine balloc ?_ _ | with_reducible refine bdrewN ?_ _ | with_reducible refine Below.drew ?_ | (with_reducible refine bset ?_ ?_ _; rotate_left; focus (first | assumption | omega | (simp; done) | (simp; omega))) | with_reducible refine bstep ?_ (by assumption) | assumption)); clear hb13) | (go_at_call 14; (with_reducible refine (kw _).mono ?_); rintro e w13 ⟨rfl, hb13⟩; have B11 : Cs w13 g11 #[.int .i64 c1, .int .i64 c2] := Cs.keep (by repeat (first | with_reducible assumption | (with_reducible refine Cs.new _ _ _ _ ?_; first | rfl | (simp; done)) | with_reducible refine Cs.alloc ?_ _ | with_reducible refine Cs.drewN ?_ _ | with_reducible refine Cs.drew ?_ | with_reducible refine Cs.set4 ?_ _ _ _ _ | (with_reducible refine Cs.other4 ?_ ?_ _ _ _ _; rotate_left; focus (first | assumption | omega | (simp; done) | (simp; omega))) | with_reducible refine Cs.set2 ?_ _ _ | (with_reducible refine Cs.other2 ?_ ?_ _ _; rotate_left; focus (first | assumption | omega | (simp; done) | (simp; omega))) | (with_reducible refine Cs.other ?_ ?_ _; rotate_left; focus (first | assumption | omega | (simp; done) | (simp; omega))) | with_reducible refine Cs.keep ?_ (by assumption) | assumption)) hb13; have B13 : Cs w13 (w1.heap.size) #[.int .i64 t1, .int .i64 t2] := Cs.keep (by repeat (first | with_reducible assumption | (with_reducible refine Cs.new _ _ _ _ ?_; first | rfl | (simp; done)) | with_reducible refine Cs.alloc ?_ _ | with_reducible refine Cs.drewN ?_ _ | with_reducible refine Cs.drew ?_ | with_reducible refine Cs.set4 ?_ _ _ _ _ | (with_reducible refine Cs.other4 ?_ ?_ _ _ _ _; rotate_left; focus (first | assumption | omega | (simp; done) | (simp; omega))) | with_reducible refine Cs.set2 ?_ _ _ | (with_reducible refine Cs.other2 ?_ ?_ _ _; rotate_left; focus (first | assumption | omega | (simp; done) | (simp; omega))) | (with_reducible refine Cs.other ?_ ?_ _; rotate_left; focus (first | assumption | omega | (simp; done) | (simp; omega))) | with_reducible refine Cs.keep ?_ (by assumption) | assumption)) hb13; have hbw : Below w.heap.size w w13 := (by repeat (first | with_reducible exact Below.refl _ _ | with_reducible assumption | with_reducible refine balloc ?_ _ | with_reducible refine bdrewN ?_ _ | with_reducible refine Below.drew ?_ | (with_reducible refine bset ?_ ?_ _; rotate_left; focus (first | assumption | omega | (simp; done) | (simp; omega))) | with_reducible refine bstep ?_ (by assumption) | assumption)); clear hb13))
                 all_goals (
                   go_wp2_with fail
                   go_ret
                   exact ⟨rfl, hbw⟩)
end Go.Proofs.Ytcmllkjgggcghaa
end

/- The walk of EyeTails. -/
section
namespace Go.Proofs.Ytcmllkjgggcghaa
open Go.RowKit Go.Shelf

theorem eyeTails_any (P R x0 x1 y0 y1 : Int) (w : World) (hP : 0 ≤ P ∧ P ≤ 255) (hR : 0 ≤ R ∧ R ≤ 255) (hx0 : 0 ≤ x0 ∧ x0 ≤ 255) (hx1 : 0 ≤ x1 ∧ x1 ≤ 255) (hy0 : 0 ≤ y0 ∧ y0 ≤ 255) (hy1 : 0 ≤ y1 ∧ y1 ≤ 255) :
    Calls Try.prog 6 #[.int .u8 P, .int .u8 R, .agg #[.int .u8 x0, .int .u8 x1], .agg #[.int .u8 y0, .int .u8 y1]] w fun e w' => e = .returned (.bool true) ∧ Below w.heap.size w w' :=
  eyeTails_walk works_any P R x0 x1 y0 y1 w hP hR hx0 hx1 hy0 hy1

end Go.Proofs.Ytcmllkjgggcghaa
end
