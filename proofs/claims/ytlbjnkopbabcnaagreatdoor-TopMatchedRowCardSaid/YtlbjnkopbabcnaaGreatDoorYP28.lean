/- PG3 -/
import Derived.Test.YtlbjnkopbabcnaaGreatDoorYP27
import Derived.Test.YtlbjnkopbabcnaaGreatDoorYP26
/- What the rounds of Parting keep. -/
section
namespace Go.Proofs.YtlbjnkopbabcnaaGreatDoor
open Go.RowKit Go.Shelf
set_option linter.unusedSimpArgs false
set_option linter.unusedVariables false

/-- what a round over the eye keeps -/
structure JP (w : World) (X n gl cL : Nat) (ls : List (Int × Int)) (rs : List (RowR (Int × Int))) (i : Nat) (v : Value) (te : List (RowR Int)) (W : World) : Prop where
  cx : Cs W X #[v, .slice (some ⟨gl, 0, none⟩) n cL]
  o : W.ownsRow (X + 1) 30 1 v i (te.map rrV)
  l : W.ownsRow w.heap.size 2 1 (.slice (some ⟨gl, 0, none⟩) n cL) n ((fstL ls).map (Value.int .i64))
  gx : gl < X
  n1 : te.length = i
  r : ∀ j, j < i → ∃ g c, rwI te j = ⟨some ⟨g, 0, none⟩, n, c, fstL (rwP rs j).zs⟩ ∧ W.ownsRow (X + 1) 2 1 (.slice (some ⟨g, 0, none⟩) n c) n ((fstL (rwP rs j).zs).map (Value.int .i64)) ∧ v.ownBlock ≠ some g
  d : ∀ j k, j < i → k < i → (rwI te j).A = (rwI te k).A → j = k
  s : X + 1 ≤ W.heap.size
  xw : w.heap.size ≤ X
  b : Below w.heap.size w W
/-- a truth that blocks from B on alone bear -/
def TruF (B : Nat) (W : World) (AE AL : Option Addr) (n : Nat) (tl : List Int) (te : List (RowR Int)) : Prop :=
  ∀ U : World, W.heap.size ≤ U.heap.size → (∀ k, B ≤ k → k < W.heap.size → U.heap[k]? = W.heap[k]?) → Tru U AE AL n tl te
theorem TruF.tru {B : Nat} {W : World} {AE AL : Option Addr} {n : Nat} {tl : List Int} {te : List (RowR Int)} (h : TruF B W AE AL n tl te) : Tru W AE AL n tl te := h W (Nat.le_refl _) (fun _ _ _ => rfl)
theorem TruF.below {B : Nat} {W W' : World} {AE AL : Option Addr} {n : Nat} {tl : List Int} {te : List (RowR Int)} (h : TruF B W AE AL n tl te) (hb : Below W.heap.size W W') : TruF B W' AE AL n tl te :=
  fun U hs hU => h U (Nat.le_trans hb.size hs) (fun k h1 h2 => (hU k h1 (Nat.lt_of_lt_of_le h2 hb.size)).trans (hb.block k h2))
/-- a cell of a lower block is turned -/
theorem TruF.low {B : Nat} {W : World} {AE AL : Option Addr} {n : Nat} {tl : List Int} {te : List (RowR Int)} (h : TruF B W AE AL n tl te) {p : Addr} (hp : p.block < B) (u : Value) : TruF B (W.setCell p u) AE AL n tl te :=
  fun U hs hU => h U (by simpa [World.setCell] using hs) (fun k h1 h2 => (hU k h1 (by simpa [World.setCell] using h2)).trans (Below.heap_setCell W p u k (by omega)))
section
variable {w : World} {X n gl cL : Nat} {ls : List (Int × Int)} {rs : List (RowR (Int × Int))} {i : Nat} {v : Value} {te : List (RowR Int)} {W : World}
theorem JP.keep {W' : World} (h : JP w X n gl cL ls rs i v te W) (hb : Below W.heap.size W W') : JP w X n gl cL ls rs i v te W' :=
  ⟨h.cx.keep hb, own_keep h.o hb, own_keep h.l hb, h.gx, h.n1, fun j hj => by obtain ⟨g, c, q1, q2, q3⟩ := h.r j hj; exact ⟨g, c, q1, own_keep q2 hb, q3⟩, h.d, Nat.le_trans h.s hb.size, h.xw, h.b.trans (hb.mono h.b.size)⟩
theorem rwI_app {te : List (RowR Int)} {r : RowR Int} {j : Nat} (hj : j < te.length) : rwI (te ++ [r]) j = rwI te j := by
  unfold rwI; simp [List.getD_eq_getElem?_getD, List.getElem?_append_left hj]
theorem rwI_last {te : List (RowR Int)} {r : RowR Int} : rwI (te ++ [r]) te.length = r := by
  unfold rwI; simp [List.getD_eq_getElem?_getD]
theorem own_lt {w : World} {B n g c : Nat} {e : TypeId} {s : Nat} {xs : List Value} (h : w.ownsRow B e s (.slice (some ⟨g, 0, none⟩) n c) n xs) : B ≤ g ∧ g < w.heap.size := h.lt g rfl
theorem ints_own {w : World} {B g n c : Nat} {zs : List Int} (h : w.ownsRow B 2 1 (.slice (some ⟨g, 0, none⟩) n c) n (zs.map (Value.int .i64))) : Ints w (some ⟨g, 0, none⟩) n zs := by
  obtain ⟨A, c', e, q, -⟩ := own_ints (by have := h.1; simpa using this) h
  injection e with e1 e2 e3
  subst e1
  exact q
theorem JP.next {W7 : World} (h : JP w X n gl cL ls rs i v te W) {gr cr : Nat}
    (hr : W.ownsRow (X + 1) 2 1 (.slice (some ⟨gr, 0, none⟩) n cr) n ((fstL (rwP rs i).zs).map (Value.int .i64))) (hne : v.ownBlock ≠ some gr) (hnd : ∀ j, j < i → (rwI te j).A ≠ some ⟨gr, 0, none⟩)
    {g7 c7 : Nat} (ho : W7.ownsRow (X + 1) 30 1 (.slice (some ⟨g7, 0, none⟩) (i + 1) c7) (i + 1) (te.map rrV ++ [.slice (some ⟨gr, 0, none⟩) n cr])) (hg : W.grownBy W7 v.ownBlock) (hw : v.ownBlock = some g7 ∨ W.heap.size ≤ g7) :
    Cs W7 X #[v, .slice (some ⟨gl, 0, none⟩) n cL] ∧
    JP w X n gl cL ls rs (i + 1) (.slice (some ⟨g7, 0, none⟩) (i + 1) c7) (te ++ [⟨some ⟨gr, 0, none⟩, n, cr, fstL (rwP rs i).zs⟩]) (W7.setCell ⟨X, 0, none⟩ (.slice (some ⟨g7, 0, none⟩) (i + 1) c7)) := by
  have hov := h.o.lt
  have hb7 : Below (X + 1) W W7 := below_grewB hg (fun g e => (hov g e).1) h.s
  have D := h.cx.keepB (by omega) hb7
  have hsz : (W7.setCell ⟨X, 0, none⟩ (.slice (some ⟨g7, 0, none⟩) (i + 1) c7)).heap.size = W7.heap.size := by simp [World.setCell]
  have key : ∀ g, v.ownBlock ≠ some g → g < W.heap.size → g7 ≠ g := fun g h1 h2 e => by
    rcases hw with h3 | h3
    · exact h1 (by rw [h3, e])
    · omega
  have hl := h.n1
  have put : ∀ {g c : Nat} {zs : List Int}, W.ownsRow (X + 1) 2 1 (.slice (some ⟨g, 0, none⟩) n c) n (zs.map (Value.int .i64)) → v.ownBlock ≠ some g →
      (W7.setCell ⟨X, 0, none⟩ (.slice (some ⟨g7, 0, none⟩) (i + 1) c7)).ownsRow (X + 1) 2 1 (.slice (some ⟨g, 0, none⟩) n c) n (zs.map (Value.int .i64)) ∧ (Value.slice (some ⟨g7, 0, none⟩) (i + 1) c7).ownBlock ≠ some g := fun hz h1 => by
    have h2 := own_lt hz
    refine ⟨own_set (hz.kept hg (.inr (fun e => h1 e.symm))) (p := ⟨X, 0, none⟩) (by show X < X + 1; omega) _, ?_⟩
    simp only [Value.ownBlock]
    intro e; injection e with e
    exact key _ h1 h2.2 e
  refine ⟨D, D.set 0 _ (by simp), own_set (by simpa [rrV] using ho) (p := ⟨X, 0, none⟩) (by show X < X + 1; omega) _, ?_, h.gx, by simp [hl], fun j hj => ?_, fun j k hj hk e => ?_, by rw [hsz]; exact Nat.le_trans h.s hg.size, h.xw, ?_⟩
  · have hgl := own_lt h.l
    have hgx := h.gx
    refine ownsRow_setCell_other (h.l.kept hg ?_) (a := ⟨X, 0, none⟩) ?_ _
    · refine .inr fun e => ?_
      have := (hov gl e.symm).1
      omega
    · simp only [Value.ownBlock]
      intro e; injection e with e
      have : gl = X := e
      omega
  · by_cases e : j < i
    · obtain ⟨g, c, q1, q2, q3⟩ := h.r j e
      obtain ⟨p1, p2⟩ := put q2 q3
      exact ⟨g, c, by rw [rwI_app (by omega)]; exact q1, p1, p2⟩
    · have e : j = te.length := by omega
      obtain ⟨p1, p2⟩ := put hr hne
      subst e
      subst hl
      exact ⟨gr, cr, rwI_last, p1, p2⟩
  · by_cases e1 : j < i
    · rw [rwI_app (by omega)] at e
      by_cases e2 : k < i
      · rw [rwI_app (by omega)] at e
        exact h.d j k e1 e2 e
      · have : k = te.length := by omega
        subst this
        rw [rwI_last] at e
        exact absurd e (hnd j e1)
    · have : j = te.length := by omega
      subst this
      rw [rwI_last] at e
      by_cases e2 : k < i
      · rw [rwI_app (by omega)] at e
        exact absurd e.symm (hnd k e2)
      · omega
  · exact bset (h.b.trans (hb7.mono (by have := h.xw; omega))) (p := ⟨X, 0, none⟩) (by show w.heap.size ≤ X; exact h.xw) _
/-- two cells of another block are turned -/
theorem own_two {w : World} {B n : Nat} {e : TypeId} {s : Nat} {v : Value} {xs : List Value} (h : w.ownsRow B e s v n xs) {q : Nat} (hq : v.ownBlock ≠ some q) (u0 u1 : Value) : ((w.setCell ⟨q, 0, none⟩ u0).setCell ⟨q, 1, none⟩ u1).ownsRow B e s v n xs :=
  ownsRow_setCell_other (ownsRow_setCell_other h (a := ⟨q, 0, none⟩) hq u0) (a := ⟨q, 1, none⟩) hq u1
/-- all rows, as they read -/
theorem JP.rows (h : JP w X n gl cL ls rs i v te W) (hn : n ≤ 8) : ∃ A c, v = .slice A i c ∧ RowsI W A i te := by
  obtain ⟨A, c, e, q, -⟩ := own_rows (Q := Ints) h.n1 h.o (fun r hr => by
    obtain ⟨j, hj, rfl⟩ := List.mem_iff_getElem.1 hr
    obtain ⟨g, c, q1, q2, -⟩ := h.r j (by have := h.n1; omega)
    unfold rwI at q1
    rw [List.getD_eq_getElem?_getD, List.getElem?_eq_getElem hj] at q1
    simp only [Option.getD_some] at q1
    rw [q1]
    exact ⟨ints_own q2, by show n ≤ _; omega⟩)
  exact ⟨A, c, e, q⟩
theorem truF_own {W : World} {B B1 B2 n gl cL : Nat} {v : Value} {te : List (RowR Int)} {tl : List Int} (hn : n ≤ 8) (o : W.ownsRow B1 30 1 v 3 (te.map rrV)) (h1 : B ≤ B1) (l : W.ownsRow B2 2 1 (.slice (some ⟨gl, 0, none⟩) n cL) n (tl.map (Value.int .i64))) (h2 : B ≤ B2) (hl : te.length = 3)
    (r : ∀ j, j < 3 → ∃ g c zs, rwI te j = ⟨some ⟨g, 0, none⟩, n, c, zs⟩ ∧ W.ownsRow B1 2 1 (.slice (some ⟨g, 0, none⟩) n c) n (zs.map (Value.int .i64))) :
    ∃ A c, v = .slice A 3 c ∧ TruF B W A (some ⟨gl, 0, none⟩) n tl te := by
  have keyU : ∀ U : World, W.heap.size ≤ U.heap.size → (∀ k, B ≤ k → k < W.heap.size → U.heap[k]? = W.heap[k]?) → ∃ A c, v = .slice A 3 c ∧ Tru U A (some ⟨gl, 0, none⟩) n tl te := fun U hs hU => by
    have kp : ∀ {B9 n9 : Nat} {e9 : TypeId} {v9 : Value} {xs : List Value}, B ≤ B9 → W.ownsRow B9 e9 1 v9 n9 xs → U.ownsRow B9 e9 1 v9 n9 xs := fun hb h => own_other h fun g e => hU g (Nat.le_trans hb (h.lt g e).1) (h.lt g e).2
    obtain ⟨A, c, e, p, -⟩ := own_rows (Q := Ints) hl (kp h1 o) (fun r9 hr => by
      obtain ⟨j, hj, rfl⟩ := List.mem_iff_getElem.1 hr
      obtain ⟨g, c, zs, q1, q2⟩ := r j (by omega)
      unfold rwI at q1
      rw [List.getD_eq_getElem?_getD, List.getElem?_eq_getElem hj] at q1
      simp only [Option.getD_some] at q1
      rw [q1]
      exact ⟨ints_own (kp h1 q2), by show n ≤ _; omega⟩)
    exact ⟨A, c, e, p, ints_own (kp h2 l)⟩
  obtain ⟨A, c, e, -⟩ := keyU W (Nat.le_refl _) (fun _ _ _ => rfl)
  refine ⟨A, c, e, fun U hs hU => ?_⟩
  obtain ⟨A', c', e', h⟩ := keyU U hs hU
  rw [e] at e'
  injection e' with e1
  subst e1
  exact h
/-- nothing is to be turned; the result is stored -/
theorem JP.tru (h : JP w X n gl cL ls rs 3 v te W) (hn : n ≤ 8) {q : Nat} (hq : q < gl) (hqw : w.heap.size ≤ q) (u0 u1 : Value) :
    ∃ A c, v = .slice A 3 c ∧ TruF w.heap.size ((W.setCell ⟨q, 0, none⟩ u0).setCell ⟨q, 1, none⟩ u1) A (some ⟨gl, 0, none⟩) n (fstL ls) te ∧ Below w.heap.size w ((W.setCell ⟨q, 0, none⟩ u0).setCell ⟨q, 1, none⟩ u1) := by
  have hgx := h.gx
  have hxw := h.xw
  obtain ⟨A, c, e, p⟩ := truF_own (B := w.heap.size) hn (own_two h.o (q := q) (fun e => by have := (h.o.lt _ e).1; omega) u0 u1) (by omega) (own_two h.l (q := q) (by simp only [Value.ownBlock]; intro e; injection e with e; have : gl = q := e; omega) u0 u1) (Nat.le_refl _) h.n1 (fun j hj => by
    obtain ⟨g, c, q1, q2, -⟩ := h.r j hj
    exact ⟨g, c, _, q1, own_two q2 (q := q) (fun e => by have := (q2.lt _ e).1; omega) u0 u1⟩)
  exact ⟨A, c, e, p, bset (bset h.b (p := ⟨q, 0, none⟩) hqw _) (p := ⟨q, 1, none⟩) hqw _⟩
theorem JP.plain (h : JP w X n gl cL ls rs 3 v te W) (hll : ls.length = n) (hlr : ∀ j, j < 3 → (rwP rs j).zs.length = n) : PtT n ls rs (-1, -1) (fstL ls) te := by
  refine ⟨h.n1, fun j hj => ?_, fun b hb => ?_, fun j b hj hb => ?_⟩
  · obtain ⟨g, c, q1, -⟩ := h.r j hj
    rw [q1]
  · rw [if_neg (by simp), fstL_get (by omega)]
  · obtain ⟨g, c, q1, -⟩ := h.r j hj
    rw [q1, if_neg (by simp), fstL_get (by rw [hlr j hj]; exact hb)]
    rfl
/-- a list with one number turned -/
theorem set_getD {l : List Int} {k : Nat} {x : Int} (hk : k < l.length) (b : Nat) : (l.set k x).getD b 0 = if b = k then x else l.getD b 0 := by
  rw [List.getD_eq_getElem?_getD, List.getD_eq_getElem?_getD, List.getElem?_set]
  by_cases e : k = b
  · subst e; rw [if_pos rfl, if_pos hk, if_pos rfl]; rfl
  · rw [if_neg e, if_neg (fun q => e q.symm)]
/-- two numbers are turned -/
theorem JP.put (h : JP w X n gl cL ls rs 3 v te W) (hn : n ≤ 8) (hll : ls.length = n) (hlr : ∀ j, j < 3 → (rwP rs j).zs.length = n) {k b g cr : Nat} (hk : k < 3) (hb : b < n) (hg : rwI te k = ⟨some ⟨g, 0, none⟩, n, cr, fstL (rwP rs k).zs⟩) {q : Nat} (hq : q < gl) (hqw : w.heap.size ≤ q) (u0 u1 : Value) :
    ∃ A c te', v = .slice A 3 c ∧
      Cs ((W.setCell ⟨gl, b, none⟩ (.int .i64 (rgA ls b).2)).setCell ⟨g, b, none⟩ (.int .i64 (egA rs k b).2)) X #[v, .slice (some ⟨gl, 0, none⟩) n cL] ∧
      TruF w.heap.size ((((W.setCell ⟨gl, b, none⟩ (.int .i64 (rgA ls b).2)).setCell ⟨g, b, none⟩ (.int .i64 (egA rs k b).2)).setCell ⟨q, 0, none⟩ u0).setCell ⟨q, 1, none⟩ u1) A (some ⟨gl, 0, none⟩) n ((fstL ls).set b (rgA ls b).2) te' ∧
      PtT n ls rs ((k : Nat), (b : Nat)) ((fstL ls).set b (rgA ls b).2) te' ∧
      Below w.heap.size w ((((W.setCell ⟨gl, b, none⟩ (.int .i64 (rgA ls b).2)).setCell ⟨g, b, none⟩ (.int .i64 (egA rs k b).2)).setCell ⟨q, 0, none⟩ u0).setCell ⟨q, 1, none⟩ u1) := by
  have hl3 := h.n1
  have hgx := h.gx
  have hgl := own_lt h.l
  obtain ⟨g0, c0, q0, r0, n0⟩ := h.r k hk
  rw [hg] at q0
  injection q0 with e1 _ e2 _
  injection e1 with e1
  injection e1 with e1
  subst e1 e2
  have hgk := own_lt r0
  obtain ⟨l1, -⟩ := h.l.stored b (.int .i64 (rgA ls b).2)
  have hX : (W.setCell ⟨gl, b, none⟩ (.int .i64 (rgA ls b).2)).heap.size = W.heap.size := by simp [World.setCell]
  have ne1 : gl ≠ X := by omega
  have ne2 : g ≠ X := by omega
  have ne3 : gl ≠ g := by omega
  -- the rows behind both
  obtain ⟨r1, -⟩ := (ownsRow_setCell_other r0 (a := ⟨gl, b, none⟩) (by simp only [Value.ownBlock]; intro e; injection e with e; exact ne3 e.symm) (.int .i64 (rgA ls b).2)).stored b (.int .i64 (egA rs k b).2)
  have l2 := ownsRow_setCell_other l1 (a := ⟨g, b, none⟩) (by simp only [Value.ownBlock]; intro e; injection e with e; exact ne3 e) (.int .i64 (egA rs k b).2)
  have o2 := ownsRow_setCell_other (ownsRow_setCell_other h.o (a := ⟨gl, b, none⟩) (fun e => by have := (h.o.lt _ e).1; show False; have h3 : X + 1 ≤ gl := this; omega) (.int .i64 (rgA ls b).2)) (a := ⟨g, b, none⟩) n0 (.int .i64 (egA rs k b).2)
  have r1 := own_two r1 (q := q) (by simp only [Value.ownBlock]; intro e; injection e with e; have : g = q := e; omega) u0 u1
  have l2 := own_two l2 (q := q) (by simp only [Value.ownBlock]; intro e; injection e with e; have : gl = q := e; omega) u0 u1
  have o2 := own_two o2 (q := q) (fun e => by have := (h.o.lt _ e).1; omega) u0 u1
  have cx2 := (h.cx.other (p := ⟨gl, b, none⟩) (by show X ≠ gl; omega) (.int .i64 (rgA ls b).2)).other (p := ⟨g, b, none⟩) (by show X ≠ g; omega) (.int .i64 (egA rs k b).2)
  have rj : ∀ j, j < 3 → j ≠ k → ∃ g' c', rwI te j = ⟨some ⟨g', 0, none⟩, n, c', fstL (rwP rs j).zs⟩ ∧ ((((W.setCell ⟨gl, b, none⟩ (.int .i64 (rgA ls b).2)).setCell ⟨g, b, none⟩ (.int .i64 (egA rs k b).2)).setCell ⟨q, 0, none⟩ u0).setCell ⟨q, 1, none⟩ u1).ownsRow (X + 1) 2 1 (.slice (some ⟨g', 0, none⟩) n c') n ((fstL (rwP rs j).zs).map (Value.int .i64)) := fun j hj hjk => by
    obtain ⟨g', c', q1, q2, q3⟩ := h.r j hj
    have hg' := own_lt q2
    refine ⟨g', c', q1, own_two (ownsRow_setCell_other (ownsRow_setCell_other q2 (a := ⟨gl, b, none⟩) ?_ _) (a := ⟨g, b, none⟩) ?_ _) (fun e => by have := (q2.lt _ e).1; omega) _ _⟩
    · simp only [Value.ownBlock]; intro e; injection e with e; have : g' = gl := e; omega
    · simp only [Value.ownBlock]; intro e; injection e with e
      have e : g' = g := e
      exact hjk (h.d j k hj hk (by rw [q1, hg, e]))
  rw [← List.map_set] at r1 l2
  obtain ⟨te', ht'⟩ : ∃ te', te.set k ⟨some ⟨g, 0, none⟩, n, cr, (fstL (rwP rs k).zs).set b (egA rs k b).2⟩ = te' := ⟨_, rfl⟩
  have hte : ∀ j, rwI te' j = if j = k then ⟨some ⟨g, 0, none⟩, n, cr, (fstL (rwP rs k).zs).set b (egA rs k b).2⟩ else rwI te j := fun j => by
    rw [← ht']
    unfold rwI
    rw [List.getD_eq_getElem?_getD, List.getD_eq_getElem?_getD, List.getElem?_set]
    by_cases e : k = j
    · subst e; rw [if_pos rfl, if_pos (by omega), if_pos rfl]; rfl
    · rw [if_neg e, if_neg (fun q => e q.symm)]
  have hmap : te.map rrV = te'.map rrV := by
    rw [← ht', List.map_set]
    have : rrV (⟨some ⟨g, 0, none⟩, n, cr, (fstL (rwP rs k).zs).set b (egA rs k b).2⟩ : RowR Int) = (te.map rrV)[k]'(by simp; omega) := by
      unfold rwI at hg
      rw [List.getD_eq_getElem?_getD, List.getElem?_eq_getElem (by omega)] at hg
      simp only [Option.getD_some] at hg
      rw [List.getElem_map, hg]
      rfl
    rw [this, List.set_getElem_self]
  rw [hmap] at o2
  have hl' : te'.length = 3 := by rw [← ht']; simpa using hl3
  have hxw := h.xw
  obtain ⟨A, c, e, qq⟩ := truF_own (B := w.heap.size) hn o2 (by omega) l2 (Nat.le_refl _) hl' (fun j hj => by
    rw [hte j]
    by_cases e : j = k
    · rw [if_pos e]; exact ⟨g, cr, _, rfl, r1⟩
    · rw [if_neg e]
      obtain ⟨g', c', q1, q2⟩ := rj j hj e
      exact ⟨g', c', _, q1, q2⟩)
  have hlf : (fstL ls).length = n := by unfold fstL; simpa using hll
  refine ⟨A, c, te', e, cx2, qq, ⟨hl', fun j hj => ?_, fun b' hb' => ?_, fun j b' hj hb' => ?_⟩, ?_⟩
  · rw [hte j]
    by_cases e : j = k
    · rw [if_pos e]
    · rw [if_neg e]
      obtain ⟨g', c', q1, -⟩ := h.r j hj
      rw [q1]
  · rw [set_getD (by omega) b', fstL_get (by omega)]
    by_cases e : b' = b
    · subst e; simp
    · rw [if_neg e, if_neg (by show ¬ ((b' : Nat) : Int) = (b : Int); omega)]
  · rw [hte j]
    by_cases e : j = k
    · subst e
      rw [if_pos rfl]
      have hlk : (fstL (rwP rs j).zs).length = n := by unfold fstL; simpa using hlr j hj
      show ((fstL (rwP rs j).zs).set b (egA rs j b).2).getD b' 0 = _
      rw [set_getD (by omega) b', fstL_get (by rw [hlr j hj]; exact hb')]
      by_cases e : b' = b
      · subst e; simp
      · rw [if_neg e, if_neg (by intro q; have := q.2; simp only at this; omega)]; rfl
    · obtain ⟨g', c', q1, -⟩ := h.r j hj
      rw [if_neg e, q1, if_neg (by intro q; have := q.1; simp only at this; omega), fstL_get (by rw [hlr j hj]; exact hb')]
      rfl
  · exact bset (bset (bset (bset h.b (p := ⟨gl, b, none⟩) hgl.1 _) (p := ⟨g, b, none⟩) (by show w.heap.size ≤ g; have := h.xw; omega) _) (p := ⟨q, 0, none⟩) hqw _) (p := ⟨q, 1, none⟩) hqw _
end
end Go.Proofs.YtlbjnkopbabcnaaGreatDoor
end
