/- BM2 BM3 BA4 BA5 BB1 BR1 BR2 BL1 BR3 BR4 BR5 BR6 BA6 BR7 BA7 BA8 BR8 BA9 BA10 BA11 EN1 EN2 EN3 BR9 BR10 BM5 BC1 -/
import Derived.Test.YtminplfgadhnnaaGreatDoorSC03
import Derived.Laws.OwnMore
import Derived.OwnWalk
import Derived.Laws.CopyOwn
import Derived.Laws.Rows
import Derived.Deep.OwnRows
import Derived.Deep.WholeRow
import Derived.WideShapes
import Derived.Laws.AppendOwn
import Derived.Deep.AppendLies
import Derived.Lib.SliceRun
import Derived.Deep.RegionHeld3
import Derived.Test.YtminplfgadhnnaaGreatDoorSC01
import Derived.Deep.DeepCutAuto
import Derived.Laws.BitsAllLaws
import Derived.StillTailTactics
/- Plain laws of programmes: rows put in order, pairs that never exchange lamps, rounds. -/
section
set_option linter.unusedSimpArgs false
set_option linter.unusedVariables false
namespace Bm

/-- where the greatest of the first numbers is -/
def mxAt (l : List Int) : Nat → Nat
  | 0 => 0
  | i + 1 => if l.getD (mxAt l i) 0 < l.getD (i + 1) 0 then i + 1 else mxAt l i
theorem mxAt_le (l : List Int) : ∀ i, mxAt l i ≤ i
  | 0 => Nat.le_refl _
  | i + 1 => by have := mxAt_le l i; rw [mxAt]; split <;> omega
theorem mxAt_max (l : List Int) : ∀ i j, j ≤ i → l.getD j 0 ≤ l.getD (mxAt l i) 0
  | 0, j, h => by obtain rfl : j = 0 := by omega
                  exact Int.le_refl _
  | i + 1, j, h => by
    rw [mxAt]
    by_cases hj : j = i + 1
    · subst hj; split <;> omega
    · have := mxAt_max l i j (by omega)
      split <;> omega
/-- the greatest that is left, again and again -/
def srt : Nat → List Int → List Int
  | 0, _ => []
  | k + 1, l => if l = [] then [] else l.getD (mxAt l (l.length - 1)) 0 :: srt k (l.eraseIdx (mxAt l (l.length - 1)))
def srtL (l : List Int) : List Int := srt l.length l
theorem erase_perm {l : List Int} {i : Nat} (hi : i < l.length) : (l[i] :: l.eraseIdx i).Perm l := by
  rw [List.eraseIdx_eq_take_drop_succ]
  have h1 : (l.take i ++ l[i] :: l.drop (i + 1)) = l := by
    rw [← List.drop_eq_getElem_cons hi, List.take_append_drop]
  conv => rhs; rw [← h1]
  exact List.perm_middle.symm
theorem srt_perm : ∀ (k : Nat) (l : List Int), l.length ≤ k → (srt k l).Perm l
  | 0, l, h => by obtain rfl : l = [] := List.length_eq_zero_iff.1 (by omega)
                  exact List.Perm.nil
  | k + 1, l, h => by
    rw [srt]
    by_cases h0 : l = []
    · rw [if_pos h0, h0]
    · rw [if_neg h0]
      have hl : 0 < l.length := List.length_pos_iff.2 h0
      have hm : mxAt l (l.length - 1) < l.length := by have := mxAt_le l (l.length - 1); omega
      have ih := srt_perm k (l.eraseIdx (mxAt l (l.length - 1))) (by rw [List.length_eraseIdx_of_lt hm]; omega)
      rw [List.getD_eq_getElem?_getD, List.getElem?_eq_getElem hm, Option.getD_some]
      exact (List.Perm.cons _ ih).trans (erase_perm hm)
def Dec (l : List Int) : Prop := l.Pairwise (fun a b => b ≤ a)
theorem srt_dec : ∀ (k : Nat) (l : List Int), l.length ≤ k → Dec (srt k l)
  | 0, l, h => List.Pairwise.nil
  | k + 1, l, h => by
    rw [srt]
    by_cases h0 : l = []
    · rw [if_pos h0]; exact List.Pairwise.nil
    · rw [if_neg h0]
      have hl : 0 < l.length := List.length_pos_iff.2 h0
      have hm : mxAt l (l.length - 1) < l.length := by have := mxAt_le l (l.length - 1); omega
      have hk : (l.eraseIdx (mxAt l (l.length - 1))).length ≤ k := by rw [List.length_eraseIdx_of_lt hm]; omega
      refine List.Pairwise.cons (fun y hy => ?_) (srt_dec k _ hk)
      have hy2 : y ∈ l := List.mem_of_mem_eraseIdx ((srt_perm k _ hk).mem_iff.1 hy)
      obtain ⟨j, hj, rfl⟩ := List.mem_iff_getElem.1 hy2
      have := mxAt_max l (l.length - 1) j (by omega)
      rw [List.getD_eq_getElem?_getD, List.getElem?_eq_getElem hj, Option.getD_some] at this
      exact this
theorem srtL_perm (l : List Int) : (srtL l).Perm l := srt_perm _ _ (Nat.le_refl _)
theorem srtL_dec (l : List Int) : Dec (srtL l) := srt_dec _ _ (Nat.le_refl _)
theorem dec_uniq {l m : List Int} (hl : Dec l) (hm : Dec m) (h : l.Perm m) : l = m :=
  List.Perm.eq_of_pairwise (le := fun a b => b ≤ a) (fun a b _ _ h1 h2 => Int.le_antisymm h2 h1) hl hm h
theorem srtL_eq {l m : List Int} (hl : Dec l) (h : l.Perm m) : l = srtL m := dec_uniq hl (srtL_dec m) (h.trans (srtL_perm m).symm)
theorem ordB_dec {l : List Int} : ordB l = true ↔ Dec l := by
  constructor
  · intro h
    refine List.pairwise_iff_getElem.2 fun i j hi hj hij => ?_
    have := ordB_le h i j (by omega) hj
    rw [List.getD_eq_getElem?_getD, List.getElem?_eq_getElem hj, List.getD_eq_getElem?_getD, List.getElem?_eq_getElem hi] at this
    exact this
  · intro h
    refine ordB_iff.2 fun i hi => ?_
    have := List.pairwise_iff_getElem.1 h i (i + 1) (by omega) hi (by omega)
    rw [List.getD_eq_getElem?_getD, List.getElem?_eq_getElem hi, List.getD_eq_getElem?_getD, List.getElem?_eq_getElem (by omega)]
    exact this
/-- a pair exchanges lamps of some row, behind others -/
def exch (pre : List Pr) (x : Pr) (n k : Nat) : Bool := runB pre (tab n k) x.2 && !runB pre (tab n k) x.1
def usd (n : Nat) (pre : List Pr) (x : Pr) : Bool := (List.range (2 ^ n)).any (exch pre x n)
/-- each pair's number, and whether it exchanges any lamps -/
def stp (n : Nat) : List Pr → Nat → List Pr → List (Nat × Bool)
  | _, _, [] => []
  | pre, i, x :: p => (i, usd n pre x) :: stp n (pre ++ [x]) (i + 1) p
/-- the useless ones' numbers -/
def uslL (n : Nat) (pre : List Pr) (i : Nat) (p : List Pr) : List Nat := ((stp n pre i p).filter fun y => !y.2).map Prod.fst
/-- the programme without them -/
def trmL (n : Nat) : List Pr → List Pr → List Pr
  | _, [] => []
  | pre, x :: p => if usd n pre x then x :: trmL n (pre ++ [x]) p else trmL n (pre ++ [x]) p

/-- the last round of each place, and the greatest one -/
def dStep (s : (Nat → Nat) × Nat) (x : Pr) : (Nat → Nat) × Nat :=
  ((fun i => if i = x.1 ∨ i = x.2 then max (s.1 x.1) (s.1 x.2) + 1 else s.1 i), max s.2 (max (s.1 x.1) (s.1 x.2) + 1))
def depS (p : List Pr) : (Nat → Nat) × Nat := p.foldl dStep (fun _ => 0, 0)
def depL (p : List Pr) : Nat := (depS p).2
/-- the round of each pair -/
def rndL (p : List Pr) : List Nat := (List.range p.length).map fun k => max ((depS (p.take k)).1 (p.getD k (0, 0)).1) ((depS (p.take k)).1 (p.getD k (0, 0)).2) + 1
/-- two pairs have a place in common -/
def shr (y x : Pr) : Bool := decide (y.1 = x.1) || decide (y.1 = x.2) || decide (y.2 = x.1) || decide (y.2 = x.2)
/-- a round, as the reference finds it -/
def rin (p : List Pr) (x : Pr) : Nat → Nat
  | 0 => 1
  | k + 1 => if shr (p.getD k (0, 0)) x then max (rin p x k) ((rndL p).getD k 0 + 1) else rin p x k
end Bm
end

/- Plain laws of the programme that is built: it puts all rows in order. -/
section
set_option linter.unusedSimpArgs false
set_option linter.unusedVariables false
namespace Bm

/-- the pairs of places that are so far apart -/
def innB (n part rest apart : Nat) : List Pr := ((List.range (n - apart)).filter fun i => Nat.beq (i &&& part) rest).map fun i => (i, i + apart)
def midB : Nat → Nat → Nat → Nat → Nat → Nat → List Pr
  | 0, _, _, _, _, _ => []
  | k + 1, n, part, far, rest, apart => innB n part rest apart ++ (if far = part then [] else midB k n part (far / 2) part (far - part))
def outB : Nat → Nat → Nat → Nat → List Pr
  | 0, _, _, _ => []
  | k + 1, n, top, part => if part = 0 then [] else midB 9 n part top 0 part ++ outB k n top (part / 2)
def topB (n : Nat) : Nat := if n ≤ 2 then 1 else if n ≤ 4 then 2 else if n ≤ 8 then 4 else 8
def buildL (n : Nat) : List Pr := outB 9 n (topB n) (topB n)

end Bm
end

/- Walks of package bench: Run; the reference's run. -/
section
namespace Go.Proofs.YtminplfgadhnnaaGreatDoor
open Go.RowKit Go.Shelf
set_option linter.unusedSimpArgs false
set_option linter.unusedVariables false
open Bm (Pr cex runL OkP)

/-- pairs of places as pairs of numbers -/
def cst (p : List Pr) : List (Int × Int) := p.map fun x => ((x.1 : Int), (x.2 : Int))
/-- a row of numbers, in a block of its own -/
def Rw (w : World) (g : Nat) (zs : List Int) : Prop := ∃ t, w.heap[g]? = some (.cells (zs.map (Value.int .i64)).toArray t (0, 0))
section
variable {w w' : World} {g k : Nat} {zs : List Int}
theorem Rw.lt (h : Rw w g zs) : g < w.heap.size := by obtain ⟨t, h⟩ := h; exact (Array.getElem?_eq_some_iff.1 h).1
theorem Rw.cell (h : Rw w g zs) (hk : k < zs.length) : w.cell? ⟨g, k, none⟩ = some (.int .i64 (zs.getD k 0)) := by
  obtain ⟨t, h⟩ := h
  rw [cell_of_row w g k _ t _ h]
  simp [hk]
theorem Rw.frozen (h : Rw w g zs) (k : Nat) : w.frozen? ⟨g, k, none⟩ = false := by
  obtain ⟨t, h⟩ := h
  exact frozen_of_row w g k _ t h
theorem Rw.set (h : Rw w g zs) (k : Nat) (v : Int) : Rw (w.setCell ⟨g, k, none⟩ (.int .i64 v)) g (zs.set k v) := by
  obtain ⟨t, h⟩ := h
  refine ⟨t, ?_⟩
  rw [heap_setCell_same w g k _ t _ h, List.setIfInBounds_toArray, List.map_set]
theorem Rw.other (h : Rw w g zs) {p : Addr} (hp : g ≠ p.block) (v : Value) : Rw (w.setCell p v) g zs := by
  obtain ⟨t, h⟩ := h
  exact ⟨t, (heap_setCell_other w p g v hp).trans h⟩
theorem Rw.below (h : Rw w g zs) (hb : Below w.heap.size w w') : Rw w' g zs := by
  have hl := h.lt
  obtain ⟨t, h⟩ := h
  exact ⟨t, (hb.block g hl).trans h⟩
theorem Rw.alloc (h : Rw w g zs) (o : Obj) : Rw (w.alloc o) g zs := h.below (balloc (Below.refl _ _) o)
theorem Rw.drewN (h : Rw w g zs) (n : Nat) : Rw (w.drewN n) g zs := h
theorem Rw.drew (h : Rw w g zs) : Rw w.drew g zs := h
theorem Rw.ints (h : Rw w g zs) {n : Nat} (hn : zs.length = n) : Ints w (some ⟨g, 0, none⟩) n zs :=
  ⟨hn, fun _ => ⟨g, 0, rfl, h.lt, fun i hi => by rw [Nat.zero_add]; exact h.cell (by omega)⟩⟩
end

theorem int64R_info : (Tryz.prog.info? 2).map (fun i => (i.zero, i.size, i.bytes)) = some (some (.int .i64 0), 1, 8) := by kernel_rfl
theorem info3R {T : TypeId} {z : Value} {s b : Nat} (h : (Tryz.prog.info? T).map (fun i => (i.zero, i.size, i.bytes)) = some (some z, s, b)) : ∃ i, Tryz.prog.info? T = some i ∧ i.zero = some z ∧ i.size = s ∧ i.bytes = b := by
  obtain ⟨i, hi, hzz⟩ := Option.map_eq_some_iff.1 h
  simp only [Prod.mk.injEq] at hzz
  exact ⟨i, hi, hzz.1, hzz.2.1, hzz.2.2⟩
theorem Rw.new (w : World) (ys : List Int) (t : TypeId) (H : Nat) (hH : w.heap.size = H) : Rw (w.alloc (.cells (ys.map (Value.int .i64)).toArray t)) H ys := by
  subst hH
  exact ⟨t, heap_alloc_new w _⟩

/-- a list and an error are returned -/
def RetLE (l : List Int) (er : Int) (w : World) (e : Ending) (w' : World) : Prop :=
  ∃ A n c, e = .returned (.tuple #[.slice A n c, .int .i64 er]) ∧ Ints w' A n l ∧ (n ≤ 1000 ∧ n ≤ c) ∧ Below w.heap.size w w'
theorem RetLE.no {er : Int} {w w' : World} (hb : Below w.heap.size w w') {er' : Int} (h : er' = er) : RetLE [] er w (.returned (.tuple #[.slice none 0 0, .int .i64 er'])) w' :=
  ⟨none, 0, 0, by rw [h], Ints.nil _ _, ⟨by omega, by omega⟩, hb⟩

end Go.Proofs.YtminplfgadhnnaaGreatDoor
end

/- Walks: Run, with its errors; the reference's run and Run. -/
section
namespace Go.Proofs.YtminplfgadhnnaaGreatDoor
open Go.RowKit Go.Shelf
set_option linter.unusedSimpArgs false
set_option linter.unusedVariables false
open Bm (Pr cex runL OkP)

end Go.Proofs.YtminplfgadhnnaaGreatDoor
end

/- Rows of the call's own: numbers, and pairs of numbers, of whatever element type. -/
section
namespace Go.Proofs.YtminplfgadhnnaaGreatDoor
open Go.RowKit Go.Shelf
set_option linter.unusedSimpArgs false
set_option linter.unusedVariables false

/-- a slice type, its element type, that one's nought, cells and bytes -/
def ElemT (T e : TypeId) (z : Value) (s by_ : Nat) : Prop :=
  Tryz.prog.underlying T = some (.slice e) ∧ (Tryz.prog.info? e).map (fun i => (i.zero, i.size, i.bytes)) = some (some z, s, by_) ∧ z.cells.size = s ∧ 0 < s ∧ by_ ≤ 32
theorem elI64 : ElemT 22 2 (.int .i64 0) 1 8 := ⟨Tryz.underlying22, by kernel_rfl, rfl, by omega, by omega⟩
theorem balloc' (B : Nat) (W : World) (o : Obj) (h : B ≤ W.heap.size) : Below B W (W.alloc o) := (balloc (Below.refl _ _) o).mono h
theorem own_keep {w w' : World} {base : Nat} {e : TypeId} {s : Nat} {v : Value} {n : Nat} {xs : List Value} (h : w.ownsRow base e s v n xs) (hb : Below w.heap.size w w') : w'.ownsRow base e s v n xs := by
  refine ⟨h.1, ?_⟩
  rcases h.2 with h2 | ⟨g, cap, cur, e1, hB, hg, rest⟩
  · exact Or.inl h2
  · have hlt : g < w.heap.size := (Array.getElem?_eq_some_iff.1 hg).1
    exact Or.inr ⟨g, cap, cur, e1, hB, (hb.block g hlt).trans hg, rest⟩

/-- an append of some elements to a row of the call's own -/
theorem list_ownG {T e : TypeId} {z : Value} {size by_ : Nat} (hT : ElemT T e z size by_) {ops : Array Oper} {rest : List Oper} {o : Oper} {a : Act} {w : World} {Q : Exit → Act → World → Prop}
    (hg : o.guard = none) (s x : Operand) (hop : o.op = Op.call { callee := Callee.builtin Builtin.append, args := #[s, x], argTypes := #[T, T] })
    (B n : Nat) (v : Value) (xs : List Value) (hs : a.eval s = v) (hown : w.ownsRow B e size v n xs)
    (ad : Addr) (m c : Nat) (news : List Value) (hx : a.eval x = .slice (some ad) m c) (hl : news.length = m * size) (hnews : ∀ j u, news[j]? = some u → w.cell? (ad.add j) = some u) (h1 : ∀ u ∈ news, u.oneCell' = true)
    (hm : 0 < m) (hn : n + m ≤ 6000) (hB : B ≤ w.heap.size)
    (hK : ∀ g c w', w'.ownsRow B e size (.slice (some ⟨g, 0, none⟩) (n + m) c) (n + m) (xs ++ news) → Below B w w' → wpList Tryz.prog ops Q rest (a.put o.dst (.slice (some ⟨g, 0, none⟩) (n + m) c)) w') :
    wpList Tryz.prog ops Q (o :: rest) a w := by
  obtain ⟨hu, hinf, hzc, hs0, hby⟩ := hT
  obtain ⟨i0, hi0, hzz⟩ := Option.map_eq_some_iff.1 hinf
  simp only [Prod.mk.injEq] at hzz
  obtain ⟨hz0, hz1, hz2⟩ := hzz
  have hbb : (n + m) * by_ ≤ 6000 * 32 := Nat.mul_le_mul hn hby
  refine wpList_append_own w hg s x T hop B e i0 z size by_ hu hi0 hz0 hz1 hz2 hzc hs0 v n _ hs hown ad m c news hx hl hnews h1 (by unfold maxLen; omega) (by omega) hB ?_
  intro v' w' h1 h2 _
  have hlt := hown.lt
  rcases h1.2 with ⟨rfl, h0⟩ | ⟨g, cap, cur, rfl, hrest⟩
  · omega
  · refine hK g cap w' h1 ⟨h2.os, h2.tape, h2.output, h2.size, fun i hi => h2.block i (by omega) (fun e => ?_)⟩
    have := hlt i e.symm
    omega
/-- an append of one number -/
theorem list_one {T e : TypeId} (hT : ElemT T e (.int .i64 0) 1 8) {ops : Array Oper} {rest : List Oper} {o : Oper} {a : Act} {w : World} {Q : Exit → Act → World → Prop}
    (hg : o.guard = none) (s x : Operand) (hop : o.op = Op.call { callee := Callee.builtin Builtin.append, args := #[s, x], argTypes := #[T, T] })
    (B n : Nat) (v : Value) (xs : List Int) (hs : a.eval s = v) (hown : w.ownsRow B e 1 v n (xs.map (Value.int .i64)))
    (b : Nat) (y : Int) (hx : a.eval x = .slice (some ⟨b, 0, none⟩) 1 1) (hy : w.cell? ⟨b, 0, none⟩ = some (.int .i64 y)) (hn : n ≤ 5000) (hB : B ≤ w.heap.size)
    (hK : ∀ g c w', w'.ownsRow B e 1 (.slice (some ⟨g, 0, none⟩) (n + 1) c) (n + 1) ((xs ++ [y]).map (Value.int .i64)) → Below B w w' → wpList Tryz.prog ops Q rest (a.put o.dst (.slice (some ⟨g, 0, none⟩) (n + 1) c)) w') :
    wpList Tryz.prog ops Q (o :: rest) a w := by
  refine list_ownG hT hg s x hop B n v _ hs hown ⟨b, 0, none⟩ 1 1 [.int .i64 y] hx rfl ?_ ?_ (by omega) (by omega) hB ?_
  · intro j u hu
    match j, hu with
    | 0, hu => simp at hu; subst hu; simpa [Addr.add] using hy
    | j + 1, hu => simp at hu
  · intro u hu
    simp at hu
    subst hu; rfl
  · intro g c w' h1 h2
    exact hK g c w' (by simpa using h1) h2
/-- a row of the call's own as a slice -/
theorem own_ints {w : World} {B n : Nat} {e : TypeId} {v : Value} {zs : List Int} (hl : zs.length = n) (h : w.ownsRow B e 1 v n (zs.map (Value.int .i64))) : ∃ A c, v = .slice A n c ∧ Ints w A n zs ∧ n ≤ c := by
  rcases h.2 with ⟨rfl, h0⟩ | ⟨g, cap, cur, rfl, hB, hg, hnc, _, hsz, ht⟩
  · subst h0
    exact ⟨none, 0, rfl, ⟨hl, fun h => absurd h (by omega)⟩, by omega⟩
  · refine ⟨some ⟨g, 0, none⟩, cap, rfl, ⟨hl, fun hn => ⟨g, 0, rfl, (Array.getElem?_eq_some_iff.1 hg).1, fun i hi => ?_⟩⟩, hnc⟩
    rw [Nat.zero_add, h.cellAt i (by omega), List.getElem?_map, List.getD_eq_getElem?_getD, List.getElem?_eq_getElem (show i < zs.length by omega)]
    rfl
/-- an append whose run is known -/
theorem list_app {T : TypeId} {ops : Array Oper} {rest : List Oper} {o : Oper} {a : Act} {w : World} {Q : Exit → Act → World → Prop} (hg : o.guard = none) (s x : Operand)
    (hop : o.op = Op.call { callee := Callee.builtin Builtin.append, args := #[s, x], argTypes := #[T, T] }) {v v2 v' : Value} {w' : World} (hs : a.eval s = v) (hx : a.eval x = v2)
    (hr : ∀ ty, (Builtin.append_ #[T, T] ty #[v, v2]).run Tryz.prog w = .ok v' w') (hK : wpList Tryz.prog ops Q rest (a.put o.dst v') w') : wpList Tryz.prog ops Q (o :: rest) a w := by
  refine wpList_plain hg fun K hK' => ?_
  unfold Oper.wp execOp
  simp only [hop, resolve, invoke, builtin, Sem.run_bind, Sem.run_pure, Result.andThen_ok, List.map_toArray, List.map_cons, List.map_nil, hs, hx, hr]
  exact hK' _ _ hK

/-- a row of numbers in a block of its own, whatever the block has besides -/
def Rx (w : World) (g : Nat) (zs : List Int) : Prop := g < w.heap.size ∧ (∀ k, k < zs.length → w.cell? ⟨g, k, none⟩ = some (.int .i64 (zs.getD k 0))) ∧ ∀ k, w.frozen? ⟨g, k, none⟩ = false
section
variable {w w' : World} {g k : Nat} {zs : List Int}
theorem Rw.x (h : Rw w g zs) : Rx w g zs := ⟨h.lt, fun k hk => h.cell hk, h.frozen⟩
theorem Rx.of_own {B n c : Nat} {e : TypeId} (hl : zs.length = n) (h : w.ownsRow B e 1 (.slice (some ⟨g, 0, none⟩) n c) n (zs.map (Value.int .i64))) : Rx w g zs :=
  ⟨(h.lt g rfl).2, fun k hk => by rw [h.cellAt k (by omega), List.getElem?_map, List.getD_eq_getElem?_getD, List.getElem?_eq_getElem hk]; rfl, fun k => World.ownsRow.frozenAt h k⟩
theorem Rx.lt (h : Rx w g zs) : g < w.heap.size := h.1
theorem Rx.cell (h : Rx w g zs) (hk : k < zs.length) : w.cell? ⟨g, k, none⟩ = some (.int .i64 (zs.getD k 0)) := h.2.1 k hk
theorem Rx.frozen (h : Rx w g zs) (k : Nat) : w.frozen? ⟨g, k, none⟩ = false := h.2.2 k
theorem Rx.set (h : Rx w g zs) (k : Nat) (v : Int) : Rx (w.setCell ⟨g, k, none⟩ (.int .i64 v)) g (zs.set k v) := by
  refine ⟨by simpa [World.setCell] using h.1, fun j hj => ?_, fun j => by rw [World.frozen?_setCell]; exact h.2.2 j⟩
  rw [List.length_set] at hj
  by_cases hjk : j = k
  · subst hjk
    rw [World.cell?_setCell_same' _ _ _ (by rw [h.2.1 j hj]; rfl)]
    simp [hj]
  · rw [World.cell?_setCell_other _ _ _ _ (by intro e; injection e with _ e; exact hjk e.symm), h.2.1 j hj]
    simp [List.getElem?_set, show ¬ k = j from fun e => hjk e.symm]
theorem Rx.other (h : Rx w g zs) {p : Addr} (hp : g ≠ p.block) (v : Value) : Rx (w.setCell p v) g zs :=
  ⟨by simpa [World.setCell] using h.1, fun j hj => by rw [World.cell?_setCell_other _ _ _ _ (by intro e; apply hp; rw [e])]; exact h.2.1 j hj, fun j => by rw [World.frozen?_setCell]; exact h.2.2 j⟩
theorem Rx.below (h : Rx w g zs) (hb : Below w.heap.size w w') : Rx w' g zs :=
  ⟨Nat.lt_of_lt_of_le h.1 hb.size, fun k hk => (hb.cell (p := ⟨g, k, none⟩) h.1).trans (h.2.1 k hk), fun k => (hb.frozen (p := ⟨g, k, none⟩) h.1).trans (h.2.2 k)⟩
theorem Rx.alloc (h : Rx w g zs) (o : Obj) : Rx (w.alloc o) g zs := h.below (balloc (Below.refl _ _) o)
theorem Rx.drewN (h : Rx w g zs) (n : Nat) : Rx (w.drewN n) g zs := h
theorem Rx.drew (h : Rx w g zs) : Rx w.drew g zs := h
theorem Rx.ints (h : Rx w g zs) {n : Nat} (hn : zs.length = n) : Ints w (some ⟨g, 0, none⟩) n zs :=
  ⟨hn, fun _ => ⟨g, 0, rfl, h.lt, fun i hi => by rw [Nat.zero_add]; exact h.cell (by omega)⟩⟩
end

end Go.Proofs.YtminplfgadhnnaaGreatDoor
end

/- Walks of the reference of layer 2: run, Run. -/
section
namespace Go.Proofs.YtminplfgadhnnaaGreatDoor
open Go.RowKit Go.Shelf
set_option linter.unusedSimpArgs false
set_option linter.unusedVariables false
open Bm (Pr cex runL OkP)

end Go.Proofs.YtminplfgadhnnaaGreatDoor
end

/- Walks of the reference of layer 2: Row. -/
section
namespace Go.Proofs.YtminplfgadhnnaaGreatDoor
open Go.RowKit Go.Shelf
set_option linter.unusedSimpArgs false
set_option linter.unusedVariables false
open Bm (Pr cex runL OkP rowL tab b2i)

end Go.Proofs.YtminplfgadhnnaaGreatDoor
end

/- Walks of the law package of layer 2: which lists are equal. -/
section
namespace Go.Proofs.YtminplfgadhnnaaGreatDoor
open Go.RowKit Go.Shelf
set_option linter.unusedSimpArgs false
set_option linter.unusedVariables false

end Go.Proofs.YtminplfgadhnnaaGreatDoor
end

/- Walks of the reference of layer 2: Ordered, Picked. -/
section
namespace Go.Proofs.YtminplfgadhnnaaGreatDoor
open Go.RowKit Go.Shelf
set_option linter.unusedSimpArgs false
set_option linter.unusedVariables false
open Bm (Pr ordB pickB)

end Go.Proofs.YtminplfgadhnnaaGreatDoor
end

/- Walks of the reference of layer 2: Test. -/
section
namespace Go.Proofs.YtminplfgadhnnaaGreatDoor
open Go.RowKit Go.Shelf
set_option linter.unusedSimpArgs false
set_option linter.unusedVariables false
open Bm (Pr cex runL OkP rowL tab b2i ordB pickB unord bfP fstBad runB)

end Go.Proofs.YtminplfgadhnnaaGreatDoor
end

/- Walks of the reference of layer 2: Test, with its errors; Merge. -/
section
namespace Go.Proofs.YtminplfgadhnnaaGreatDoor
open Go.RowKit Go.Shelf
set_option linter.unusedSimpArgs false
set_option linter.unusedVariables false
open Bm (Pr cex runL OkP rowL tab b2i ordB pickB unord bfP fstBad runB)

end Go.Proofs.YtminplfgadhnnaaGreatDoor
end

/- Walks of the reference of layer 2: Exchanges, Useless, Trim. -/
section
namespace Go.Proofs.YtminplfgadhnnaaGreatDoor
open Go.RowKit Go.Shelf
set_option linter.unusedSimpArgs false
set_option linter.unusedVariables false
open Bm (Pr cex runL OkP rowL tab b2i runB usd exch uslL trmL stp)

/-- a list of pairs and an error are returned -/
def RetPE (l : List (Int × Int)) (er : Int) (w : World) (e : Ending) (w' : World) : Prop :=
  ∃ A n c, e = .returned (.tuple #[.slice A n c, .int .i64 er]) ∧ Prs w' A n l ∧ (n ≤ 1000 ∧ n ≤ c) ∧ Below w.heap.size w w'
theorem RetPE.no {er : Int} {w w' : World} (hb : Below w.heap.size w w') {er' : Int} (h : er' = er) : RetPE [] er w (.returned (.tuple #[.slice none 0 0, .int .i64 er'])) w' :=
  ⟨none, 0, 0, by rw [h], Prs.nil _ _, ⟨by omega, by omega⟩, hb⟩
end Go.Proofs.YtminplfgadhnnaaGreatDoor
end

/- Walks of package bench: Depth. -/
section
namespace Go.Proofs.YtminplfgadhnnaaGreatDoor
open Go.RowKit Go.Shelf
set_option linter.unusedSimpArgs false
set_option linter.unusedVariables false
open Bm (Pr OkP depS depL dStep)

end Go.Proofs.YtminplfgadhnnaaGreatDoor
end

/- Walks of the reference of layer 2: Depth. -/
section
namespace Go.Proofs.YtminplfgadhnnaaGreatDoor
open Go.RowKit Go.Shelf
set_option linter.unusedSimpArgs false
set_option linter.unusedVariables false
open Bm (Pr OkP depS depL rndL rin shr)

end Go.Proofs.YtminplfgadhnnaaGreatDoor
end

/- Walks of package bench: ranges; Places. -/
section
namespace Go.Proofs.YtminplfgadhnnaaGreatDoor
open Go.RowKit Go.Shelf
set_option linter.unusedSimpArgs false
set_option linter.unusedVariables false

set_option maxHeartbeats 400000 in
theorem indexRgs_any (A : Option Addr) (n c g : Nat) (zs : List (Int × Int)) (lb : Array Value) (p : Int × Int → Bool) (w : World) (eg : ∀ args w, (callFunc g args).run Tryz.prog w = .ok (.enter g args) w)
    (hz : Prs w A n zs) (hn : n ≤ 9223372036854775807) (hp : PredPrs Tryz.prog g lb p zs w) :
    Calls Tryz.prog 159 #[.slice A n c, .func (.func g) #[] lb] w fun e w' => e = .returned (.int .i64 (Um.idx p zs)) ∧ Below w.heap.size w w' := by
  have Hz := Lib.hid hz
  have Hp := Lib.hid hp
  clear hp hz
  go_enter Tryz.func159, Tryz.ntmps159
  go_wp2
  go_loopw [5, 8] (fun _ i wr => ∃ k : Nat, k ≤ n ∧ i = .int .i64 k ∧ Hid (∀ i y, i < k → zs[i]? = some y → p y = false) ∧ Below w.heap.size w wr) (fun _ i _ => n - (intOf i).toNat)
  case atStart => exact ⟨0, Nat.zero_le _, rfl, fun i y hi => by omega, Below.refl _ _⟩
  case round =>
    obtain ⟨k, hk, rfl, hpre, hbl⟩ := hrel
    by_cases hlt : k < n
    · obtain ⟨b, off, x, y, rfl, hget, c0, c1⟩ := Hz.out.at_ hbl hlt
      have Hget := Lib.hid hget
      have hcall := Hp.out (x, y) (List.mem_of_getElem? hget) wr hbl
      dsimp only at hcall
      clear hget
      cases hq : p (x, y) with
      | true =>
        rw [hq] at hcall
        have Hq := Lib.hid hq
        clear hq
        go_wp2_with (go_at_fn g; refine hcall.mono ?_; rintro e w' ⟨rfl, hb'⟩)
        go_ret
        exact ⟨ret_int (Um.idx_at p k zs (x, y) hpre.out Hget.out Hq.out).symm, hb'⟩
      | false =>
        rw [hq] at hcall
        have Hq := Lib.hid hq
        clear hq
        go_wp2_with (go_at_fn g; refine hcall.mono ?_; rintro e w' ⟨rfl, hb'⟩)
        go_roundw
        case rel =>
          refine ⟨k + 1, by omega, by go_num, fun i v hi hy => ?_, hb'⟩
          by_cases hik : i < k
          · exact hpre.out i v hik hy
          · have : i = k := by omega
            subst this
            have := Hget.out
            rw [hy] at this
            injection this with this
            rw [this]; exact Hq.out
        case measure => simp [intOf]; omega
    · go_wp2
      go_ret
      refine ⟨ret_int (Um.idx_none p zs (fun y hy => ?_)).symm, hbl⟩
      obtain ⟨i, hi, hiy⟩ := List.mem_iff_getElem.1 hy
      exact hpre.out i y (by have := Hz.out.1; omega) (by rw [List.getElem?_eq_getElem hi, hiy])

set_option maxHeartbeats 400000 in
theorem containsRgs_any (A : Option Addr) (n c g : Nat) (zs : List (Int × Int)) (lb : Array Value) (p : Int × Int → Bool) (w : World) (eg : ∀ args w, (callFunc g args).run Tryz.prog w = .ok (.enter g args) w)
    (hz : Prs w A n zs) (hn : n ≤ 9223372036854775807) (hp : PredPrs Tryz.prog g lb p zs w) :
    Calls Tryz.prog 130 #[.slice A n c, .func (.func g) #[] lb] w fun e w' => e = .returned (.bool (zs.any p)) ∧ Below w.heap.size w w' := by
  have h1 := indexRgs_any A n c g zs lb p w eg hz hn hp
  have h2 := Um.idx_any p zs
  have H2 := Lib.hid h2
  clear h2 hz hp eg
  generalize zs.any p = r at *
  generalize Um.idx p zs = ix at *
  go_enter Tryz.func130, Tryz.ntmps130
  go_wp2_with (go_at_call 159; refine h1.mono ?_; rintro e w' ⟨rfl, hb'⟩)
  go_ret
  exact ⟨ret_bool H2.out, hb'⟩


/-- a row by a function -/
def rowF (m : Nat) (f : Nat → Int) : List Int := (List.range m).map f
theorem rowF_get {m i : Nat} (f : Nat → Int) (hi : i < m) : (rowF m f).getD i 0 = f i := by simp [rowF, List.getD_eq_getElem?_getD, hi]
theorem rowF_set (m j : Nat) (f : Nat → Int) (v : Int) : (rowF m f).set j v = rowF m fun i => if i = j then v else f i := by
  apply List.ext_getElem
  · simp [rowF]
  · intro i h1 h2
    simp only [rowF, List.getElem_set, List.getElem_map, List.getElem_range]
    by_cases e : j = i
    · subst e; simp
    · rw [if_neg e, if_neg (fun h => e h.symm)]
end Go.Proofs.YtminplfgadhnnaaGreatDoor
end

/- Walks of package bench: Places. -/
section
namespace Go.Proofs.YtminplfgadhnnaaGreatDoor
open Go.RowKit Go.Shelf
set_option linter.unusedSimpArgs false
set_option linter.unusedVariables false

theorem rowF_congr {m : Nat} {f g : Nat → Int} (h : ∀ i, i < m → f i = g i) : rowF m f = rowF m g := List.map_congr_left fun i hi => h i (by simpa using hi)
end Go.Proofs.YtminplfgadhnnaaGreatDoor
end

/- Walks: Places, with its errors; the reference's Run, with its errors. -/
section
namespace Go.Proofs.YtminplfgadhnnaaGreatDoor
open Go.RowKit Go.Shelf
set_option linter.unusedSimpArgs false
set_option linter.unusedVariables false
open Bm (runL)

end Go.Proofs.YtminplfgadhnnaaGreatDoor
end

/- Walks of package bench: CheckBar. -/
section
namespace Go.Proofs.YtminplfgadhnnaaGreatDoor
open Go.RowKit Go.Shelf
set_option linter.unusedSimpArgs false
set_option linter.unusedVariables false

end Go.Proofs.YtminplfgadhnnaaGreatDoor
end

/- Walks of package bench: the power of a lamp, Value, Span. -/
section
namespace Go.Proofs.YtminplfgadhnnaaGreatDoor
open Go.RowKit Go.Shelf
set_option linter.unusedSimpArgs false
set_option linter.unusedVariables false
open Bm (pwr lgt)

end Go.Proofs.YtminplfgadhnnaaGreatDoor
end

/- Walks of package bench: Value, Span. -/
section
namespace Go.Proofs.YtminplfgadhnnaaGreatDoor
open Go.RowKit Go.Shelf
set_option linter.unusedSimpArgs false
set_option linter.unusedVariables false
open Bm (pwr)

end Go.Proofs.YtminplfgadhnnaaGreatDoor
end

/- A law for a long region that draws its order, and is yet all but in a row: one check of the row of operations (by masks, once), then the operations one by one, with no list of what has come up in sight. -/
section
namespace Go.Proofs.YtminplfgadhnnaaGreatDoor
open Go
set_option linter.unusedSimpArgs false
set_option linter.unusedVariables false

/-- A step: operation i is taken first; operation i is the only one that may come up; i and j may come up. Behind it the mask of what has come up. -/
inductive Stp
  | t (i m : Nat)
  | o (i m : Nat)
  | b (i j mi mj m : Nat)

def nth {α : Type} : List α → Nat → Option α
  | [], _ => none
  | x :: _, 0 => some x
  | _ :: l, n + 1 => nth l n
theorem nth_eq {α : Type} : ∀ (l : List α) (i : Nat), nth l i = l[i]?
  | [], i => by simp [nth]
  | x :: l, 0 => by simp [nth]
  | x :: l, n + 1 => by simp [nth, nth_eq l n]
theorem nth_ops {ops : Array Oper} {i : Nat} {o : Oper} (h : nth ops.toList i = some o) : ops[i]? = some o := by
  rw [nth_eq] at h; simpa using h

def rdy (md : Region.Mode) : List Oper → Nat → Nat → List Nat
  | [], _, _ => []
  | o :: r, k, m => bif !m.testBit k && o.after.all (fun e => !Region.binds md e || m.testBit e.on) then k :: rdy md r (k + 1) m else rdy md r (k + 1) m
def fre (md : Region.Mode) (ops : Array Oper) (oi : Oper) (i : Nat) : List Oper → Nat → Nat → Bool
  | [], _, _ => true
  | oj :: r, k, m => (Nat.beq k i || m.testBit k || oj.after.any (fun e => Region.binds md e && Nat.beq e.on i) || oi.apart ops oj) && fre md ops oi i r (k + 1) m
def freAt (md : Region.Mode) (ops : Array Oper) (i m : Nat) : Bool :=
  match nth ops.toList i with
  | none => false
  | some oi => fre md ops oi i ops.toList 0 m
def hasN : List Nat → Nat → Bool
  | [], _ => false
  | x :: l, i => Nat.beq x i || hasN l i
theorem hasN_mem : ∀ (l : List Nat) (i : Nat), hasN l i = true → i ∈ l
  | [], i, h => by simp [hasN] at h
  | x :: l, i, h => by
    simp only [hasN, Bool.or_eq_true] at h
    rcases h with h | h
    · rw [Nat.eq_of_beq_eq_true h]; simp
    · exact List.mem_cons_of_mem _ (hasN_mem l i h)
def one1 : List Nat → Nat → Bool
  | [x], i => Nat.beq x i
  | _, _ => false
theorem one1_eq {l : List Nat} {i : Nat} (h : one1 l i = true) : l = [i] := by
  match l, h with
  | [x], h => rw [Nat.eq_of_beq_eq_true h]
def two2 : List Nat → Nat → Nat → Bool
  | [x, y], i, j => Nat.beq x i && Nat.beq y j
  | _, _, _ => false
theorem two2_eq {l : List Nat} {i j : Nat} (h : two2 l i j = true) : l = [i, j] := by
  match l, h with
  | [x, y], h => simp only [two2, Bool.and_eq_true] at h; rw [Nat.eq_of_beq_eq_true h.1, Nat.eq_of_beq_eq_true h.2]
def emp : List Nat → Bool
  | [] => true
  | _ => false
theorem emp_eq {l : List Nat} (h : emp l = true) : l = [] := by
  match l, h with
  | [], _ => rfl

/-- The check of the whole row. -/
def plan (md : Region.Mode) (ops : Array Oper) : List Stp → Nat → Bool
  | [], m => emp (rdy md ops.toList 0 m)
  | .t i m' :: r, m => hasN (rdy md ops.toList 0 m) i && freAt md ops i m && Nat.beq m' (m ||| 1 <<< i) && plan md ops r m'
  | .o i m' :: r, m => one1 (rdy md ops.toList 0 m) i && Nat.beq m' (m ||| 1 <<< i) && plan md ops r m'
  | .b i j mi mj m' :: r, m => two2 (rdy md ops.toList 0 m) i j && Nat.beq mi (m ||| 1 <<< i) && Nat.beq mj (m ||| 1 <<< j) &&
      one1 (rdy md ops.toList 0 mi) j && one1 (rdy md ops.toList 0 mj) i && Nat.beq m' (mi ||| 1 <<< j) && plan md ops r m'
def lng : List Stp → Nat
  | [] => 0
  | .t _ _ :: r => lng r + 1
  | .o _ _ :: r => lng r + 1
  | .b _ _ _ _ _ :: r => lng r + 2

/-- The list of what has come up is that of the mask. -/
structure Msk (n : Nat) (l : Array Bool) (m : Nat) : Prop where
  size : l.size = n
  bit : ∀ i, i < n → l[i]? = some (m.testBit i)
  hi : ∀ i, n ≤ i → m.testBit i = false
theorem Msk.getD {n : Nat} {l : Array Bool} {m : Nat} (h : Msk n l m) (i : Nat) (d : Bool) (hi : i < n) : l.getD i d = m.testBit i := by
  have := h.bit i hi
  rw [Array.getD_eq_getD_getElem?, this]; rfl
theorem Msk.getF {n : Nat} {l : Array Bool} {m : Nat} (h : Msk n l m) (i : Nat) : l.getD i false = m.testBit i := by
  rcases Nat.lt_or_ge i n with hi | hi
  · exact h.getD i _ hi
  · rw [h.hi i hi, Array.getD_eq_getD_getElem?, Array.getElem?_eq_none (by have := h.size; omega)]; rfl
theorem bit1 (q : Nat) : Nat.testBit 1 (q + 1) = false := by
  rw [Nat.testBit_succ]; simp
theorem Msk.set {n : Nat} {l : Array Bool} {m : Nat} (h : Msk n l m) (i : Nat) (hi : i < n) : Msk n (l.setIfInBounds i true) (m ||| 1 <<< i) := by
  refine ⟨by simp [h.size], fun j hj => ?_, fun j hj => ?_⟩
  · rw [Array.getElem?_setIfInBounds, Nat.testBit_or]
    by_cases hij : i = j
    · subst hij; simp [h.size, hi, Nat.testBit_shiftLeft]
    · rw [if_neg hij, h.bit j hj]
      have : (1 <<< i).testBit j = false := by
        rw [Nat.testBit_shiftLeft]
        rcases Nat.lt_or_ge j i with h' | h'
        · simp; omega
        · have : j - i ≠ 0 := by omega
          obtain ⟨q, hq⟩ : ∃ q, j - i = q + 1 := ⟨j - i - 1, by omega⟩
          rw [hq, bit1, Bool.and_false]
      rw [this, Bool.or_false]
  · rw [Nat.testBit_or, h.hi j hj, Nat.testBit_shiftLeft]
    obtain ⟨q, hq⟩ : ∃ q, j - i = q + 1 := ⟨j - i - 1, by omega⟩
    rw [hq, bit1, Bool.and_false, Bool.or_false]
theorem Msk.zero (n : Nat) : Msk n (Array.replicate n false) 0 := ⟨by simp, fun i hi => by simp [hi], fun i _ => by simp⟩

theorem rdy_eq {md : Region.Mode} {ops : Array Oper} {l : Array Bool} {m : Nat} (h : Msk ops.size l m) : Region.ready md ops l = rdy md ops.toList 0 m := by
  have H : ∀ (L : List Oper) (k : Nat), k + L.length ≤ ops.size → (∀ i, i < L.length → ops[k + i]? = L[i]?) →
      (List.range' k L.length).filter (fun i => !l.getD i true && ((ops[i]?).map (·.after.all fun e => !Region.binds md e || l.getD e.on false)).getD false) = rdy md L k m := by
    intro L
    induction L with
    | nil => intro k _ _; rfl
    | cons o r ih =>
      intro k hk hL
      rw [List.length_cons, List.range'_succ, List.filter_cons]
      have h0 : ops[k]? = some o := by have := hL 0 (by simp); simpa using this
      have ihr := ih (k + 1) (by simp only [List.length_cons] at hk; omega) (fun i hi => by
        have := hL (i + 1) (by simp; omega)
        rw [List.getElem?_cons_succ] at this
        rw [← this]; congr 1; omega)
      rw [ihr, h0, Option.map_some, Option.getD_some, h.getD k true (by simp only [List.length_cons] at hk; omega)]
      have he : (o.after.all fun e => !Region.binds md e || l.getD e.on false) = (o.after.all fun e => !Region.binds md e || m.testBit e.on) := by
        congr 1; funext e; rw [h.getF]
      rw [he, rdy]
      cases hc : (!m.testBit k && o.after.all fun e => !Region.binds md e || m.testBit e.on) <;> simp [hc]
  have := H ops.toList 0 (by simp) (fun i hi => by simp)
  unfold Region.ready
  rw [List.range_eq_range']
  simpa using this

theorem fre_spec {md : Region.Mode} {ops : Array Oper} {oi : Oper} {i m : Nat} : ∀ (L : List Oper) (k : Nat), fre md ops oi i L k m = true → ∀ j oj, L[j]? = some oj →
    (Nat.beq (k + j) i || m.testBit (k + j) || oj.after.any (fun e => Region.binds md e && Nat.beq e.on i) || oi.apart ops oj) = true
  | [], k, _, j, oj, hj => by simp at hj
  | o :: r, k, h, j, oj, hj => by
    simp only [fre, Bool.and_eq_true] at h
    cases j with
    | zero => simp only [List.getElem?_cons_zero, Option.some.injEq] at hj; subst hj; exact h.1
    | succ j =>
      rw [List.getElem?_cons_succ] at hj
      have := fre_spec r (k + 1) h.2 j oj hj
      rw [show k + 1 + j = k + (j + 1) by omega] at this
      exact this

section
variable {P : Program} {ops : Array Oper} {Q : Exit → Act → World → Prop} {md : Region.Mode} {S : World → Prop}

/-- The operations in a row. -/
def wpSeq (P : Program) (ops : Array Oper) (Q : Exit → Act → World → Prop) (S : World → Prop) : List Stp → Act → World → Prop
  | [], a, w => Q .normal a w
  | .t i _ :: r, a, w => ∃ o v, nth ops.toList i = some o ∧ YieldsIf P ops S o v a ∧ wpSeq P ops Q S r (a.put o.dst v) w
  | .o i _ :: r, a, w => wpOp P ops Q i (fun a' w' => S w' ∧ wpSeq P ops Q S r a' w') a w
  | .b i j _ _ _ :: r, a, w =>
    wpOp P ops Q i (fun a' w' => S w' ∧ wpOp P ops Q j (fun a' w' => S w' ∧ wpSeq P ops Q S r a' w') a' w') a w ∧
    wpOp P ops Q j (fun a' w' => S w' ∧ wpOp P ops Q i (fun a' w' => S w' ∧ wpSeq P ops Q S r a' w') a' w') a w

theorem lt_of_rdy {m i : Nat} {l : Array Bool} (h : Msk ops.size l m) (hi : i ∈ rdy md ops.toList 0 m) : i < ops.size := by
  rw [← rdy_eq h] at hi
  exact (Array.getElem?_eq_some_iff.1 (mem_ready.1 hi).2.choose_spec.1).1

theorem wpAnyH_seq (hns : Region.noSelect ops = true) (hQ : ∀ c a d v w, Q (.panic c) (a.put d v) w → Q (.panic c) a w) :
    ∀ (sts : List Stp) (m : Nat) (l : Array Bool) (fuel : Nat) (a : Act) (w : World), Msk ops.size l m → plan md ops sts m = true → lng sts ≤ fuel → S w →
      wpSeq P ops Q S sts a w → wpAnyH P md ops Q S fuel l a w
  | [], m, l, fuel, a, w, hm, hp, _, _, h => by
    have := emp_eq (show emp (rdy md ops.toList 0 m) = true from hp)
    exact wpAnyH_done (by rw [rdy_eq hm, this]) h fuel
  | .t i m' :: r, m, l, fuel, a, w, hm, hp, hl, hS, h => by
    simp only [plan, Bool.and_eq_true] at hp
    obtain ⟨⟨⟨h1, h2⟩, h3⟩, h4⟩ := hp
    obtain ⟨o, v, ho, hy, h⟩ := h
    have hmem := hasN_mem _ _ h1
    have hlt := lt_of_rdy hm hmem
    obtain ⟨f, rfl⟩ : ∃ f, fuel = f + 1 := ⟨fuel - 1, by simp only [lng] at hl; omega⟩
    simp only [lng] at hl
    have h2' : fre md ops o i ops.toList 0 m = true := by unfold freAt at h2; rw [ho] at h2; exact h2
    have hms := hm.set i hlt
    rw [← Nat.eq_of_beq_eq_true h3] at hms
    refine wpAnyH_first (nth_ops ho) (Region.noSelect_spec hns) (fun c a w => hQ c a o.dst v w) f l a w (fun j oj hj hne hun hno => ?_) (by rw [rdy_eq hm]; exact hmem) hy hS
      (wpAnyH_seq hns hQ r m' _ f _ w hms h4 (by omega) hS h)
    have hjl := (Array.getElem?_eq_some_iff.1 hj).1
    have hs := fre_spec ops.toList 0 h2' j oj (by simpa using hj)
    rw [Nat.zero_add] at hs
    rw [hm.getD j true hjl] at hun
    simp only [Bool.or_eq_true] at hs
    rcases hs with ((hs | hs) | hs) | hs
    · exact absurd (Nat.eq_of_beq_eq_true hs) hne
    · rw [hun] at hs; cases hs
    · obtain ⟨e, he, hb⟩ := Array.any_eq_true'.1 hs
      simp only [Bool.and_eq_true] at hb
      exact absurd (Nat.eq_of_beq_eq_true hb.2) (hno e he hb.1)
    · exact hs
  | .o i m' :: r, m, l, fuel, a, w, hm, hp, hl, hS, h => by
    simp only [plan, Bool.and_eq_true] at hp
    obtain ⟨⟨h1, h3⟩, h4⟩ := hp
    have h1 := one1_eq h1
    have hlt := lt_of_rdy (md := md) hm (i := i) (by rw [h1]; simp)
    obtain ⟨f, rfl⟩ : ∃ f, fuel = f + 1 := ⟨fuel - 1, by simp only [lng] at hl; omega⟩
    simp only [lng] at hl
    have hms := hm.set i hlt
    rw [← Nat.eq_of_beq_eq_true h3] at hms
    refine wpAnyH_all (rs := [i]) (by rw [rdy_eq hm, h1]) (by simp) (fun k hk => ?_)
    obtain rfl : k = i := by simpa using hk
    exact wpOp_mono (fun a' w' h' => ⟨h'.1, wpAnyH_seq hns hQ r m' _ f a' w' hms h4 (by omega) h'.1 h'.2⟩) h
  | .b i j mi mj m' :: r, m, l, fuel, a, w, hm, hp, hl, hS, h => by
    simp only [plan, Bool.and_eq_true] at hp
    obtain ⟨⟨⟨⟨⟨⟨h1, h2⟩, h3⟩, h4⟩, h5⟩, h6⟩, h7⟩ := hp
    have h1 := two2_eq h1
    have hlti := lt_of_rdy (md := md) hm (i := i) (by rw [h1]; simp)
    have hltj := lt_of_rdy (md := md) hm (i := j) (by rw [h1]; simp)
    obtain ⟨f, rfl⟩ : ∃ f, fuel = f + 2 := ⟨fuel - 2, by simp only [lng] at hl; omega⟩
    simp only [lng] at hl
    have hmi := hm.set i hlti
    have hmj := hm.set j hltj
    have hmij := hmi.set j hltj
    have hmji := hmj.set i hlti
    rw [show (m ||| 1 <<< j) ||| 1 <<< i = (m ||| 1 <<< i) ||| 1 <<< j by rw [Nat.or_assoc, Nat.or_assoc, Nat.or_comm (1 <<< j)]] at hmji
    rw [← Nat.eq_of_beq_eq_true h2] at hmi hmij hmji
    rw [← Nat.eq_of_beq_eq_true h6] at hmij hmji
    rw [← Nat.eq_of_beq_eq_true h3] at hmj
    refine wpAnyH_all (rs := [i, j]) (by rw [rdy_eq hm, h1]) (by simp) (fun k hk => ?_)
    rcases (show k = i ∨ k = j by simpa using hk) with rfl | rfl
    · refine wpOp_mono (fun a' w' h' => ⟨h'.1, ?_⟩) h.1
      refine wpAnyH_all (rs := [j]) (by rw [rdy_eq hmi, one1_eq h4]) (by simp) (fun q hq => ?_)
      obtain rfl : q = j := by simpa using hq
      exact wpOp_mono (fun a' w' h' => ⟨h'.1, wpAnyH_seq hns hQ r m' _ f a' w' hmij h7 (by omega) h'.1 h'.2⟩) h'.2
    · refine wpOp_mono (fun a' w' h' => ⟨h'.1, ?_⟩) h.2
      refine wpAnyH_all (rs := [i]) (by rw [rdy_eq hmj, one1_eq h5]) (by simp) (fun q hq => ?_)
      obtain rfl : q = i := by simpa using hq
      exact wpOp_mono (fun a' w' h' => ⟨h'.1, wpAnyH_seq hns hQ r m' _ f a' w' hmji h7 (by omega) h'.1 h'.2⟩) h'.2

/-- The beginning. -/
theorem wp_region_seq {id : Nat} {a : Act} {w : World} (sts : List Stp) (hm : P.follows .mixedOrders = true) (hns : Region.noSelect ops = true) (hp : plan .any ops sts 0 = true)
    (hl : Nat.ble (lng sts) ops.size = true) (hQ : ∀ c a d v w, Q (.panic c) (a.put d v) w → Q (.panic c) a w) (hS : S w.drew) (h : S w.drew → wpSeq P ops Q S sts a w.drew) :
    (Code.region id ops true).wp P Q a w :=
  wp_region_held_drew hm hS fun h' => wpAnyH_seq hns hQ sts 0 _ _ _ _ (Msk.zero _) hp (Nat.le_of_ble_eq_true hl) h' (h h')

/-- An operation is taken first. -/
theorem seq_take {i m' : Nat} {r : List Stp} {o : Oper} {v : Value} {a : Act} {w : World} (ho : nth ops.toList i = some o) (hw : Region.wanted o (yielded ops a.tmps) = true)
    (hv : ∀ w, S w → (execOp a.eval o).run P w = .ok (.value v) w) (h : wpSeq P ops Q S r (a.put o.dst v) w) : wpSeq P ops Q S (.t i m' :: r) a w :=
  ⟨o, v, ho, .inl ⟨hw, hv⟩, h⟩
/-- An operation is carried out. -/
theorem seq_one {i m' : Nat} {r : List Stp} {o : Oper} {a : Act} {w : World} (ho : nth ops.toList i = some o)
    (h : ∀ K' : Act → World → Prop, Shut (∀ a w, S w → (S w → wpSeq P ops Q S r a w) → K' a w) → if Region.wanted o (yielded ops a.tmps) = true then Oper.wp P o a w K' Q else K' (a.put o.dst undef) w) :
    wpSeq P ops Q S (.o i m' :: r) a w :=
  wpOp_step (nth_ops ho) (fun K' hK => h K' (fun a w hS hW => hK a w ⟨hS, hW hS⟩))
/-- All have come up. -/
theorem seq_done {a : Act} {w : World} (h : Q .normal a w) : wpSeq P ops Q S [] a w := h
end

end Go.Proofs.YtminplfgadhnnaaGreatDoor
end

/- A law for a region that draws its order: pure operations ahead in a row, the others in whatever order, by an invariant: each of them is walked once, whatever has come up before it. -/
section
namespace Go.Proofs.YtminplfgadhnnaaGreatDoor
open Go
set_option linter.unusedSimpArgs false
set_option linter.unusedVariables false

def rest (n : Nat) (m : Nat) (l : List Nat) : Bool := (List.range n).all fun k => m.testBit k || hasN l k
section
variable {P : Program} {ops : Array Oper} {Q : Exit → Act → World → Prop} {md : Region.Mode} {S : World → Prop}

end

end Go.Proofs.YtminplfgadhnnaaGreatDoor
end

/- Fresh blocks of two numbers that a region makes and fills in whatever order (for XEN2's law). -/
section
namespace Go.Proofs.YtminplfgadhnnaaGreatDoor
open Go.RowKit Go.Shelf
set_option linter.unusedSimpArgs false
set_option linter.unusedVariables false

/-- a fresh block, if it is made; filled, if it is filled -/
def Mk2 (B : Nat) (W : World) (dn fl : Bool) (v : Value) (x y : Int) : Prop :=
  (dn = true → ∃ g a b, v = .pointer (some ⟨g, 0, none⟩) ∧ B ≤ g ∧ Cs W g #[a, b] ∧ (fl = true → a = .int .i64 x ∧ b = .int .i64 y)) ∧ (dn = false → fl = false)
variable {B : Nat} {W W' : World} {dn fl : Bool} {v : Value} {x y : Int} {g : Nat}
theorem Mk2.no (h1 : dn = false) (h2 : fl = false) : Mk2 B W dn fl v x y := ⟨fun h => Bool.noConfusion (h1.symm.trans h), fun _ => h2⟩
theorem Mk2.below (h : Mk2 B W dn fl v x y) (hb : Below W.heap.size W W') : Mk2 B W' dn fl v x y :=
  ⟨fun hd => by obtain ⟨g, a, b, e1, e2, e3, e4⟩ := h.1 hd; exact ⟨g, a, b, e1, e2, e3.keep hb, e4⟩, h.2⟩
theorem Mk2.alloc (h : Mk2 B W dn fl v x y) (o : Obj) : Mk2 B (W.alloc o) dn fl v x y := h.below (balloc (Below.refl _ _) o)
theorem Mk2.new {a b : Value} {t : TypeId} (h : Mk2 B W dn fl v x y) (hd : dn = false) (hB : B ≤ W.heap.size) : Mk2 B (W.alloc (.cells #[a, b] t)) true fl (.pointer (some ⟨W.heap.size, 0, none⟩)) x y :=
  ⟨fun _ => ⟨W.heap.size, a, b, rfl, hB, Cs.new W _ _ _ rfl, fun hf => by rw [h.2 hd] at hf; cases hf⟩, fun h => by cases h⟩
theorem Mk2.set (h : Mk2 B W dn fl (.pointer (some ⟨g, 0, none⟩)) x y) (hd : dn = true) : Mk2 B ((W.setCell ⟨g, 0, none⟩ (.int .i64 x)).setCell ⟨g, 1, none⟩ (.int .i64 y)) dn true (.pointer (some ⟨g, 0, none⟩)) x y := by
  refine ⟨fun _ => ?_, fun h => by rw [hd] at h; cases h⟩
  obtain ⟨g', a, b, e1, e2, e3, e4⟩ := h.1 hd
  injection e1 with e1; injection e1 with e1; injection e1 with e1
  subst e1
  exact ⟨g, _, _, rfl, e2, e3.set2 _ _, fun _ => ⟨rfl, rfl⟩⟩
theorem Mk2.other {p q : Value} (h : Mk2 B W dn fl v x y) (hne : dn = true → v ≠ .pointer (some ⟨g, 0, none⟩)) : Mk2 B ((W.setCell ⟨g, 0, none⟩ p).setCell ⟨g, 1, none⟩ q) dn fl v x y :=
  ⟨fun hd => by
    obtain ⟨g', a, b, e1, e2, e3, e4⟩ := h.1 hd
    exact ⟨g', a, b, e1, e2, e3.other2 (fun e => hne hd (by rw [e1, e])) _ _, e4⟩, h.2⟩
theorem Mk2.drew (h : Mk2 B W dn fl v x y) : Mk2 B W.drew dn fl v x y := h
/-- all of it: made and filled -/
theorem Mk2.out (h : Mk2 B W dn fl v x y) (h1 : dn = true) (h2 : fl = true) : ∃ g, v = .pointer (some ⟨g, 0, none⟩) ∧ B ≤ g ∧ Cs W g #[.int .i64 x, .int .i64 y] := by
  obtain ⟨g, a, b, e1, e2, e3, e4⟩ := h.1 h1
  obtain ⟨rfl, rfl⟩ := e4 h2
  exact ⟨g, e1, e2, e3⟩
/-- made: what a store wants -/
theorem Mk2.at_ (h : Mk2 B W dn fl v x y) (h1 : dn = true) : ∃ g a b, v = .pointer (some ⟨g, 0, none⟩) ∧ B ≤ g ∧ Cs W g #[a, b] := by
  obtain ⟨g, a, b, e1, e2, e3, e4⟩ := h.1 h1
  exact ⟨g, a, b, e1, e2, e3⟩
end Go.Proofs.YtminplfgadhnnaaGreatDoor
end

/- Walks of the reference of layer 2: Fraction, power. -/
section
namespace Go.Proofs.YtminplfgadhnnaaGreatDoor
open Go.RowKit Go.Shelf
set_option linter.unusedSimpArgs false
set_option linter.unusedVariables false
open Bm (pwr lgt red rpw)

end Go.Proofs.YtminplfgadhnnaaGreatDoor
end

/- Walks of the reference of layer 2: CheckBar, IsTrue, Value, Span. -/
section
namespace Go.Proofs.YtminplfgadhnnaaGreatDoor
open Go.RowKit Go.Shelf
set_option linter.unusedSimpArgs false
set_option linter.unusedVariables false
open Bm (pwr)

end Go.Proofs.YtminplfgadhnnaaGreatDoor
end

/- Plain laws of words of sixty-four rows. -/
section
set_option linter.unusedSimpArgs false
set_option linter.unusedVariables false
namespace Bm

/-- a number of bits, the lowest first -/
def wdL (f : Nat → Bool) : Nat → Nat → Nat
  | _, 0 => 0
  | b, m + 1 => 2 * wdL f (b + 1) m + (if f b then 1 else 0)
/-- the word with a number -/
def wd (f : Nat → Bool) (j : Nat) : Nat := wdL f (64 * j) 64
/-- one word without the bits of another one -/
def anN (a b : Nat) : Nat := a &&& (18446744073709551615 - b)
end Bm
end

/- Lines of words in memory; walks of package bench: exchanged. -/
section
namespace Go.Proofs.YtminplfgadhnnaaGreatDoor
open Go.RowKit Go.Shelf
set_option linter.unusedSimpArgs false
set_option linter.unusedVariables false
open Bm (anN)

/-- a word as a value -/
def wv (x : Nat) : Value := .int .u64 ((x : Nat) : Int)
/-- a line's words -/
def lnA (v : Nat → Nat) : Array Value := ((List.range 64).map fun j => wv (v j)).toArray
theorem lnA_size (v : Nat → Nat) : (lnA v).size = 64 := by simp [lnA]
theorem lnA_get (v : Nat → Nat) {j : Nat} (hj : j < 64) : (lnA v)[j]? = some (wv (v j)) := by simp [lnA, hj]
theorem lnA_set (v : Nat → Nat) (x : Nat) {k : Nat} (hk : k < 64) : (lnA v).setIfInBounds k (wv x) = lnA (fun i => if i = k then x else v i) := by
  apply Array.ext
  · simp [lnA_size]
  · intro i h1 h2
    simp only [lnA, List.setIfInBounds_toArray, List.getElem_toArray, List.getElem_set, List.getElem_map, List.getElem_range]
    by_cases e : k = i
    · subst e; simp
    · rw [if_neg e, if_neg (fun h => e h.symm)]
theorem lnA_congr {v u : Nat → Nat} (h : ∀ j, j < 64 → v j = u j) : lnA v = lnA u := by
  unfold lnA
  congr 1
  exact List.map_congr_left fun j hj => by rw [h j (by simpa using hj)]
theorem lnA_one (v : Nat → Nat) : (lnA v).all (·.oneCell') = true := by
  rw [Array.all_eq_true]
  intro i hi
  rw [lnA_size] at hi
  have := lnA_get v hi
  rw [Array.getElem?_eq_getElem (by rw [lnA_size]; exact hi)] at this
  injection this with this
  rw [this]; rfl

/-- a block that is a line -/
def Ln (w : World) (g : Nat) (v : Nat → Nat) : Prop := ∃ t, w.heap[g]? = some (.cells (lnA v) t (0, 0))
section
variable {w w' : World} {g k : Nat} {v : Nat → Nat}
theorem Ln.lt (h : Ln w g v) : g < w.heap.size := by obtain ⟨t, h⟩ := h; exact (Array.getElem?_eq_some_iff.1 h).1
theorem Ln.cell (h : Ln w g v) (hk : k < 64) : w.cell? ⟨g, k, none⟩ = some (.int .u64 ((v k : Nat) : Int)) := by
  obtain ⟨t, h⟩ := h
  rw [cell_of_row w g k _ t _ h, lnA_get v hk]; rfl
theorem Ln.frozen (h : Ln w g v) (k : Nat) : w.frozen? ⟨g, k, none⟩ = false := by
  obtain ⟨t, h⟩ := h
  exact frozen_of_row w g k _ t h
theorem Ln.set (h : Ln w g v) (hk : k < 64) (x : Nat) : Ln (w.setCell ⟨g, k, none⟩ (.int .u64 ((x : Nat) : Int))) g (fun i => if i = k then x else v i) := by
  obtain ⟨t, h⟩ := h
  refine ⟨t, ?_⟩
  rw [heap_setCell_same w g k _ t _ h]
  congr 2
  exact lnA_set v x hk
theorem Ln.other (h : Ln w g v) {p : Addr} (hp : g ≠ p.block) (x : Value) : Ln (w.setCell p x) g v := by
  obtain ⟨t, h⟩ := h
  exact ⟨t, (heap_setCell_other w p g x hp).trans h⟩
theorem Ln.below (h : Ln w g v) (hb : Below w.heap.size w w') : Ln w' g v := by
  have hl := h.lt
  obtain ⟨t, h⟩ := h
  exact ⟨t, (hb.block g hl).trans h⟩
theorem Ln.alloc (h : Ln w g v) (o : Obj) : Ln (w.alloc o) g v := h.below (balloc (Below.refl _ _) o)
theorem Ln.drewN (h : Ln w g v) (n : Nat) : Ln (w.drewN n) g v := h
theorem Ln.drew (h : Ln w g v) : Ln w.drew g v := h
theorem Ln.congr (h : Ln w g v) {u : Nat → Nat} (hu : ∀ j, j < 64 → v j = u j) : Ln w g u := by
  obtain ⟨t, h⟩ := h
  exact ⟨t, by rw [h, lnA_congr hu]⟩
end
theorem lnA_zero : (#[.int .u64 0, .int .u64 0, .int .u64 0, .int .u64 0, .int .u64 0, .int .u64 0, .int .u64 0, .int .u64 0, .int .u64 0, .int .u64 0, .int .u64 0, .int .u64 0, .int .u64 0, .int .u64 0, .int .u64 0, .int .u64 0, .int .u64 0, .int .u64 0, .int .u64 0, .int .u64 0, .int .u64 0, .int .u64 0, .int .u64 0, .int .u64 0, .int .u64 0, .int .u64 0, .int .u64 0, .int .u64 0, .int .u64 0, .int .u64 0, .int .u64 0, .int .u64 0, .int .u64 0, .int .u64 0, .int .u64 0, .int .u64 0, .int .u64 0, .int .u64 0, .int .u64 0, .int .u64 0, .int .u64 0, .int .u64 0, .int .u64 0, .int .u64 0, .int .u64 0, .int .u64 0, .int .u64 0, .int .u64 0, .int .u64 0, .int .u64 0, .int .u64 0, .int .u64 0, .int .u64 0, .int .u64 0, .int .u64 0, .int .u64 0, .int .u64 0, .int .u64 0, .int .u64 0, .int .u64 0, .int .u64 0, .int .u64 0, .int .u64 0, .int .u64 0] : Array Value) = lnA fun _ => 0 := by rfl
theorem lineT_size : (Tryz.prog.info? 176).map (·.size) = some 64 := by kernel_rfl

section
variable {w : World} {g : Nat} {v u : Nat → Nat}
end
/-- the lines of a table -/
def Lns (w : World) (g n : Nat) (V : Nat → Nat → Nat) : Prop :=
  g < w.heap.size ∧ (∀ i j, i < n → j < 64 → w.cell? ⟨g, i * 64 + j, none⟩ = some (.int .u64 ((V i j : Nat) : Int))) ∧ ∀ k, w.frozen? ⟨g, k, none⟩ = false
section
variable {w w' : World} {g n : Nat} {V : Nat → Nat → Nat}
theorem Lns.below (h : Lns w g n V) (hb : Below w.heap.size w w') : Lns w' g n V :=
  ⟨Nat.lt_of_lt_of_le h.1 hb.size, fun i j hi hj => (hb.cell (p := ⟨g, _, none⟩) h.1).trans (h.2.1 i j hi hj), fun k => (hb.frozen (p := ⟨g, k, none⟩) h.1).trans (h.2.2 k)⟩
theorem Lns.set (h : Lns w g n V) {i j : Nat} (hi : i < n) (hj : j < 64) (x : Nat) : Lns (w.setCell ⟨g, i * 64 + j, none⟩ (.int .u64 ((x : Nat) : Int))) g n (fun a b => if a = i ∧ b = j then x else V a b) := by
  refine ⟨by simpa [World.setCell] using h.1, fun a b ha hb => ?_, fun k => by rw [World.frozen?_setCell]; exact h.2.2 k⟩
  show _ = some (Value.int .u64 ((if a = i ∧ b = j then x else V a b : Nat) : Int))
  by_cases e : a = i ∧ b = j
  · rw [if_pos e]
    obtain ⟨rfl, rfl⟩ := e
    rw [World.cell?_setCell_same' _ _ _ (by rw [h.2.1 _ _ ha hb]; rfl)]
  · rw [if_neg e, World.cell?_setCell_other _ _ _ _ (fun e2 => by injection e2 with _ e2; exact e ⟨by omega, by omega⟩), h.2.1 a b ha hb]
theorem Lns.other (h : Lns w g n V) {p : Addr} (hp : g ≠ p.block) (x : Value) : Lns (w.setCell p x) g n V :=
  ⟨by simpa [World.setCell] using h.1, fun a b ha hb => by rw [World.cell?_setCell_other _ _ _ _ (fun e => hp (by rw [e]))]; exact h.2.1 a b ha hb, fun k => by rw [World.frozen?_setCell]; exact h.2.2 k⟩
theorem Lns.alloc (h : Lns w g n V) (o : Obj) : Lns (w.alloc o) g n V := h.below (balloc (Below.refl _ _) o)
theorem Lns.drewN (h : Lns w g n V) (k : Nat) : Lns (w.drewN k) g n V := h
theorem Lns.drew (h : Lns w g n V) : Lns w.drew g n V := h
theorem Lns.congr (h : Lns w g n V) {U : Nat → Nat → Nat} (hu : ∀ i j, i < n → j < 64 → V i j = U i j) : Lns w g n U :=
  ⟨h.1, fun i j hi hj => by rw [h.2.1 i j hi hj, hu i j hi hj], h.2.2⟩
end
/-- a table: its record, and its lines -/
def Tb (w : World) (gt gl : Nat) (A : Option Addr) (m n : Nat) (V : Nat → Nat → Nat) : Prop :=
  Cs w gt #[.slice A m m, .int .i64 (n : Nat), .slice (some ⟨gl, 0, none⟩) n n] ∧ Lns w gl n V ∧ gt ≠ gl
end Go.Proofs.YtminplfgadhnnaaGreatDoor
end
