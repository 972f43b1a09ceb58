/- BM5 BC1 BC2 BC3 -/
import Derived.Test.YtminplfgadhnnaaGreatDoorTB02
import Derived.Test.YtminplfgadhnnaaGreatDoorTB10
import Derived.Laws.BitsAllLaws
import Derived.StillTailTactics
import Derived.Test.YtminplfgadhnnaaGreatDoorTB01
/- Plain laws of words of sixty-four rows. -/
section
set_option linter.unusedSimpArgs false
set_option linter.unusedVariables false
namespace Bm

/-- a number of bits, the lowest first -/
def wdL (f : Nat → Bool) : Nat → Nat → Nat
  | _, 0 => 0
  | b, m + 1 => 2 * wdL f (b + 1) m + (if f b then 1 else 0)
/-- the word with a number -/
def wd (f : Nat → Bool) (j : Nat) : Nat := wdL f (64 * j) 64
theorem wdL_lt (f : Nat → Bool) : ∀ m b, wdL f b m < 2 ^ m
  | 0, _ => by simp [wdL]
  | m + 1, b => by have := wdL_lt f m (b + 1); rw [wdL, Nat.pow_succ]; split <;> omega
theorem wdL_bit (f : Nat → Bool) : ∀ m b i, (wdL f b m).testBit i = (decide (i < m) && f (b + i))
  | 0, b, i => by simp [wdL]
  | m + 1, b, 0 => by
    rw [wdL, Nat.testBit_zero, Nat.add_zero]
    cases f b <;> simp <;> omega
  | m + 1, b, i + 1 => by
    rw [wdL, Nat.testBit_succ]
    have : (2 * wdL f (b + 1) m + (if f b then 1 else 0)) / 2 = wdL f (b + 1) m := by split <;> omega
    rw [this, wdL_bit f m (b + 1) i, show b + 1 + i = b + (i + 1) by omega]
    congr 1
    simp
theorem wd_lt (f : Nat → Bool) (j : Nat) : wd f j < 18446744073709551616 := wdL_lt f 64 _
theorem wd_bit (f : Nat → Bool) (j i : Nat) : (wd f j).testBit i = (decide (i < 64) && f (64 * j + i)) := wdL_bit f 64 _ i
theorem wd_eq {f : Nat → Bool} {j x : Nat} (hx : x < 18446744073709551616) (h : ∀ i, i < 64 → x.testBit i = f (64 * j + i)) : x = wd f j := by
  apply Nat.eq_of_testBit_eq
  intro i
  rw [wd_bit]
  rcases Nat.lt_or_ge i 64 with hi | hi
  · rw [h i hi]; simp [hi]
  · have : ¬ i < 64 := by omega
    rw [Nat.testBit_lt_two_pow (Nat.lt_of_lt_of_le hx (Nat.pow_le_pow_right (n := 2) (i := 64) (by omega) hi))]; simp [this]
theorem wd_congr {f g : Nat → Bool} {j : Nat} (h : ∀ i, i < 64 → f (64 * j + i) = g (64 * j + i)) : wd f j = wd g j :=
  wd_eq (wd_lt _ _) fun i hi => by rw [wd_bit]; simp [hi, h i hi]
/-- one word without the bits of another one -/
def anN (a b : Nat) : Nat := a &&& (18446744073709551615 - b)
theorem anN_lt {a b : Nat} (h : a < 18446744073709551616) : anN a b < 18446744073709551616 := Nat.lt_of_le_of_lt Nat.and_le_left h
theorem orN_lt {a b : Nat} (h : a < 18446744073709551616) (h2 : b < 18446744073709551616) : a ||| b < 18446744073709551616 := Nat.or_lt_two_pow (n := 64) h h2
theorem anN_bit {a b : Nat} (hb : b < 18446744073709551616) (i : Nat) (hi : i < 64) : (anN a b).testBit i = (a.testBit i && !b.testBit i) := by
  unfold anN
  have h := Nat.testBit_two_pow_sub_succ (n := 64) hb i
  rw [Nat.testBit_and, show 18446744073709551615 - b = 2 ^ 64 - (b + 1) by omega, h]
  simp [hi]
theorem wd_anN (f g : Nat → Bool) (j : Nat) : anN (wd f j) (wd g j) = wd (fun k => f k && !g k) j :=
  wd_eq (anN_lt (wd_lt _ _)) fun i hi => by rw [anN_bit (wd_lt _ _) i hi, wd_bit, wd_bit]; simp [hi]
theorem wd_or (f g : Nat → Bool) (j : Nat) : wd f j ||| wd g j = wd (fun k => f k || g k) j :=
  wd_eq (orN_lt (wd_lt _ _) (wd_lt _ _)) fun i hi => by rw [Nat.testBit_or, wd_bit, wd_bit]; simp [hi]
theorem wd_zero {f : Nat → Bool} {j : Nat} : wd f j = 0 ↔ ∀ i, i < 64 → f (64 * j + i) = false := by
  constructor
  · intro h i hi
    have := wd_bit f j i
    rw [h] at this
    simpa [hi] using this.symm
  · intro h
    symm
    exact wd_eq (by omega) fun i hi => by rw [h i hi]; simp
theorem wd_set {f : Nat → Bool} {j k : Nat} (hk : k / 64 = j) : wd f j ||| 2 ^ (k % 64) = wd (fun q => f q || decide (q = k)) j :=
  wd_eq (orN_lt (wd_lt _ _) (Nat.pow_lt_pow_right (a := 2) (n := 64) (by omega) (by omega))) fun i hi => by
    rw [Nat.testBit_or, wd_bit, Nat.testBit_two_pow]
    simp only [hi, decide_true, Bool.true_and]
    congr 1
    rw [Bool.eq_iff_iff]; simp; omega
/-- the words of a table's lines -/
def wds (T : Nat → Nat → Bool) (i j : Nat) : Nat := wd (T i) j
/-- no bit anywhere -/
theorem wd_all_zero {n : Nat} (hn : n ≤ 12) {f : Nat → Bool} : (∀ j, j < 64 → wd f j = 0) ↔ ∀ k, k < 4096 → f k = false := by
  constructor
  · intro h k hk
    have := wd_zero.1 (h (k / 64) (by omega)) (k % 64) (by omega)
    rwa [show 64 * (k / 64) + k % 64 = k by omega] at this
  · intro h j hj
    exact wd_zero.2 fun i hi => h _ (by omega)

end Bm
end

/- Lines of words in memory; walks of package bench: exchanged. -/
section
namespace Go.Proofs.YtminplfgadhnnaaGreatDoor
open Go.RowKit Go.Shelf
set_option linter.unusedSimpArgs false
set_option linter.unusedVariables false
open Bm (anN)

/-- a word as a value -/
def wv (x : Nat) : Value := .int .u64 ((x : Nat) : Int)
/-- a line's words -/
def lnA (v : Nat → Nat) : Array Value := ((List.range 64).map fun j => wv (v j)).toArray
theorem lnA_size (v : Nat → Nat) : (lnA v).size = 64 := by simp [lnA]
theorem lnA_get (v : Nat → Nat) {j : Nat} (hj : j < 64) : (lnA v)[j]? = some (wv (v j)) := by simp [lnA, hj]
theorem lnA_set (v : Nat → Nat) (x : Nat) {k : Nat} (hk : k < 64) : (lnA v).setIfInBounds k (wv x) = lnA (fun i => if i = k then x else v i) := by
  apply Array.ext
  · simp [lnA_size]
  · intro i h1 h2
    simp only [lnA, List.setIfInBounds_toArray, List.getElem_toArray, List.getElem_set, List.getElem_map, List.getElem_range]
    by_cases e : k = i
    · subst e; simp
    · rw [if_neg e, if_neg (fun h => e h.symm)]
theorem lnA_congr {v u : Nat → Nat} (h : ∀ j, j < 64 → v j = u j) : lnA v = lnA u := by
  unfold lnA
  congr 1
  exact List.map_congr_left fun j hj => by rw [h j (by simpa using hj)]
theorem lnA_one (v : Nat → Nat) : (lnA v).all (·.oneCell') = true := by
  rw [Array.all_eq_true]
  intro i hi
  rw [lnA_size] at hi
  have := lnA_get v hi
  rw [Array.getElem?_eq_getElem (by rw [lnA_size]; exact hi)] at this
  injection this with this
  rw [this]; rfl

/-- a block that is a line -/
def Ln (w : World) (g : Nat) (v : Nat → Nat) : Prop := ∃ t, w.heap[g]? = some (.cells (lnA v) t (0, 0))
section
variable {w w' : World} {g k : Nat} {v : Nat → Nat}
theorem Ln.lt (h : Ln w g v) : g < w.heap.size := by obtain ⟨t, h⟩ := h; exact (Array.getElem?_eq_some_iff.1 h).1
theorem Ln.cell (h : Ln w g v) (hk : k < 64) : w.cell? ⟨g, k, none⟩ = some (.int .u64 ((v k : Nat) : Int)) := by
  obtain ⟨t, h⟩ := h
  rw [cell_of_row w g k _ t _ h, lnA_get v hk]; rfl
theorem Ln.frozen (h : Ln w g v) (k : Nat) : w.frozen? ⟨g, k, none⟩ = false := by
  obtain ⟨t, h⟩ := h
  exact frozen_of_row w g k _ t h
theorem Ln.set (h : Ln w g v) (hk : k < 64) (x : Nat) : Ln (w.setCell ⟨g, k, none⟩ (.int .u64 ((x : Nat) : Int))) g (fun i => if i = k then x else v i) := by
  obtain ⟨t, h⟩ := h
  refine ⟨t, ?_⟩
  rw [heap_setCell_same w g k _ t _ h]
  congr 2
  exact lnA_set v x hk
theorem Ln.other (h : Ln w g v) {p : Addr} (hp : g ≠ p.block) (x : Value) : Ln (w.setCell p x) g v := by
  obtain ⟨t, h⟩ := h
  exact ⟨t, (heap_setCell_other w p g x hp).trans h⟩
theorem Ln.below (h : Ln w g v) (hb : Below w.heap.size w w') : Ln w' g v := by
  have hl := h.lt
  obtain ⟨t, h⟩ := h
  exact ⟨t, (hb.block g hl).trans h⟩
theorem Ln.alloc (h : Ln w g v) (o : Obj) : Ln (w.alloc o) g v := h.below (balloc (Below.refl _ _) o)
theorem Ln.drewN (h : Ln w g v) (n : Nat) : Ln (w.drewN n) g v := h
theorem Ln.drew (h : Ln w g v) : Ln w.drew g v := h
theorem Ln.congr (h : Ln w g v) {u : Nat → Nat} (hu : ∀ j, j < 64 → v j = u j) : Ln w g u := by
  obtain ⟨t, h⟩ := h
  exact ⟨t, by rw [h, lnA_congr hu]⟩
end
theorem lnA_zero : (#[.int .u64 0, .int .u64 0, .int .u64 0, .int .u64 0, .int .u64 0, .int .u64 0, .int .u64 0, .int .u64 0, .int .u64 0, .int .u64 0, .int .u64 0, .int .u64 0, .int .u64 0, .int .u64 0, .int .u64 0, .int .u64 0, .int .u64 0, .int .u64 0, .int .u64 0, .int .u64 0, .int .u64 0, .int .u64 0, .int .u64 0, .int .u64 0, .int .u64 0, .int .u64 0, .int .u64 0, .int .u64 0, .int .u64 0, .int .u64 0, .int .u64 0, .int .u64 0, .int .u64 0, .int .u64 0, .int .u64 0, .int .u64 0, .int .u64 0, .int .u64 0, .int .u64 0, .int .u64 0, .int .u64 0, .int .u64 0, .int .u64 0, .int .u64 0, .int .u64 0, .int .u64 0, .int .u64 0, .int .u64 0, .int .u64 0, .int .u64 0, .int .u64 0, .int .u64 0, .int .u64 0, .int .u64 0, .int .u64 0, .int .u64 0, .int .u64 0, .int .u64 0, .int .u64 0, .int .u64 0, .int .u64 0, .int .u64 0, .int .u64 0, .int .u64 0] : Array Value) = lnA fun _ => 0 := by rfl
theorem lineT_under : Tryz.prog.underlying 176 = some (.array 64 174) := by kernel_rfl
theorem lineT_size : (Tryz.prog.info? 176).map (·.size) = some 64 := by kernel_rfl

theorem list_store_row {ops : Array Oper} {rest : List Oper} {o : Oper} {a : Act} {w : World} {Q : Exit → Act → World → Prop} (hgd : o.guard = none) (ty : TypeId) (p x : Operand) (ho : o.op = .store ty p x)
    (g : Nat) (hp : a.eval p = .pointer (some ⟨g, 0, none⟩)) (t : TypeId) (old cells : Array Value) (hx : a.eval x = .agg cells) (hg : w.heap[g]? = some (.cells old t (0, 0))) (hi : (Tryz.prog.info? ty).map (·.size) = some cells.size)
    (hs : old.size = cells.size) (h1 : cells.all (·.oneCell') = true) (h : wpList Tryz.prog ops Q rest (a.put o.dst noResult) (w.setRow g cells)) : wpList Tryz.prog ops Q (o :: rest) a w := by
  refine wpList_plain hgd fun K hK => ?_
  unfold Oper.wp execOp
  simp only [ho, hx, hp, Instr.storeAt, Instr.sureAddr, Sem.run_bind, Sem.run_pure, Result.andThen_ok, run_storeVar_row w g t ty old cells hg hi hs h1]
  exact hK _ _ h
section
variable {w : World} {g : Nat} {v u : Nat → Nat}
theorem Ln.row (h : Ln w g v) (u : Nat → Nat) : Ln (w.setRow g (lnA u)) g u := by
  obtain ⟨t, h⟩ := h
  exact ⟨t, setRow_heap w g _ _ t _ h⟩
theorem Ln.rowOther (h : Ln w g v) {g' : Nat} (hg : g ≠ g') (cs : Array Value) : Ln (w.setRow g' cs) g v := by
  obtain ⟨t, h⟩ := h
  exact ⟨t, (setRow_other w g' g cs hg).trans h⟩
theorem bsetRow {w0 : World} {B : Nat} (h : Below B w0 w) (hg : B ≤ g) (cs : Array Value) : Below B w0 (w.setRow g cs) := below_setRow h hg cs
end
/-- the lines of a table -/
def Lns (w : World) (g n : Nat) (V : Nat → Nat → Nat) : Prop :=
  g < w.heap.size ∧ (∀ i j, i < n → j < 64 → w.cell? ⟨g, i * 64 + j, none⟩ = some (.int .u64 ((V i j : Nat) : Int))) ∧ ∀ k, w.frozen? ⟨g, k, none⟩ = false
section
variable {w w' : World} {g n : Nat} {V : Nat → Nat → Nat}
theorem Lns.below (h : Lns w g n V) (hb : Below w.heap.size w w') : Lns w' g n V :=
  ⟨Nat.lt_of_lt_of_le h.1 hb.size, fun i j hi hj => (hb.cell (p := ⟨g, _, none⟩) h.1).trans (h.2.1 i j hi hj), fun k => (hb.frozen (p := ⟨g, k, none⟩) h.1).trans (h.2.2 k)⟩
theorem Lns.set (h : Lns w g n V) {i j : Nat} (hi : i < n) (hj : j < 64) (x : Nat) : Lns (w.setCell ⟨g, i * 64 + j, none⟩ (.int .u64 ((x : Nat) : Int))) g n (fun a b => if a = i ∧ b = j then x else V a b) := by
  refine ⟨by simpa [World.setCell] using h.1, fun a b ha hb => ?_, fun k => by rw [World.frozen?_setCell]; exact h.2.2 k⟩
  show _ = some (Value.int .u64 ((if a = i ∧ b = j then x else V a b : Nat) : Int))
  by_cases e : a = i ∧ b = j
  · rw [if_pos e]
    obtain ⟨rfl, rfl⟩ := e
    rw [World.cell?_setCell_same' _ _ _ (by rw [h.2.1 _ _ ha hb]; rfl)]
  · rw [if_neg e, World.cell?_setCell_other _ _ _ _ (fun e2 => by injection e2 with _ e2; exact e ⟨by omega, by omega⟩), h.2.1 a b ha hb]
theorem Lns.other (h : Lns w g n V) {p : Addr} (hp : g ≠ p.block) (x : Value) : Lns (w.setCell p x) g n V :=
  ⟨by simpa [World.setCell] using h.1, fun a b ha hb => by rw [World.cell?_setCell_other _ _ _ _ (fun e => hp (by rw [e]))]; exact h.2.1 a b ha hb, fun k => by rw [World.frozen?_setCell]; exact h.2.2 k⟩
theorem Lns.alloc (h : Lns w g n V) (o : Obj) : Lns (w.alloc o) g n V := h.below (balloc (Below.refl _ _) o)
theorem Lns.drewN (h : Lns w g n V) (k : Nat) : Lns (w.drewN k) g n V := h
theorem Lns.drew (h : Lns w g n V) : Lns w.drew g n V := h
theorem Lns.congr (h : Lns w g n V) {U : Nat → Nat → Nat} (hu : ∀ i j, i < n → j < 64 → V i j = U i j) : Lns w g n U :=
  ⟨h.1, fun i j hi hj => by rw [h.2.1 i j hi hj, hu i j hi hj], h.2.2⟩
end
/-- a table: its record, and its lines -/
def Tb (w : World) (gt gl : Nat) (A : Option Addr) (m n : Nat) (V : Nat → Nat → Nat) : Prop :=
  Cs w gt #[.slice A m m, .int .i64 (n : Nat), .slice (some ⟨gl, 0, none⟩) n n] ∧ Lns w gl n V ∧ gt ≠ gl
def W64 (n : Nat) (V : Nat → Nat → Nat) : Prop := ∀ i j, i < n → j < 64 → V i j < 18446744073709551616

set_option maxRecDepth 100000 in
set_option maxHeartbeats 4000000 in
theorem exchanged_any (gt gl : Nat) (A : Option Addr) (m n a b : Nat) (V : Nat → Nat → Nat) (w : World) (hT : Tb w gt gl A m n V) (hW : W64 n V) (ha : a < n) (hb : b < n) (hn : n ≤ 12) :
    Calls Tryz.prog 156 #[.pointer (some ⟨gt, 0, none⟩), .agg #[.int .i64 (a : Nat), .int .i64 (b : Nat)]] w fun e w' => e = .returned (.agg (lnA fun j => anN (V b j) (V a j))) ∧ Below w.heap.size w w' := by
  obtain ⟨Ct, hL, hne⟩ := hT
  have HL := Lib.hid hL
  have HW := Lib.hid hW
  have hgl := hL.1
  have cCt := Ct.c
  have lCt := Ct.lt
  clear hL hW
  go_enter Tryz.func156, Tryz.ntmps156
  go_wp2_with fail
  obtain ⟨W0, hW0⟩ : ∃ W, ((w.alloc (.cells #[.int .i64 (a : Nat), .int .i64 (b : Nat)] 101)).alloc (.cells #[.int .u64 0, .int .u64 0, .int .u64 0, .int .u64 0, .int .u64 0, .int .u64 0, .int .u64 0, .int .u64 0, .int .u64 0, .int .u64 0, .int .u64 0, .int .u64 0, .int .u64 0, .int .u64 0, .int .u64 0, .int .u64 0, .int .u64 0, .int .u64 0, .int .u64 0, .int .u64 0, .int .u64 0, .int .u64 0, .int .u64 0, .int .u64 0, .int .u64 0, .int .u64 0, .int .u64 0, .int .u64 0, .int .u64 0, .int .u64 0, .int .u64 0, .int .u64 0, .int .u64 0, .int .u64 0, .int .u64 0, .int .u64 0, .int .u64 0, .int .u64 0, .int .u64 0, .int .u64 0, .int .u64 0, .int .u64 0, .int .u64 0, .int .u64 0, .int .u64 0, .int .u64 0, .int .u64 0, .int .u64 0, .int .u64 0, .int .u64 0, .int .u64 0, .int .u64 0, .int .u64 0, .int .u64 0, .int .u64 0, .int .u64 0, .int .u64 0, .int .u64 0, .int .u64 0, .int .u64 0, .int .u64 0, .int .u64 0, .int .u64 0, .int .u64 0] 176)).alloc (.cells #[.int .u64 0, .int .u64 0, .int .u64 0, .int .u64 0, .int .u64 0, .int .u64 0, .int .u64 0, .int .u64 0, .int .u64 0, .int .u64 0, .int .u64 0, .int .u64 0, .int .u64 0, .int .u64 0, .int .u64 0, .int .u64 0, .int .u64 0, .int .u64 0, .int .u64 0, .int .u64 0, .int .u64 0, .int .u64 0, .int .u64 0, .int .u64 0, .int .u64 0, .int .u64 0, .int .u64 0, .int .u64 0, .int .u64 0, .int .u64 0, .int .u64 0, .int .u64 0, .int .u64 0, .int .u64 0, .int .u64 0, .int .u64 0, .int .u64 0, .int .u64 0, .int .u64 0, .int .u64 0, .int .u64 0, .int .u64 0, .int .u64 0, .int .u64 0, .int .u64 0, .int .u64 0, .int .u64 0, .int .u64 0, .int .u64 0, .int .u64 0, .int .u64 0, .int .u64 0, .int .u64 0, .int .u64 0, .int .u64 0, .int .u64 0, .int .u64 0, .int .u64 0, .int .u64 0, .int .u64 0, .int .u64 0, .int .u64 0, .int .u64 0, .int .u64 0] 176) = W := ⟨_, rfl⟩
  have X0 : Cs W0 w.heap.size #[.int .i64 (a : Nat), .int .i64 (b : Nat)] := by rw [← hW0]; exact csA
  have X1 : Ln W0 (w.heap.size + 1) (fun _ => 0) := by
    rw [← hW0, lnA_zero]
    refine Ln.alloc ⟨176, ?_⟩ _
    have := heap_alloc_new (w.alloc (.cells #[.int .i64 (a : Nat), .int .i64 (b : Nat)] 101)) (.cells (lnA fun _ => 0) 176)
    simpa using this
  have X2 : Ln W0 (w.heap.size + 1 + 1) (fun _ => 0) := by
    rw [← hW0, lnA_zero]
    refine ⟨176, ?_⟩
    have := heap_alloc_new ((w.alloc (.cells #[.int .i64 (a : Nat), .int .i64 (b : Nat)] 101)).alloc (.cells (lnA fun _ => 0) 176)) (.cells (lnA fun _ => 0) 176)
    simpa using this
  have hb0 : Below w.heap.size w W0 := by rw [← hW0]; exact blA
  rw [hW0]
  have HX := Lib.hid (And.intro X0 (And.intro X1 (And.intro (X2.congr (u := fun i => if i < 0 then anN (V b i) (V a i) else 0) (fun j _ => by simp)) hb0)))
  clear X0 X1 X2 hb0 hW0
  go_loopw [7] (fun s7 wx => ∃ (j : Nat) (W : World), j ≤ 64 ∧ s7 = .int .i64 (j : Nat) ∧ Hid (W = wx) ∧ Hid (Cs W w.heap.size #[.int .i64 (a : Nat), .int .i64 (b : Nat)] ∧ Ln W (w.heap.size + 1) (fun _ => 0) ∧ Ln W (w.heap.size + 1 + 1) (fun i => if i < j then anN (V b i) (V a i) else 0) ∧ Below w.heap.size w W)) (fun s7 _ => 64 - (intOf s7).toNat)
  case atStart => exact ⟨0, _, by omega, rfl, Lib.hid rfl, HX⟩
  case round =>
    clear HX
    obtain ⟨j, W, hj, rfl, HWW, HX⟩ := hrel
    obtain rfl := HWW.out
    clear HWW
    by_cases hjl : j < 64
    · obtain ⟨X0, X1, X2, hbw⟩ := HX.out
      have Y := Ct.keep hbw
      have cY := Y.c
      have cX0 := X0.c
      have L2 := HL.out.below hbw
      have c0 := L2.2.1 a j ha hjl
      have c1 := L2.2.1 b j hb hjl
      have c2 := X2.cell hjl
      have f2 := X2.frozen
      have l2 := X2.lt
      have hj0 : ¬ j < j := by omega
      rw [if_neg hj0] at c2
      have hbits : bits .andNot .u64 ((V b j : Nat) : Int) ((V a j : Nat) : Int) = ((anN (V b j) (V a j) : Nat) : Int) := u64_andNot_nat _ _ (HW.out b j hb hjl) (HW.out a j ha hjl)
      obtain ⟨z, hz⟩ : ∃ z, anN (V b j) (V a j) = z := ⟨_, rfl⟩
      rw [hz] at hbits
      have Hz := Lib.hid hz
      obtain ⟨y, hy⟩ : ∃ z, V b j = z := ⟨_, rfl⟩
      rw [hy] at hbits c1
      obtain ⟨x, hx⟩ : ∃ z, V a j = z := ⟨_, rfl⟩
      rw [hx] at hbits c0
      clear hz hy hx Y X0 X1 X2 L2 hj0
      go_wp2_with fail
      go_still_tail 23, (by kernel_rfl)
      go_wp2_with fail
      go_roundw
      case rel =>
        obtain ⟨X0, X1, X2, hbw⟩ := HX.out
        refine ⟨j + 1, _, by omega, by go_num, Lib.hid rfl, Lib.hid ⟨?_, ?_, ?_, ?_⟩⟩
        · exact Cs.other X0.drew (p := ⟨w.heap.size + 1 + 1, j, none⟩) (by show w.heap.size ≠ w.heap.size + 1 + 1; omega) _
        · exact Ln.other X1.drew (p := ⟨w.heap.size + 1 + 1, j, none⟩) (by show w.heap.size + 1 ≠ w.heap.size + 1 + 1; omega) _
        · refine (Ln.set X2.drew hjl z).congr (fun i hi => ?_)
          show (if i = j then z else if i < j then anN (V b i) (V a i) else 0) = if i < j + 1 then anN (V b i) (V a i) else 0
          by_cases e : i = j
          · subst e; rw [if_pos rfl, if_pos (by omega), Hz.out]
          · rw [if_neg e]
            by_cases e2 : i < j
            · rw [if_pos e2, if_pos (by omega)]
            · rw [if_neg e2, if_neg (by omega)]
        · exact bset hbw.drew (p := ⟨w.heap.size + 1 + 1, j, none⟩) (by show w.heap.size ≤ w.heap.size + 1 + 1; omega) _
      case measure => simp [intOf]; omega
    · obtain rfl : j = 64 := by omega
      obtain ⟨X0, X1, X2, hbw⟩ := HX.out
      have X3 : Ln W (w.heap.size + 1 + 1) (fun i => anN (V b i) (V a i)) := X2.congr (fun i hi => by rw [if_pos hi])
      obtain ⟨t1, X1⟩ := X1
      obtain ⟨t3, X3⟩ := X3
      clear X0 X2 HX
      go_wp2_with (first | (refine wpList_load_row rfl _ _ rfl (w.heap.size + 1 + 1) (by rfl) t3 _ (0, 0) _ X3 lineT_under rfl (by rw [lineT_size, lnA_size]) ?_) | (refine list_store_row rfl _ _ _ rfl (w.heap.size + 1) (by rfl) t1 _ (lnA fun i => anN (V b i) (V a i)) (by rfl) X1 (by rw [lineT_size, lnA_size]) (by rw [lnA_size, lnA_size]) (lnA_one _) ?_))
      have X4 := setRow_heap W (w.heap.size + 1) _ (lnA fun i => anN (V b i) (V a i)) t1 _ X1
      exact bodyPost_ret (v := .agg (lnA fun i => anN (V b i) (V a i))) (results_cell_row (P := Tryz.prog) rfl _ _ (w.heap.size + 1) t1 _ (0, 0) _ (by rfl) X4 lineT_under rfl (by rw [lineT_size, lnA_size])) rfl ⟨rfl, bsetRow hbw (by omega) _⟩

end Go.Proofs.YtminplfgadhnnaaGreatDoor
end

/- Walks of package bench: exchange. -/
section
namespace Go.Proofs.YtminplfgadhnnaaGreatDoor
open Go.RowKit Go.Shelf
set_option linter.unusedSimpArgs false
set_option linter.unusedVariables false
open Bm (anN)

theorem Cs.of_heap {A B : World} {g : Nat} {cs : Array Value} (h : Cs A g cs) (hs : A.heap.size ≤ B.heap.size) (hb : B.heap[g]? = A.heap[g]?) : Cs B g cs :=
  ⟨Nat.lt_of_lt_of_le h.1 hs, fun i => by rw [← h.c i]; simp only [World.cell?, hb], fun i => by rw [← h.f i]; simp only [World.frozen?, hb]⟩
theorem Cs.turns {A B : World} {O : Nat → Prop} {g : Nat} {cs : Array Value} (h : Cs A g cs) (ht : Turns O A B) (hg : ¬ O g) : Cs B g cs := h.of_heap ht.size (ht.block g h.1 hg)
theorem Turns.drew {O : Nat → Prop} {A B : World} (h : Turns O A B) : Turns O A B.drew := ⟨h.os, h.tape, h.output, h.size, h.block⟩
theorem Ln.turns {A B : World} {O : Nat → Prop} {g : Nat} {v : Nat → Nat} (h : Ln A g v) (ht : Turns O A B) (hg : ¬ O g) : Ln B g v := by
  have hl := h.lt
  obtain ⟨t, h⟩ := h
  exact ⟨t, (ht.block g hl hg).trans h⟩
theorem Prs.turns {w w' : World} {O : Nat → Prop} {A : Option Addr} {n : Nat} {zs : List (Int × Int)} (h : Prs w A n zs) (ht : Turns O w w') (hO : ∀ b off, 0 < n → A = some ⟨b, off, none⟩ → ¬ O b) : Prs w' A n zs := by
  refine ⟨h.1, fun hn => ?_⟩
  obtain ⟨b, off, rfl, hlt, hc⟩ := h.2 hn
  have he := ht.block b hlt (hO b off hn rfl)
  refine ⟨b, off, rfl, Nat.lt_of_lt_of_le hlt ht.size, fun i x y hp => ?_⟩
  obtain ⟨h1, h2⟩ := hc i x y hp
  exact ⟨by rw [← h1]; simp only [World.cell?, he], by rw [← h2]; simp only [World.cell?, he]⟩

theorem run_index_ln (v : Nat → Nat) (j : Nat) (hj : j < 64) (w : World) : (Instr.index 176 (.agg (lnA v)) (.int .i64 (j : Int))).run Tryz.prog w = .ok (.int .u64 ((v j : Nat) : Int)) w := by
  have hu := lineT_under
  have h1 : 0 ≤ (j : Int) ∧ (j : Int) < 64 := by omega
  have hg := lnA_get v hj
  simp [Instr.index, run_underlying hu, asIntOf, h1, go_sem]
  rw [if_pos hj, hg]
  rfl

/-- the words behind an exchange -/
def exW (V : Nat → Nat → Nat) (a b : Nat) (R : Nat → Nat) (i j : Nat) : Nat := if i = a then V a j ||| R j else if i = b then anN (V b j) (R j) else V i j

set_option maxRecDepth 100000 in
set_option maxHeartbeats 8000000 in
theorem exchange_any (gt gl : Nat) (A : Option Addr) (m n a b : Nat) (V : Nat → Nat → Nat) (R : Nat → Nat) (w : World) (hT : Tb w gt gl A m n V) (hW : W64 n V) (hR : ∀ j, j < 64 → R j < 18446744073709551616) (hab : a < b) (hb : b < n) (hn : n ≤ 12) :
    Calls Tryz.prog 158 #[.pointer (some ⟨gt, 0, none⟩), .agg #[.int .i64 (a : Nat), .int .i64 (b : Nat)], .agg (lnA R)] w fun e w' => e = .returned (.tuple #[]) ∧ Lns w' gl n (exW V a b R) ∧ Turns (fun i => i = gl) w w' := by
  obtain ⟨Ct, hL, hne⟩ := hT
  have hgl := hL.1
  have lCt := Ct.lt
  have ha : a < n := by omega
  have hne' : ¬ gl = gt := fun e => hne e.symm
  obtain ⟨W0, hW0⟩ : ∃ W, (w.alloc (.cells #[.int .i64 (a : Nat), .int .i64 (b : Nat)] 101)).alloc (.cells (lnA R) 176) = W := ⟨_, rfl⟩
  have X0 : Cs W0 w.heap.size #[.int .i64 (a : Nat), .int .i64 (b : Nat)] := by rw [← hW0]; exact csA
  have X1 : W0.heap[w.heap.size + 1]? = some (.cells (lnA R) 176 (0, 0)) := by
    rw [← hW0]
    have := heap_alloc_new (w.alloc (.cells #[.int .i64 (a : Nat), .int .i64 (b : Nat)] 101)) (.cells (lnA R) 176)
    simpa using this
  have hb0 : Below w.heap.size w W0 := by rw [← hW0]; exact blA
  have HX := Lib.hid (And.intro X0 (And.intro (Ct.keep hb0) (And.intro ((hL.below hb0).congr (U := fun i j => if j < 0 then exW V a b R i j else V i j) (fun i j _ _ => by simp)) (And.intro (Turns.of_below (O := fun i => i = gl) hb0) hb0.size))))
  have HX1 := Lib.hid X1
  have HWW := Lib.hid hW
  have HRR := Lib.hid hR
  have HW0 := Lib.hid hW0
  clear X0 X1 hb0 hW0 hL hW hR Ct
  go_enter Tryz.func158, Tryz.ntmps158
  go_upto_region 1 with fail
  rw [HW0.out]
  clear HW0
  have X1 := HX1.out
  clear HX1
  go_wp2_with ((refine wpList_load_row rfl _ _ rfl (w.heap.size + 1) (by rfl) _ _ (0, 0) _ X1 lineT_under rfl (by rw [lineT_size, lnA_size]) ?_))
  clear X1
  go_loopw [9] (fun s9 wx => ∃ (j : Nat) (W : World), j ≤ 64 ∧ s9 = .int .i64 (j : Nat) ∧ Hid (W = wx) ∧ Hid (Cs W w.heap.size #[.int .i64 (a : Nat), .int .i64 (b : Nat)] ∧ Cs W gt #[.slice A m m, .int .i64 (n : Nat), .slice (some ⟨gl, 0, none⟩) n n] ∧ Lns W gl n (fun i q => if q < j then exW V a b R i q else V i q) ∧ Turns (fun i => i = gl) w W ∧ w.heap.size ≤ W.heap.size)) (fun s9 _ => 64 - (intOf s9).toNat)
  case atStart => exact ⟨0, _, by omega, rfl, Lib.hid rfl, HX⟩
  case round =>
    clear HX
    obtain ⟨j, W, hj, rfl, HW, HX⟩ := hrel
    obtain rfl := HW.out
    clear HW
    by_cases hjl : j < 64
    · obtain ⟨X0, Y, L2, hbw, hsW⟩ := HX.out
      have cY := Y.c
      have cX0 := X0.c
      have lX0 := X0.lt
      have fX0 := X0.f
      have hix := fun W => run_index_ln R j hjl W
      have c0 := L2.2.1 a j ha hjl
      have c1 := L2.2.1 b j hb hjl
      dsimp only at c0 c1
      rw [if_neg (show ¬ j < j by omega)] at c0 c1
      have f2 := L2.2.2
      have hR1 := HRR.out j hjl
      have hor : bits .or .u64 ((V a j : Nat) : Int) ((R j : Nat) : Int) = (((V a j ||| R j) : Nat) : Int) := u64_or_nat _ _ (HWW.out a j ha hjl) hR1
      have han : bits .andNot .u64 ((V b j : Nat) : Int) ((R j : Nat) : Int) = ((anN (V b j) (R j) : Nat) : Int) := u64_andNot_nat _ _ (HWW.out b j hb hjl) hR1
      obtain ⟨z1, hz1⟩ : ∃ z, V a j ||| R j = z := ⟨_, rfl⟩
      obtain ⟨z2, hz2⟩ : ∃ z, anN (V b j) (R j) = z := ⟨_, rfl⟩
      rw [hz1] at hor
      rw [hz2] at han
      have HL2 : Hid (∀ U : World, Lns U gl n (fun i q => if i = a ∧ q = j then z1 else if q < j then exW V a b R i q else V i q) → Lns (U.setCell ⟨gl, b * 64 + j, none⟩ (.int .u64 ((z2 : Nat) : Int))) gl n (fun i q => if q < j + 1 then exW V a b R i q else V i q)) := Lib.hid (fun U hU => by
        refine (hU.set hb hjl z2).congr (fun i q hi hq => ?_)
        show (if i = b ∧ q = j then z2 else if i = a ∧ q = j then z1 else if q < j then exW V a b R i q else V i q) = if q < j + 1 then exW V a b R i q else V i q
        by_cases e : q = j
        · subst e
          rw [if_pos (show q < q + 1 by omega)]
          unfold exW
          by_cases e1 : i = b
          · subst e1; rw [if_pos ⟨rfl, rfl⟩, if_neg (by omega), if_pos rfl, hz2]
          · rw [if_neg (fun h => e1 h.1)]
            by_cases e2 : i = a
            · subst e2; rw [if_pos ⟨rfl, rfl⟩, if_pos rfl, hz1]
            · rw [if_neg (fun h => e2 h.1), if_neg e2, if_neg e1, if_neg (by omega)]
        · rw [if_neg (fun h => e h.2), if_neg (fun h => e h.2)]
          by_cases e3 : q < j
          · rw [if_pos e3, if_pos (by omega)]
          · rw [if_neg e3, if_neg (by omega)])
      have HL1 := Lib.hid (L2.set ha hjl z1)
      obtain ⟨x1, hx1⟩ : ∃ z, V a j = z := ⟨_, rfl⟩
      obtain ⟨x2, hx2⟩ : ∃ z, V b j = z := ⟨_, rfl⟩
      obtain ⟨y, hy⟩ : ∃ z, R j = z := ⟨_, rfl⟩
      rw [hx1] at hor c0
      rw [hx2] at han c1
      rw [hy] at hor han hix
      have lgl : gl < W.heap.size := L2.1
      have nab : ¬ a * 64 + j = b * 64 + j := by omega
      have nba : ¬ b * 64 + j = a * 64 + j := by omega
      have n1 : ¬ gl = w.heap.size := by omega
      have n2 : ¬ w.heap.size = gl := by omega
      have c1' : (W.setCell ⟨gl, a * 64 + j, none⟩ (.int .u64 ((z1 : Nat) : Int))).drew.cell? ⟨gl, b * 64 + j, none⟩ = some (.int .u64 ((x2 : Nat) : Int)) := by
        show (W.setCell ⟨gl, a * 64 + j, none⟩ (.int .u64 ((z1 : Nat) : Int))).cell? _ = _
        rw [World.cell?_setCell_other _ _ _ _ (fun e => by injection e; omega)]; exact c1
      have Y1 : Cs (W.setCell ⟨gl, a * 64 + j, none⟩ (.int .u64 ((z1 : Nat) : Int))).drew gt #[.slice A m m, .int .i64 (n : Nat), .slice (some ⟨gl, 0, none⟩) n n] := (Y.other (p := ⟨gl, a * 64 + j, none⟩) hne _).drew
      have X1 : Cs (W.setCell ⟨gl, a * 64 + j, none⟩ (.int .u64 ((z1 : Nat) : Int))).drew w.heap.size #[.int .i64 (a : Nat), .int .i64 (b : Nat)] := (X0.other (p := ⟨gl, a * 64 + j, none⟩) n2 _).drew
      have T1 : Turns (fun i => i = gl) w (W.setCell ⟨gl, a * 64 + j, none⟩ (.int .u64 ((z1 : Nat) : Int))).drew := (hbw.trans (Turns.setCell (p := ⟨gl, a * 64 + j, none⟩) _ rfl)).drew
      have hs1 : w.heap.size ≤ (W.setCell ⟨gl, a * 64 + j, none⟩ (.int .u64 ((z1 : Nat) : Int))).drew.heap.size := T1.size
      have HY1 := Lib.hid (And.intro Y1 (And.intro X1 (And.intro T1 (And.intro hs1 (And.intro (Lns.drew HL1.out) c1')))))
      clear hz1 hz2 hx1 hx2 hy hR1 Y X0 L2 hbw c1' Y1 X1 T1 hs1 HL1
      go_wp2_with fail
      go_still_tail 14, (by kernel_rfl)
      go_wp2_with fail
      obtain ⟨Y1, X1, T1, hs1, L3, c1'⟩ := HY1.out
      clear HY1 HX cY cX0 lX0 fX0 c0 c1 f2 lgl
      generalize (W.setCell ⟨gl, a * 64 + j, none⟩ (.int .u64 ((z1 : Nat) : Int))).drew = U at *
      have HY2 := Lib.hid (And.intro Y1 (And.intro X1 (And.intro T1 (And.intro hs1 L3))))
      have cY := Y1.c
      have cX0 := X1.c
      have lX0 := X1.lt
      have fX0 := X1.f
      have f2 := L3.2.2
      clear Y1 X1 T1 L3
      go_still_tail 14, (by kernel_rfl)
      go_wp2_with fail
      go_roundw
      case rel =>
        obtain ⟨Y1, X1, T1, hs1, L3⟩ := HY2.out
        refine ⟨j + 1, _, by omega, by go_num, Lib.hid rfl, Lib.hid ⟨?_, ?_, ?_, ?_, ?_⟩⟩
        · exact (X1.other (p := ⟨gl, b * 64 + j, none⟩) n2 _).drew
        · exact (Y1.other (p := ⟨gl, b * 64 + j, none⟩) hne _).drew
        · exact (HL2.out U L3).drew
        · exact (T1.trans (Turns.setCell (p := ⟨gl, b * 64 + j, none⟩) _ rfl)).drew
        · exact (T1.trans (Turns.setCell (p := ⟨gl, b * 64 + j, none⟩) (.int .u64 ((z2 : Nat) : Int)) rfl)).size
      case measure => simp [intOf]; omega
    · obtain rfl : j = 64 := by omega
      go_wp2_with fail
      obtain ⟨X0, Y, L2, hbw, hsW⟩ := HX.out
      exact bodyPost_end (results_none rfl _ _ _) rfl ⟨rfl, L2.congr (fun i q hi hq => by rw [if_pos hq]), hbw⟩

end Go.Proofs.YtminplfgadhnnaaGreatDoor
end

/- Walks of package bench: newTable. -/
section
namespace Go.Proofs.YtminplfgadhnnaaGreatDoor
open Go.RowKit Go.Shelf
set_option linter.unusedSimpArgs false
set_option linter.unusedVariables false
open Bm (wd)

/-- cells of words of nought -/
def zerosU (k : Nat) : Array Value := (List.replicate k (Value.int .u64 0)).toArray
theorem run_makeL (n : Nat) (hn : n ≤ 1000) (w : World) : (Instr.makeSlice 204 (.int .i64 (n : Int)) (.int .i64 (n : Int))).run Tryz.prog w = .ok (.slice (some ⟨w.heap.size, 0, none⟩) n n) (w.alloc (.cells (zerosU (n * 64)) 176)) := by
  obtain ⟨i, hi, hz0, hs, hby⟩ := info3R (T := 176) (z := .agg (zerosU 64)) (s := 64) (b := 512) (by kernel_rfl)
  have h := run_make (P := Tryz.prog) w 204 176 i _ (by kernel_rfl) hi hz0 .i64 .i64 n n (by omega) (by omega) (by rw [hby]; omega) (by omega)
  rw [hs] at h
  have e : madeCells (Value.agg (zerosU 64)).cells ((n : Int).toNat * 64) = zerosU (n * 64) := by
    have hzs : (Value.agg (zerosU 64)).cells = zerosU 64 := rfl
    have hz64 : (zerosU 64).size = 64 := rfl
    rw [hzs]
    have hz : ∀ k i, i < k → (zerosU k)[i]! = .int .u64 0 := by
      intro k i h; simp [zerosU, h]
    unfold madeCells
    apply Array.ext
    · simp [zerosU]
    · intro i h1 h2
      have hi : i % 64 < 64 := Nat.mod_lt _ (by omega)
      rw [Array.getElem_map, Array.getElem_range, hz64, hz 64 _ hi]
      simp only [zerosU, List.getElem_toArray, List.getElem_replicate]
  rw [e] at h
  simpa using h

/-- the words of the rows up to a number, at a place -/
def vK (n k i j : Nat) : Nat := wd (fun q => decide (q < k) && q.testBit (n - 1 - i)) j
theorem vK_zero (n i j : Nat) : vK n 0 i j = 0 := Bm.wd_zero.2 fun q _ => by simp
theorem vK_lt (n k i j : Nat) : vK n k i j < 18446744073709551616 := Bm.wd_lt _ _
theorem vK_skip {n k i j : Nat} (h : k.testBit (n - 1 - i) = false) : vK n (k + 1) i j = vK n k i j :=
  Bm.wd_congr fun q _ => by
    by_cases e : 64 * j + q = k
    · rw [e, h]; simp
    · rw [show decide (64 * j + q < k + 1) = decide (64 * j + q < k) by rw [Bool.eq_iff_iff]; simp; omega]
theorem vK_set {n k i j : Nat} (h : k.testBit (n - 1 - i) = true) (hj : k / 64 = j) : vK n (k + 1) i j = vK n k i j ||| 2 ^ (k % 64) := by
  unfold vK
  rw [Bm.wd_set hj]
  exact Bm.wd_congr fun q _ => by
    by_cases e : 64 * j + q = k
    · rw [e, h]; simp
    · rw [show decide (64 * j + q < k + 1) = decide (64 * j + q < k) by rw [Bool.eq_iff_iff]; simp; omega]
      simp [e]
theorem vK_far {n k i j : Nat} (hj : k / 64 ≠ j) : vK n (k + 1) i j = vK n k i j :=
  Bm.wd_congr fun q hq => by
    rw [show decide (64 * j + q < k + 1) = decide (64 * j + q < k) by rw [Bool.eq_iff_iff]; simp; omega]

/-- the words while a row is entered: the first places have it -/
def vKK (n k i0 i j : Nat) : Nat := if i < i0 then vK n (k + 1) i j else vK n k i j
theorem vKK_start (n k i j : Nat) : vKK n k 0 i j = vK n k i j := if_neg (by omega)
theorem vKK_end {n k i j : Nat} (hi : i < n) : vKK n k n i j = vKK n (k + 1) 0 i j := by rw [vKK_start]; exact if_pos hi
theorem i64_and_one (n : Int) : bits .and .i64 n 1 = n % 2 := by
  have h1 : (BitVec.ofInt 64 1).toNat = 2 ^ 1 - 1 := by decide
  have key : (BitVec.ofInt 64 n &&& BitVec.ofInt 64 1).toNat = (n % ((2 ^ 64 : Nat) : Int)).toNat % 2 ^ 1 := by
    rw [BitVec.toNat_and, BitVec.toNat_ofInt, h1, Nat.and_two_pow_sub_one_eq_mod]
  show IntKind.i64.wrap ((BitVec.ofInt 64 n &&& BitVec.ofInt 64 1).toNat : Nat) = n % 2
  rw [key, IntKind.wrap_i64]
  omega
theorem and_one (k m : Nat) : bits .and .i64 ((k : Int) / 2 ^ m) 1 = Bm.b2i (k.testBit m) := by
  have e : ((k : Int) / 2 ^ m) = ((k / 2 ^ m : Nat) : Int) := by simp
  rw [e, Nat.testBit_eq_decide_div_mod_eq]
  rw [i64_and_one]
  rcases Nat.mod_two_eq_zero_or_one (k / 2 ^ m) with h | h
  · rw [h]; simp [Bm.b2i]; omega
  · rw [h]; simp [Bm.b2i]; omega

set_option maxRecDepth 100000 in
set_option maxHeartbeats 8000000 in
theorem newTable_any (A : Option Addr) (m n C : Nat) (w : World) (h2 : 2 ≤ n) (h12 : n ≤ 12) (hm : m ≤ 80) (hC : m ≤ C) :
    Calls Tryz.prog 128 #[.int .i64 (n : Nat), .slice A m C] w fun e w' => ∃ gt gl, e = .returned (.pointer (some ⟨gt, 0, none⟩)) ∧ Tb w' gt gl A m n (fun i j => vK n (2 ^ n) i j) ∧ w.heap.size ≤ gt ∧ w.heap.size ≤ gl ∧ Below w.heap.size w w' := by
  have hN := pow_le12 h12
  obtain ⟨N, hNN⟩ : ∃ N, 2 ^ n = N := ⟨_, rfl⟩
  rw [hNN] at hN ⊢
  have hsh := shl_one hNN hN
  have hmk := run_makeL n (by omega)
  have f0 : (0 : Int) ≤ (m : Int) := by omega
  have f1 : (m : Int) ≤ (C : Int) := by omega
  clear hNN
  go_enter Tryz.func128, Tryz.ntmps128
  go_wp2_with fail
  go_region
  go_wp2_with fail
  obtain ⟨W0, hW0⟩ : ∃ W, ((w.alloc (.cells (zerosU (n * 64)) 176)).alloc (.cells #[.slice A m m, .int .i64 (n : Nat), .slice (some ⟨w.heap.size, 0, none⟩) n n] 206)).drew = W := ⟨_, rfl⟩
  have Z0 : (w.alloc (.cells (zerosU (n * 64)) 176)).heap[w.heap.size]? = some (.cells (zerosU (n * 64)) 176 (0, 0)) := heap_alloc_new w _
  have L0 : Lns (w.alloc (.cells (zerosU (n * 64)) 176)) w.heap.size n (vKK n 0 0) := by
    refine ⟨by simp, fun i j hi hj => ?_, fun k => frozen_of_row _ _ k _ _ Z0⟩
    rw [cell_of_row _ _ _ _ _ _ Z0, vKK_start, vK_zero]
    have hlt : i * 64 + j < n * 64 := by have := Nat.mul_le_mul_right 64 (show i + 1 ≤ n from hi); omega
    simp [zerosU, hlt]
  have X0 : Tb W0 (w.heap.size + 1) w.heap.size A m n (vKK n 0 0) := by
    rw [← hW0]
    exact ⟨(Cs.new _ _ _ _ (by simp)).drew, (L0.alloc _).drew, by omega⟩
  have hb0 : Below w.heap.size w W0 := by rw [← hW0]; exact (balloc (balloc (Below.refl _ _) _) _).drew
  rw [hW0]
  have HX := Lib.hid (And.intro X0 hb0)
  clear X0 hb0 L0 Z0 hW0 hmk
  go_loopw [21, 29] (fun s21 _ wx => ∃ (k : Nat) (W : World), k ≤ N ∧ s21 = .int .i64 (k : Nat) ∧ Hid (W = wx) ∧ Hid (Tb W (w.heap.size + 1) w.heap.size A m n (vKK n k 0) ∧ Below w.heap.size w W)) (fun s21 _ _ => N - (intOf s21).toNat)
  case atStart => exact ⟨0, _, Nat.zero_le _, rfl, Lib.hid rfl, HX⟩
  case round =>
    clear HX
    obtain ⟨k, W, hk, rfl, HW, HX⟩ := hrel
    obtain rfl := HW.out
    clear HW
    by_cases hkN : k < N
    · obtain ⟨⟨Ct, L, -⟩, hbw⟩ := HX.out
      have cCt := Ct.c
      have lCt := Ct.lt
      clear Ct L hbw
      go_wp2_with fail
      clear cCt lCt
      go_loopw [29] (fun s29 wx => ∃ (i : Nat) (V : World), i ≤ n ∧ s29 = .int .i64 (i : Nat) ∧ Hid (V = wx) ∧ Hid (Tb V (w.heap.size + 1) w.heap.size A m n (vKK n k i) ∧ Below w.heap.size w V)) (fun s29 _ => n - (intOf s29).toNat)
      case atStart => exact ⟨0, _, Nat.zero_le _, rfl, Lib.hid rfl, HX⟩
      case round =>
        clear HX
        obtain ⟨i, V, hi, rfl, HV, HX⟩ := hrel
        obtain rfl := HV.out
        clear HV
        by_cases hin : i < n
        · obtain ⟨⟨Ct, L, hne⟩, hbw⟩ := HX.out
          have cCt := Ct.c
          have lCt := Ct.lt
          have i1 : (i : Int) ≤ (n : Int) - 1 := by omega
          have han := and_one k (n - 1 - i)
          have c0 := L.2.1 i (k / 64) hin (by omega)
          have fL := L.2.2
          have lL := L.1
          rw [show vKK n k i i (k / 64) = vK n k i (k / 64) from if_neg (by omega)] at c0
          cases hbt : k.testBit (n - 1 - i) with
          | false =>
            rw [hbt] at han
            change _ = (0 : Int) at han
            have hS : ∀ a b, a < n → b < 64 → vKK n k i a b = vKK n k (i + 1) a b := fun a b ha hb => by
              unfold vKK
              by_cases e : a = i
              · subst e; rw [if_neg (by omega), if_pos (by omega), vK_skip hbt]
              · by_cases e2 : a < i
                · rw [if_pos e2, if_pos (by omega)]
                · rw [if_neg e2, if_neg (by omega)]
            have HN := Lib.hid (And.intro (show Tb V (w.heap.size + 1) w.heap.size A m n (vKK n k (i + 1)) from ⟨Ct, L.congr hS, hne⟩) hbw)
            clear Ct L hbw HX hS hbt
            go_wp2_with fail
            go_roundw
            case rel => exact ⟨i + 1, _, by omega, by go_num, Lib.hid rfl, HN⟩
            case measure => simp [intOf]; omega
          | true =>
            rw [hbt] at han
            change _ = (1 : Int) at han
            obtain ⟨x, hx⟩ : ∃ x, vK n k i (k / 64) = x := ⟨_, rfl⟩
            rw [hx] at c0
            have hxl : x < 18446744073709551616 := by rw [← hx]; exact vK_lt _ _ _ _
            have hpl : 2 ^ (k % 64) < 18446744073709551616 := Nat.pow_lt_pow_right (a := 2) (n := 64) (by omega) (by omega)
            have hor : bits .or .u64 ((x : Nat) : Int) ((2 ^ (k % 64) : Nat) : Int) = ((x ||| 2 ^ (k % 64) : Nat) : Int) := u64_or_nat _ _ hxl hpl
            have t1 : (k : Int).tdiv 64 = ((k / 64 : Nat) : Int) := by rw [Int.tdiv_eq_ediv_of_nonneg (by omega)]; rfl
            have t2 : (k : Int).tmod 64 = ((k % 64 : Nat) : Int) := by rw [Int.tmod_eq_emod_of_nonneg (by omega)]; rfl
            have t3 : IntKind.i64.wrap ((k / 64 : Nat) : Int) = ((k / 64 : Nat) : Int) := IntWalk.i64_in _ (by omega)
            have t4 : IntKind.i64.wrap ((k % 64 : Nat) : Int) = ((k % 64 : Nat) : Int) := IntWalk.i64_in _ (by omega)
            have Hk1 : Hid (k / 64 = k / 64) := Lib.hid rfl
            have hr64 : k % 64 < 64 := Nat.mod_lt _ (by omega)
            have hj64 : k / 64 < 64 := by omega
            obtain ⟨jj, hjj⟩ : ∃ j, k / 64 = j := ⟨_, rfl⟩
            obtain ⟨rr, hrr⟩ : ∃ j, k % 64 = j := ⟨_, rfl⟩
            rw [hjj] at t1 t3 c0 hx hj64
            rw [hrr] at t2 t4 hor hr64
            have hpw : IntKind.u64.wrap ((2 : Int) ^ rr) = ((2 ^ rr : Nat) : Int) := by
              rw [IntKind.wrap_u64]
              have e : ((2 : Int) ^ rr) = ((2 ^ rr : Nat) : Int) := by simp
              have hlt : 2 ^ rr < 18446744073709551616 := Nat.pow_lt_pow_right (a := 2) (n := 64) (by omega) (by omega)
              rw [e]
              generalize 2 ^ rr = y at hlt ⊢
              omega
            have hor2 : bits .or .u64 ((x : Nat) : Int) ((2 : Int) ^ rr) = ((x ||| 2 ^ rr : Nat) : Int) := by
              rw [← hor]; congr 1
            have t5 : (0 : Int) ≤ (jj : Int) := by omega
            have t6 : (jj : Int) < 64 := by omega
            have t7 : (0 : Int) ≤ (rr : Int) := by omega
            have t8 : (rr : Int) < 64 := by omega
            have Hh := Lib.hid (And.intro hx (And.intro hjj hrr))
            obtain ⟨z, hz⟩ : ∃ z, x ||| 2 ^ rr = z := ⟨_, rfl⟩
            rw [hz] at hor hor2
            have hS : ∀ a b, a < n → b < 64 → (if a = i ∧ b = jj then z else vKK n k i a b) = vKK n k (i + 1) a b := fun a b ha hb => by
              unfold vKK
              by_cases e : a = i
              · subst e
                rw [if_neg (show ¬ a < a by omega), if_pos (show a < a + 1 by omega)]
                by_cases e2 : b = jj
                · subst e2
                  rw [if_pos ⟨rfl, rfl⟩, vK_set hbt hjj, hx, hrr, hz]
                · rw [if_neg (fun h => e2 h.2), vK_far (by omega)]
              · rw [if_neg (fun h => e h.1)]
                by_cases e2 : a < i
                · rw [if_pos e2, if_pos (by omega)]
                · rw [if_neg e2, if_neg (by omega)]
            have HN : Hid (Tb (V.setCell ⟨w.heap.size, i * 64 + jj, none⟩ (.int .u64 ((z : Nat) : Int))).drew (w.heap.size + 1) w.heap.size A m n (vKK n k (i + 1)) ∧ Below w.heap.size w (V.setCell ⟨w.heap.size, i * 64 + jj, none⟩ (.int .u64 ((z : Nat) : Int))).drew) :=
              Lib.hid ⟨⟨(Ct.other (p := ⟨w.heap.size, i * 64 + jj, none⟩) hne _).drew, ((L.set hin hj64 z).congr hS).drew, hne⟩, (bset hbw (p := ⟨w.heap.size, i * 64 + jj, none⟩) (Nat.le_refl _) _).drew⟩
            clear Ct L hbw hxl hpl hx hjj hrr Hk1 hS hz Hh HX hbt
            go_wp2_with fail
            go_region
            go_wp2_with fail
            go_roundw
            case rel => exact ⟨i + 1, _, by omega, by go_num, Lib.hid rfl, HN⟩
            case measure => simp [intOf]; omega
        · obtain rfl : i = n := by omega
          have HN : Hid (Tb V (w.heap.size + 1) w.heap.size A m i (vKK i (k + 1) 0) ∧ Below w.heap.size w V) := Lib.hid ⟨⟨HX.out.1.1, HX.out.1.2.1.congr fun a b ha _ => vKK_end ha, HX.out.1.2.2⟩, HX.out.2⟩
          clear HX
          go_wp2_with fail
          go_roundw
          case rel => exact ⟨k + 1, _, by omega, by go_num, Lib.hid rfl, HN⟩
          case measure => simp [intOf]; omega
    · obtain rfl : k = N := by omega
      have HN : Hid (Tb W (w.heap.size + 1) w.heap.size A m n (fun i j => vK n k i j) ∧ Below w.heap.size w W) := Lib.hid ⟨⟨HX.out.1.1, HX.out.1.2.1.congr fun a b _ _ => vKK_start _ _ _ _, HX.out.1.2.2⟩, HX.out.2⟩
      clear HX
      go_wp2_with fail
      go_ret
      exact ⟨w.heap.size + 1, w.heap.size, rfl, HN.out.1, by omega, Nat.le_refl _, HN.out.2⟩

end Go.Proofs.YtminplfgadhnnaaGreatDoor
end
