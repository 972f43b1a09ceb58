/- Small words for walks: what is kept below a block, blocks that are known whole, slices that read as lists. -/
import Derived.Test.YtcmllkjgggcghaaRows
import Derived.WalkKit
import Derived.WalkSpells
import Derived.WalkLawsBesides
import Derived.Lib.Hide
import Derived.Shelf.Abstract
import Derived.Deep.QuietTactic
import Derived.BigQuiet
namespace Go.Proofs.Ytcmllkjgggcghaa
open Go.RowKit Go.Shelf

theorem ret_int {k : IntKind} {a b : Int} (h : a = b) : Ending.returned (.int k a) = .returned (.int k b) := by rw [h]
theorem ret_bool {a b : Bool} (h : a = b) : Ending.returned (.bool a) = .returned (.bool b) := by rw [h]

theorem bdrewN {B : Nat} {a w : World} (h : Below B a w) (n : Nat) : Below B a (w.drewN n) := ⟨h.os, h.tape, h.output, h.size, h.block⟩
theorem bstep {w W w1 : World} (h : Below w.heap.size w W) (hb : Below W.heap.size W w1) : Below w.heap.size w w1 := h.trans (hb.mono h.size)
theorem balloc {w W : World} (h : Below w.heap.size w W) (o : Obj) : Below w.heap.size w (W.alloc o) := h.alloc h.size o
theorem bset {w W : World} (h : Below w.heap.size w W) {p : Addr} (hp : w.heap.size ≤ p.block) (u : Value) : Below w.heap.size w (W.setCell p u) := h.setCell hp u

/-- block g is known whole, and can be written -/
def Cs (w : World) (g : Nat) (cs : Array Value) : Prop := g < w.heap.size ∧ (∀ i, w.cell? ⟨g, i, none⟩ = cs[i]?) ∧ (∀ i, w.frozen? ⟨g, i, none⟩ = false)

theorem Cs.c {w : World} {g : Nat} {cs : Array Value} (h : Cs w g cs) : ∀ i, w.cell? ⟨g, i, none⟩ = cs[i]? := h.2.1
theorem Cs.f {w : World} {g : Nat} {cs : Array Value} (h : Cs w g cs) : ∀ i, w.frozen? ⟨g, i, none⟩ = false := h.2.2
theorem Cs.lt {w : World} {g : Nat} {cs : Array Value} (h : Cs w g cs) : g < w.heap.size := h.1
theorem Cs.new (w : World) (H : Nat) (cs : Array Value) (t : TypeId) (hH : w.heap.size = H) : Cs (w.alloc (.cells cs t)) H cs := by
  subst hH
  exact ⟨by simp, fun i => by simp, fun i => by simp⟩
theorem Cs.keep {W w1 : World} {g : Nat} {cs : Array Value} (h : Cs W g cs) (hb : Below W.heap.size W w1) : Cs w1 g cs :=
  ⟨Nat.lt_of_lt_of_le h.1 hb.size, fun i => (hb.cell (p := ⟨g, i, none⟩) h.1).trans (h.2.1 i), fun i => (hb.frozen (p := ⟨g, i, none⟩) h.1).trans (h.2.2 i)⟩
theorem Cs.alloc {w : World} {g : Nat} {cs : Array Value} (h : Cs w g cs) (o : Obj) : Cs (w.alloc o) g cs := h.keep (balloc (Below.refl _ _) o)
theorem Cs.drew {w : World} {g : Nat} {cs : Array Value} (h : Cs w g cs) : Cs w.drew g cs := h
theorem Cs.drewN {w : World} {g : Nat} {cs : Array Value} (h : Cs w g cs) (n : Nat) : Cs (w.drewN n) g cs := h
theorem Cs.set {w : World} {g : Nat} {cs : Array Value} (h : Cs w g cs) (k : Nat) (v : Value) (hk : k < cs.size) : Cs (w.setCell ⟨g, k, none⟩ v) g (cs.setIfInBounds k v) := by
  refine ⟨by simpa [World.setCell] using h.1, fun i => ?_, fun i => by rw [World.frozen?_setCell]; exact h.f i⟩
  by_cases hi : i = k
  · subst hi
    rw [World.cell?_setCell_same' _ _ _ (by rw [h.c]; simp [hk])]
    simp [hk]
  · rw [World.cell?_setCell_other _ _ _ _ (by intro e; injection e with _ e; exact hi e.symm), h.c, Array.getElem?_setIfInBounds_ne (by omega)]
theorem Cs.other {w : World} {g : Nat} {cs : Array Value} (h : Cs w g cs) {p : Addr} (hp : g ≠ p.block) (v : Value) : Cs (w.setCell p v) g cs :=
  ⟨by simpa [World.setCell] using h.1, fun i => by rw [World.cell?_setCell_other _ _ _ _ (by intro e; apply hp; rw [e])]; exact h.c i, fun i => by rw [World.frozen?_setCell]; exact h.f i⟩

theorem Cs.set2 {w : World} {g : Nat} {a b : Value} (h : Cs w g #[a, b]) (x y : Value) : Cs ((w.setCell ⟨g, 0, none⟩ x).setCell ⟨g, 1, none⟩ y) g #[x, y] :=
  (h.set 0 x (by simp)).set 1 y (by simp)
theorem Cs.set4 {w : World} {g : Nat} {a b c d : Value} (h : Cs w g #[a, b, c, d]) (x y z u : Value) :
    Cs ((((w.setCell ⟨g, 0, none⟩ x).setCell ⟨g, 1, none⟩ y).setCell ⟨g, 2, none⟩ z).setCell ⟨g, 3, none⟩ u) g #[x, y, z, u] :=
  (((h.set 0 x (by simp)).set 1 y (by simp)).set 2 z (by simp)).set 3 u (by simp)
theorem Cs.other2 {w : World} {g g' : Nat} {cs : Array Value} (h : Cs w g cs) (hg : g ≠ g') (x y : Value) : Cs ((w.setCell ⟨g', 0, none⟩ x).setCell ⟨g', 1, none⟩ y) g cs :=
  (h.other (p := ⟨g', 0, none⟩) hg x).other (p := ⟨g', 1, none⟩) hg y
theorem Cs.other4 {w : World} {g g' : Nat} {cs : Array Value} (h : Cs w g cs) (hg : g ≠ g') (x y z u : Value) :
    Cs ((((w.setCell ⟨g', 0, none⟩ x).setCell ⟨g', 1, none⟩ y).setCell ⟨g', 2, none⟩ z).setCell ⟨g', 3, none⟩ u) g cs :=
  (((h.other (p := ⟨g', 0, none⟩) hg x).other (p := ⟨g', 1, none⟩) hg y).other (p := ⟨g', 2, none⟩) hg z).other (p := ⟨g', 3, none⟩) hg u
theorem bset2 {w W : World} {g : Nat} (h : Below w.heap.size w W) (hg : w.heap.size ≤ g) (x y : Value) : Below w.heap.size w ((W.setCell ⟨g, 0, none⟩ x).setCell ⟨g, 1, none⟩ y) :=
  bset (bset h (p := ⟨g, 0, none⟩) hg x) (p := ⟨g, 1, none⟩) hg y
theorem bset4 {w W : World} {g : Nat} (h : Below w.heap.size w W) (hg : w.heap.size ≤ g) (x y z u : Value) :
    Below w.heap.size w ((((W.setCell ⟨g, 0, none⟩ x).setCell ⟨g, 1, none⟩ y).setCell ⟨g, 2, none⟩ z).setCell ⟨g, 3, none⟩ u) :=
  bset (bset (bset2 h hg x y) (p := ⟨g, 2, none⟩) hg z) (p := ⟨g, 3, none⟩) hg u

/-- a slice value that reads as a list of numbers -/
def Ints (w : World) (A : Option Addr) (n : Nat) (zs : List Int) : Prop :=
  zs.length = n ∧ (0 < n → ∃ b off, A = some ⟨b, off, none⟩ ∧ b < w.heap.size ∧ ∀ i, i < n → w.cell? ⟨b, off + i, none⟩ = some (.int .i64 (zs.getD i 0)))

theorem Ints.below {w w' : World} {A : Option Addr} {n : Nat} {zs : List Int} (h : Ints w A n zs) (hb : Below w.heap.size w w') : Ints w' A n zs := by
  refine ⟨h.1, fun hn => ?_⟩
  obtain ⟨b, off, rfl, hlt, hc⟩ := h.2 hn
  exact ⟨b, off, rfl, Nat.lt_of_lt_of_le hlt hb.size, fun i hi => (hb.cell (p := ⟨b, off + i, none⟩) hlt).trans (hc i hi)⟩

theorem Ints.new (w : World) (H : Nat) (zs : List Int) (t : TypeId) (hH : w.heap.size = H) : Ints (w.alloc (.cells (zs.map (Value.int .i64)).toArray t)) (some ⟨H, 0, none⟩) zs.length zs := by
  subst hH
  refine ⟨rfl, fun _ => ⟨w.heap.size, 0, rfl, by simp, fun i hi => ?_⟩⟩
  simp [hi]

end Go.Proofs.Ytcmllkjgggcghaa
