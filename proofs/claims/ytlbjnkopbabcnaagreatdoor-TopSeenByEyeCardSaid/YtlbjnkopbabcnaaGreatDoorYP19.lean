/- PE6A -/
import Derived.Test.YtlbjnkopbabcnaaGreatDoorYB01
/- Fresh blocks of three numbers that a region makes and fills in whatever order; two rows of what the curves see. -/
section
namespace Go.Proofs.YtlbjnkopbabcnaaGreatDoor
open Go.RowKit Go.Shelf
set_option linter.unusedSimpArgs false
set_option linter.unusedVariables false

theorem Cs.set3 {w : World} {g : Nat} {a b c : Value} (h : Cs w g #[a, b, c]) (x y z : Value) : Cs (((w.setCell ⟨g, 0, none⟩ x).setCell ⟨g, 1, none⟩ y).setCell ⟨g, 2, none⟩ z) g #[x, y, z] :=
  ((h.set 0 x (by simp)).set 1 y (by simp)).set 2 z (by simp)
theorem Cs.other3 {w : World} {g g' : Nat} {cs : Array Value} (h : Cs w g cs) (hg : g ≠ g') (x y z : Value) : Cs (((w.setCell ⟨g', 0, none⟩ x).setCell ⟨g', 1, none⟩ y).setCell ⟨g', 2, none⟩ z) g cs :=
  ((h.other (p := ⟨g', 0, none⟩) hg x).other (p := ⟨g', 1, none⟩) hg y).other (p := ⟨g', 2, none⟩) hg z
theorem bset3 {w W : World} {g : Nat} (h : Below w.heap.size w W) (hg : w.heap.size ≤ g) (x y z : Value) : Below w.heap.size w (((W.setCell ⟨g, 0, none⟩ x).setCell ⟨g, 1, none⟩ y).setCell ⟨g, 2, none⟩ z) :=
  bset (bset2 h hg x y) (p := ⟨g, 2, none⟩) hg z
/-- a fresh block of three, if it is made; filled, if it is filled -/
def Mk3 (B : Nat) (W : World) (dn fl : Bool) (v : Value) (x y z : Int) : Prop :=
  (dn = true → ∃ g a b c, v = .pointer (some ⟨g, 0, none⟩) ∧ B ≤ g ∧ Cs W g #[a, b, c] ∧ (fl = true → a = .int .i64 x ∧ b = .int .i64 y ∧ c = .int .i64 z)) ∧ (dn = false → fl = false)
section
variable {B : Nat} {W W' : World} {dn fl : Bool} {v : Value} {x y z : Int} {g : Nat}
theorem Mk3.no (h1 : dn = false) (h2 : fl = false) : Mk3 B W dn fl v x y z := ⟨fun h => Bool.noConfusion (h1.symm.trans h), fun _ => h2⟩
theorem Mk3.below (h : Mk3 B W dn fl v x y z) (hb : Below W.heap.size W W') : Mk3 B W' dn fl v x y z :=
  ⟨fun hd => by obtain ⟨g, a, b, c, e1, e2, e3, e4⟩ := h.1 hd; exact ⟨g, a, b, c, e1, e2, e3.keep hb, e4⟩, h.2⟩
theorem Mk3.alloc (h : Mk3 B W dn fl v x y z) (o : Obj) : Mk3 B (W.alloc o) dn fl v x y z := h.below (balloc (Below.refl _ _) o)
theorem Mk3.new {a b c : Value} {t : TypeId} (h : Mk3 B W dn fl v x y z) (hd : dn = false) (hB : B ≤ W.heap.size) : Mk3 B (W.alloc (.cells #[a, b, c] t)) true fl (.pointer (some ⟨W.heap.size, 0, none⟩)) x y z :=
  ⟨fun _ => ⟨W.heap.size, a, b, c, rfl, hB, Cs.new W _ _ _ rfl, fun hf => by rw [h.2 hd] at hf; cases hf⟩, fun h => by cases h⟩
theorem Mk3.ne (h : Mk3 B W dn fl v x y z) (hd : dn = true) : v ≠ .pointer (some ⟨W.heap.size, 0, none⟩) := by
  obtain ⟨g, a, b, c, rfl, -, e3, -⟩ := h.1 hd
  intro e
  injection e with e; injection e with e; injection e with e
  have := e3.lt; omega
theorem Mk3.set (h : Mk3 B W dn fl (.pointer (some ⟨g, 0, none⟩)) x y z) (hd : dn = true) : Mk3 B (((W.setCell ⟨g, 0, none⟩ (.int .i64 x)).setCell ⟨g, 1, none⟩ (.int .i64 y)).setCell ⟨g, 2, none⟩ (.int .i64 z)) dn true (.pointer (some ⟨g, 0, none⟩)) x y z := by
  refine ⟨fun _ => ?_, fun h => by rw [hd] at h; cases h⟩
  obtain ⟨g', a, b, c, e1, e2, e3, e4⟩ := h.1 hd
  injection e1 with e1; injection e1 with e1; injection e1 with e1
  subst e1
  exact ⟨g, _, _, _, rfl, e2, e3.set3 _ _ _, fun _ => ⟨rfl, rfl, rfl⟩⟩
theorem Mk3.other {p q r : Value} (h : Mk3 B W dn fl v x y z) (hne : dn = true → v ≠ .pointer (some ⟨g, 0, none⟩)) : Mk3 B (((W.setCell ⟨g, 0, none⟩ p).setCell ⟨g, 1, none⟩ q).setCell ⟨g, 2, none⟩ r) dn fl v x y z :=
  ⟨fun hd => by
    obtain ⟨g', a, b, c, e1, e2, e3, e4⟩ := h.1 hd
    exact ⟨g', a, b, c, e1, e2, e3.other3 (fun e => hne hd (by rw [e1, e])) _ _ _, e4⟩, h.2⟩
theorem Mk3.out (h : Mk3 B W dn fl v x y z) (h1 : dn = true) (h2 : fl = true) : ∃ g, v = .pointer (some ⟨g, 0, none⟩) ∧ B ≤ g ∧ Cs W g #[.int .i64 x, .int .i64 y, .int .i64 z] := by
  obtain ⟨g, a, b, c, e1, e2, e3, e4⟩ := h.1 h1
  obtain ⟨rfl, rfl, rfl⟩ := e4 h2
  exact ⟨g, e1, e2, e3⟩
theorem Mk3.at_ (h : Mk3 B W dn fl v x y z) (h1 : dn = true) : ∃ g a b c, v = .pointer (some ⟨g, 0, none⟩) ∧ B ≤ g ∧ Cs W g #[a, b, c] := by
  obtain ⟨g, a, b, c, e1, e2, e3, e4⟩ := h.1 h1
  exact ⟨g, a, b, c, e1, e2, e3⟩
end
theorem bset3B {B : Nat} {w W : World} {g : Nat} (h : Below B w W) (hg : B ≤ g) (x y z : Value) : Below B w (((W.setCell ⟨g, 0, none⟩ x).setCell ⟨g, 1, none⟩ y).setCell ⟨g, 2, none⟩ z) :=
  ((h.setCell (p := ⟨g, 0, none⟩) hg x).setCell (p := ⟨g, 1, none⟩) hg y).setCell (p := ⟨g, 2, none⟩) hg z
/-- two calls, and two blocks that take what they give, in whatever order -/
structure JS (W1 : World) (B : Nat) (x1 x2 x3 y1 y2 y3 : Int) (d : Nat → Bool) (va vb vp vq : Value) (V : World) : Prop where
  hb : Below B W1 V
  hB : B ≤ V.heap.size
  c : d 4 = true → va = .agg #[.int .i64 x1, .int .i64 x2, .int .i64 x3]
  e : d 9 = true → vb = .agg #[.int .i64 y1, .int .i64 y2, .int .i64 y3]
  p : Mk3 B V (d 10) (d 12) vp x1 x2 x3
  q : Mk3 B V (d 11) (d 13) vq y1 y2 y3
  n : d 10 = true → d 11 = true → vp ≠ vq
end Go.Proofs.YtlbjnkopbabcnaaGreatDoor
end
