/- Small words for lists of numbers. -/
import Derived.Test.YtcmllkjgggcghaaUBase
namespace Go.Proofs.Ytcmllkjgggcghaa
open Go.RowKit Go.Shelf

theorem Ints.alloc {w : World} {A : Option Addr} {n : Nat} {zs : List Int} (h : Ints w A n zs) (o : Obj) : Ints (w.alloc o) A n zs := h.below (balloc (Below.refl _ _) o)
theorem Ints.drewN {w : World} {A : Option Addr} {n : Nat} {zs : List Int} (h : Ints w A n zs) (k : Nat) : Ints (w.drewN k) A n zs := h
theorem Ints.drew {w : World} {A : Option Addr} {n : Nat} {zs : List Int} (h : Ints w A n zs) : Ints w.drew A n zs := h
theorem Ints.new1 (w : World) (H : Nat) (x : Int) (t : TypeId) (hH : w.heap.size = H) : Ints (w.alloc (.cells #[.int .i64 x] t)) (some ⟨H, 0, none⟩) 1 [x] := Ints.new w H [x] t hH
theorem Ints.new2 (w : World) (H : Nat) (x y : Int) (t : TypeId) (hH : w.heap.size = H) : Ints (w.alloc (.cells #[.int .i64 x, .int .i64 y] t)) (some ⟨H, 0, none⟩) 2 [x, y] := Ints.new w H [x, y] t hH
theorem Ints.nil (w : World) (A : Option Addr) : Ints w A 0 [] := ⟨rfl, fun h => absurd h (by omega)⟩
theorem Ints.cell0 {w : World} {b o n : Nat} {zs : List Int} (h : Ints w (some ⟨b, o, none⟩) n zs) (k : Nat) (hk : k < n) : w.cell? ⟨b, o + k, none⟩ = some (.int .i64 (zs.getD k 0)) := by
  obtain ⟨b', o', e, _, hc⟩ := h.2 (by omega)
  injection e with e
  injection e with e1 e2
  subst e1 e2
  exact hc k hk

theorem Ints.tl {w : World} {b o n : Nat} {zs : List Int} (h : Ints w (some ⟨b, o, none⟩) n zs) (hn : 1 ≤ n) : Ints w (some ⟨b, o + 1, none⟩) (n - 1) zs.tail := by
  refine ⟨by rw [List.length_tail, h.1], fun _ => ?_⟩
  obtain ⟨b', o', e, hlt, hc⟩ := h.2 (by omega)
  injection e with e
  injection e with e1 e2
  subst e1 e2
  refine ⟨b, o + 1, rfl, hlt, fun i hi => ?_⟩
  have := hc (i + 1) (by omega)
  rw [show o + 1 + i = o + (i + 1) by omega, this]
  simp [List.getD_eq_getElem?_getD]


end Go.Proofs.Ytcmllkjgggcghaa
