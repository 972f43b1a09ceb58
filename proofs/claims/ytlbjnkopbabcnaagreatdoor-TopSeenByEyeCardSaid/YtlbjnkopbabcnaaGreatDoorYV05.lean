/- VG -/
import Derived.Test.YtlbjnkopbabcnaaGreatDoorYV04
import Derived.Test.YtlbjnkopbabcnaaGreatDoorProg

section
namespace Go.Proofs.YtlbjnkopbabcnaaGreatDoor
open Ev Go.RowKit
/-- the cells of the two variables that the program reads, and their blocks -/
def glI : List (IntKind × List Int) := [(.i64, [1, 0, 0, 1]), (.u8, [0, 1, 56, 2, 57, 49, 28, 3, 61, 58, 42, 50, 38, 29, 17, 4, 62, 47, 59, 36, 45, 43, 51, 22, 53, 39, 33, 30, 24, 18, 12, 5, 63, 55, 48, 27, 60, 41, 37, 16, 46, 35, 44, 21, 52, 32, 23, 11, 54, 26, 40, 15, 34, 20, 31, 10, 25, 14, 19, 9, 13, 8, 7, 6])]
noncomputable def glC : List L := glI.map fun p => intsL p.1 p.2
def glG : List Nat := [0, 1]
theorem glG_map (g k : Nat) (h : gmap g = some k) : glG[k]? = some g := by
  unfold gmap at h
  rcases ifB_some h with ⟨h1, h2⟩ | ⟨_, h⟩
  · injection h2 with h2; subst h2; rw [beq_eq h1]; rfl
  · rcases ifB_some h with ⟨h1, h2⟩ | ⟨_, h⟩
    · injection h2 with h2; subst h2; rw [beq_eq h1]; rfl
    · cases h
theorem glG_one (k k' g : Nat) (h : glG[k]? = some g) (h' : glG[k']? = some g) : k = k' := by
  match k, k' with
  | 0, 0 => rfl
  | 1, 1 => rfl
  | 0, 1 => injection h with h; injection h' with h'; rw [← h] at h'; exact absurd h' (by decide)
  | 1, 0 => injection h with h; injection h' with h'; rw [← h] at h'; exact absurd h' (by decide)
  | k + 2, _ => cases h
  | _, k' + 2 => cases h'
/-- the world holds both variables -/
def GlobW (w : World) : Prop := ∀ (k g : Nat) (p : IntKind × List Int), glG[k]? = some g → glI[k]? = some p → ∀ j, j < p.2.length → w.cell? ⟨g, j, none⟩ = (p.2.map (Value.int p.1))[j]?
theorem glob_calls (hP : (Tryz.prog).follows .mixedOrders = true) {n f : Nat} (hy : yes Tryz.prog n f glC = true) (w : World) (hW : GlobW w) : Calls Tryz.prog f #[] w fun e w' => e = .returned (.bool true) ∧ Below w.heap.size w w' := by
  refine yes_calls hP hy glG rfl (by decide) glG_map glG_one w fun k g c hg hc => ?_
  match k with
  | 0 =>
    injection hc with hc; subst hc
    obtain ⟨ys, e, fr, q⟩ := cells_known (xs := ([1, 0, 0, 1] : List Int).map (Value.int .i64)) (by simp) (fun j hj => hW 0 g (.i64, [1, 0, 0, 1]) hg rfl j (by simpa using hj))
    exact ⟨_, ys, e, fr, fun ι => intsL_ok .i64 _, q⟩
  | 1 =>
    injection hc with hc; subst hc
    obtain ⟨ys, e, fr, q⟩ := cells_known (xs := ([0, 1, 56, 2, 57, 49, 28, 3, 61, 58, 42, 50, 38, 29, 17, 4, 62, 47, 59, 36, 45, 43, 51, 22, 53, 39, 33, 30, 24, 18, 12, 5, 63, 55, 48, 27, 60, 41, 37, 16, 46, 35, 44, 21, 52, 32, 23, 11, 54, 26, 40, 15, 34, 20, 31, 10, 25, 14, 19, 9, 13, 8, 7, 6] : List Int).map (Value.int .u8)) (by simp) (fun j hj => hW 1 g (.u8, [0, 1, 56, 2, 57, 49, 28, 3, 61, 58, 42, 50, 38, 29, 17, 4, 62, 47, 59, 36, 45, 43, 51, 22, 53, 39, 33, 30, 24, 18, 12, 5, 63, 55, 48, 27, 60, 41, 37, 16, 46, 35, 44, 21, 52, 32, 23, 11, 54, 26, 40, 15, 34, 20, 31, 10, 25, 14, 19, 9, 13, 8, 7, 6]) hg rfl j (by simpa using hj))
    exact ⟨_, ys, e, fr, fun ι => intsL_ok .u8 _, q⟩
  | k + 2 => cases hc
end Go.Proofs.YtlbjnkopbabcnaaGreatDoor
end
