/- PH1 -/
import Derived.Test.YtlbjnkopbabcnaaGreatDoorYP01
/- What a curve sees of an atlas: plain law of TopSeenByEye. -/
section
namespace Go.Proofs.YtlbjnkopbabcnaaGreatDoor
set_option linter.unusedSimpArgs false
set_option linter.unusedVariables false
namespace Mm
theorem sm_mulr (f : Nat → Int) (c : Int) : ∀ n : Nat, sm (fun b => f b * c) n = sm f n * c
  | 0 => by simp [sm]
  | n + 1 => by simp only [sm]; rw [sm_mulr f c n, Int.add_mul]
theorem sm_mull (f : Nat → Int) (c : Int) : ∀ n : Nat, sm (fun b => c * f b) n = c * sm f n
  | 0 => by simp [sm]
  | n + 1 => by simp only [sm]; rw [sm_mull f c n, Int.mul_add]
/-- the numbers on the right side, less those on the left one: r is a row of the plan, a what is seen of each chip, but b of the odd one -/
theorem side_eq {r : Nat → Int} {n k : Nat} (hk : k < n) (h0 : sm r n = 0) (a b : Int) : sm (fun m => r m * (if m = k then b else a)) n = r k * (b - a) := by
  have e : sm (fun m => r m * (if m = k then b else a)) n = sm (fun m => if m = k then r k * b else r m * a) n := sm_congr fun m _ => by
    by_cases q : m = k
    · subst q; simp
    · simp [q]
  rw [e, sm_upd, if_pos hk]
  have : sm (fun m => r m * a) n = 0 := by
    rw [sm_mulr r a n, h0, Int.zero_mul]
  rw [this, Int.mul_sub]
  omega
/-- the sign of a number -/
def sg5 (x : Int) : Int := if 0 < x then 1 else if x < 0 then -1 else 0
/-- the chip that faded gives less by s in each band -/
theorem odd_seen (p : Nat → Nat → Int) (c : Nat → Int) (s : Int) (n i : Nat) : seen p (fun b => c b - s) n i - seen p c n i = -(s * sm (p i) n) := by
  have : seen p (fun b => c b - s) n i = seen p c n i - sm (fun b => s * p i b) n := by
    unfold seen
    rw [← sm_sub]
    exact sm_congr fun b _ => by rw [Int.sub_mul]
  rw [this, sm_mull]
  omega
theorem eye_sign {all r s : Int} (hs : s = -1 ∨ s = 0 ∨ s = 1) (hr : r = -1 ∨ r = 0 ∨ r = 1) (h : 0 < all) : sg5 (-(r * -(s * all))) = s * r := by
  unfold sg5
  rcases hs with rfl | rfl | rfl <;> rcases hr with rfl | rfl | rfl <;> simp <;> omega
theorem eye_zero {all r s : Int} (h : all = 0) : r * -(s * all) = 0 := by subst h; simp
end Mm
end Go.Proofs.YtlbjnkopbabcnaaGreatDoor
end
