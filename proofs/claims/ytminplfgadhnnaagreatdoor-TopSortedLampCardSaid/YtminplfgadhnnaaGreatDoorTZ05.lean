/- ZA4 -/
import Derived.Test.YtminplfgadhnnaaGreatDoorTZ04
import Derived.Test.YtminplfgadhnnaaGreatDoorTB17
/- Walks of the reference of layer 3: Gap, Sum; rows that can be written. -/
section
namespace Go.Proofs.YtminplfgadhnnaaGreatDoor
open Go.RowKit Go.Shelf
set_option linter.unusedSimpArgs false
set_option linter.unusedVariables false
open Zm

theorem gapF_bd {an : List Int} {ls : List (Int × Int)} {fs : List Bool} {ws : List Int} (h : LampOk an ls fs ws) {k : Nat} (h1 : 1 ≤ k) (hk : k < ws.length) : gapN an k + 1 < an.length ∧ aN an (gapN an k) < k ∧ k ≤ aN an (gapN an k + 1) := by
  obtain ⟨i, a, b, c⟩ := gap_ex h h1 (an.length - 1) (by have := h.n2; omega) (by have := h.wsl; omega)
  rw [gapN_eq h (by omega) b c]
  exact ⟨by omega, b, c⟩

set_option maxRecDepth 100000 in
set_option maxHeartbeats 4000000 in
theorem zgap_any (A1 : Option Addr) (n1 c1 : Nat) (A2 : Option Addr) (n2 c2 : Nat) (A3 : Option Addr) (n3 c3 : Nat) (A4 : Option Addr) (n4 c4 : Nat) (an : List Int) (ls : List (Int × Int)) (fs : List Bool) (ws : List Int) (k : Nat) (w : World) (h : Lmp w A1 n1 c1 A2 n2 c2 A3 n3 c3 A4 n4 c4 an ls fs ws) (ho : LampOk an ls fs ws) (h1 : 1 ≤ k) (hk : k < n4) :
    Calls Tryz.prog 39 #[.agg #[.slice A1 n1 c1, .slice A2 n2 c2, .slice A3 n3 c3, .slice A4 n4 c4], .int .i64 (an.getD 0 0 + (k : Nat))] w fun e w' => e = .returned (.int .i64 (gapN an k : Nat)) ∧ Below w.heap.size w w' := by
  have hl1 := h.h1.1
  have hl4 := h.h4.1
  have hn2 := ho.n2
  have Hlast : Hid (k ≤ aN an (n1 - 1)) := Lib.hid (by have := ho.wsl; rw [hl1] at this; omega)
  have Hint := Lib.hid (fun i hi => ho.aN_int (i := i) hi)
  have hb0 := ho.bd 0 (by omega)
  have hws := ho.ws91
  have Hz := Lib.hid h.h1
  obtain ⟨g, hg⟩ : ∃ g, gapN an k = g := ⟨_, rfl⟩
  have Hg : Hid (gapF an k n1 0 = g) := Lib.hid (by rw [← hg, ← hl1]; rfl)
  rw [hg]
  have Hbd := Lib.hid (fun i hi => ho.bd i hi)
  generalize an.getD 0 0 = a0 at *
  have hn10 : n1 ≤ 10 := by have := ho.n10; omega
  clear h ho hg
  go_enter Tryz.func39, Tryz.ntmps39
  have B2 : Cs (w.alloc (.cells #[.slice A1 n1 c1, .slice A2 n2 c2, .slice A3 n3 c3, .slice A4 n4 c4] 26)) w.heap.size #[.slice A1 n1 c1, .slice A2 n2 c2, .slice A3 n3 c3, .slice A4 n4 c4] := csA
  have HB2 := Lib.hid B2
  clear B2
  go_wp2_with fail
  go_loopw [5] (fun s5 wx => ∃ (i : Nat) (W : World), i + 1 < n1 ∧ s5 = .int .i64 (i : Nat) ∧ Hid (gapF an k (n1 - i) i = g) ∧ Hid (W = wx) ∧ Cs W w.heap.size #[.slice A1 n1 c1, .slice A2 n2 c2, .slice A3 n3 c3, .slice A4 n4 c4] ∧ Below w.heap.size w W) (fun s5 _ => n1 - (intOf s5).toNat)
  case atStart => exact ⟨0, _, by omega, rfl, Hg, Lib.hid rfl, HB2.out, blA⟩
  case round =>
    clear HB2
    obtain ⟨i, W, hi, rfl, Hi, HW, B2, hbw⟩ := hrel
    obtain rfl := HW.out
    clear HW
    have cB2 := B2.c
    have fB2 := B2.f
    have lB2 := B2.lt
    obtain ⟨b, off, rfl, _, ci⟩ := Hz.out.at0 hbw hi
    have hst := Hi.out
    have hint := Hint.out (i + 1) (by omega)
    have hbd := Hbd.out (i + 1) (by omega)
    rw [show n1 - i = n1 - (i + 1) + 1 by omega, gapF] at hst
    obtain ⟨a, ha⟩ : ∃ a, an.getD (i + 1) 0 = a := ⟨_, rfl⟩
    rw [ha] at ci hint hbd
    have hi1 : (i : Int) + 1 < (n1 : Int) := by omega
    by_cases hlt : aN an (i + 1) < k
    · rw [if_pos hlt] at hst
      have Hst := Lib.hid hst
      have hlast : i + 1 + 1 < n1 := by
        have := Hlast.out
        by_cases e : i + 1 = n1 - 1
        · rw [e] at hlt; omega
        · omega
      have d1 : decide (a < a0 + (k : Int)) = true := by simp; omega
      have d2 : a < a0 + (k : Int) := by omega
      clear hst Hi hint ha hlt
      go_wp2_with fail
      go_roundw
      case rel => exact ⟨i + 1, _, hlast, by go_num, Hst, Lib.hid rfl, csA, blA⟩
      case measure => simp [intOf]; omega
    · rw [if_neg hlt] at hst
      subst hst
      have d1 : decide (a < a0 + (k : Int)) = false := by simp; omega
      have d2 : ¬ a < a0 + (k : Int) := by omega
      clear Hi hint ha hlt
      go_wp2_with fail
      go_ret
      exact ⟨rfl, blA⟩

/-- the sum of numbers by weights -/
def sumZ (ws xs : List Int) : Nat → Int
  | 0 => 0
  | k + 1 => sumZ ws xs k + ws.getD k 0 * xs.getD k 0
theorem sumZ_bd {ws xs : List Int} (hw : ∀ k, k < ws.length → 0 ≤ ws.getD k 0 ∧ ws.getD k 0 ≤ 1000) (hx : ∀ k, k < ws.length → -100000 ≤ xs.getD k 0 ∧ xs.getD k 0 ≤ 100000) : ∀ k, k ≤ ws.length → -100000000 * (k : Int) ≤ sumZ ws xs k ∧ sumZ ws xs k ≤ 100000000 * (k : Int)
  | 0, _ => by simp [sumZ]
  | k + 1, hk => by
    obtain ⟨a, b⟩ := sumZ_bd hw hx k (by omega)
    have h1 := hw k (by omega)
    have h2 := hx k (by omega)
    rw [sumZ]
    generalize ws.getD k 0 = u at *
    generalize xs.getD k 0 = v at *
    have m1 : u * v ≤ 1000 * 100000 := Int.le_trans (Int.mul_le_mul_of_nonneg_left h2.2 h1.1) (Int.mul_le_mul_of_nonneg_right h1.2 (by omega))
    have m2 : u * (-v) ≤ 1000 * 100000 := Int.le_trans (Int.mul_le_mul_of_nonneg_left (show -v ≤ 100000 by omega) h1.1) (Int.mul_le_mul_of_nonneg_right h1.2 (by omega))
    rw [Int.mul_neg] at m2
    omega

set_option maxHeartbeats 4000000 in
theorem zrsum_any (A B : Option Addr) (n m c d : Nat) (ws xs : List Int) (w : World) (h1 : Ints w A n ws) (h2 : Ints w B m xs) (hnm : n ≤ m) (hn : n ≤ 1000) (hw : ∀ k, k < ws.length → 0 ≤ ws.getD k 0 ∧ ws.getD k 0 ≤ 1000) (hx : ∀ k, k < ws.length → -100000 ≤ xs.getD k 0 ∧ xs.getD k 0 ≤ 100000) :
    Calls Tryz.prog 92 #[.slice A n c, .slice B m d] w fun e w' => e = .returned (.int .i64 (sumZ ws xs n)) ∧ Below w.heap.size w w' := by
  have hl1 := h1.1
  have H1 := Lib.hid h1
  have H2 := Lib.hid h2
  have Hbd := Lib.hid (sumZ_bd hw hx)
  have Hw := Lib.hid hw
  have Hx := Lib.hid hx
  clear h1 h2 hw hx
  go_enter Tryz.func92, Tryz.ntmps92
  go_wp2_with fail
  go_loopw [5, 6] (fun s5 s6 wx => ∃ (i : Nat), i ≤ n ∧ s6 = .int .i64 (i : Nat) ∧ s5 = .int .i64 (sumZ ws xs i) ∧ Below w.heap.size w wx) (fun _ s6 _ => n - (intOf s6).toNat)
  case atStart => exact ⟨0, Nat.zero_le _, rfl, rfl, blA⟩
  case round =>
    obtain ⟨i, hi, rfl, rfl, hbw⟩ := hrel
    by_cases hin : i < n
    · obtain ⟨b, off, rfl, _, ca⟩ := H1.out.at0 hbw hin
      obtain ⟨b', off', rfl, _, cb⟩ := H2.out.at0 hbw (show i < m by omega)
      have hs : sumZ ws xs (i + 1) = sumZ ws xs i + ws.getD i 0 * xs.getD i 0 := rfl
      obtain ⟨l1, l2⟩ := Hbd.out i (by omega)
      obtain ⟨l3, l4⟩ := Hbd.out (i + 1) (by omega)
      rw [hs] at l3 l4
      have Hs := Lib.hid hs
      have e1 := Hw.out i (by omega)
      have e2 := Hx.out i (by omega)
      generalize sumZ ws xs i = s at *
      generalize ws.getD i 0 = u at *
      generalize xs.getD i 0 = v at *
      have m1 : u * v ≤ 1000 * 100000 := Int.le_trans (Int.mul_le_mul_of_nonneg_left e2.2 e1.1) (Int.mul_le_mul_of_nonneg_right e1.2 (by omega))
      have m2 : u * (-v) ≤ 1000 * 100000 := Int.le_trans (Int.mul_le_mul_of_nonneg_left (show -v ≤ 100000 by omega) e1.1) (Int.mul_le_mul_of_nonneg_right e1.2 (by omega))
      rw [Int.mul_neg] at m2
      have f1 : IntKind.i64.wrap (u * v) = u * v := IntWalk.i64_in _ (by omega)
      have f2 : IntKind.i64.wrap (s + u * v) = s + u * v := IntWalk.i64_in _ (by omega)
      have hnm' : (i : Int) < (m : Int) := by omega
      clear l1 l2 l3 l4 hs m1 m2
      go_wp2_with fail
      go_quiet (fail)
      go_wp2_with fail
      go_roundw
      case rel => exact ⟨i + 1, by omega, by go_num, by rw [Hs.out], blA⟩
      case measure => simp [intOf]; omega
    · obtain rfl : i = n := by omega
      go_wp2_with fail
      go_ret
      exact ⟨rfl, blA⟩

end Go.Proofs.YtminplfgadhnnaaGreatDoor
end
