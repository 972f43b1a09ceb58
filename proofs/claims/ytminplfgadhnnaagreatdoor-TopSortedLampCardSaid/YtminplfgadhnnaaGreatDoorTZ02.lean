/- ZA1 -/
import Derived.Test.YtminplfgadhnnaaGreatDoorTZ01
import Derived.Test.YtminplfgadhnnaaGreatDoorTB08
import Derived.Test.YtminplfgadhnnaaGreatDoorTB04
/- Walks of package zone: lamps in memory; within, CheckLamp, and the reference's. -/
section
namespace Go.Proofs.YtminplfgadhnnaaGreatDoor
open Go.RowKit Go.Shelf
set_option linter.unusedSimpArgs false
set_option linter.unusedVariables false
open Zm

/-- a slice value that reads as a list of truth values -/
def Bls (w : World) (A : Option Addr) (n : Nat) (zs : List Bool) : Prop :=
  zs.length = n ∧ (0 < n → ∃ b off, A = some ⟨b, off, none⟩ ∧ b < w.heap.size ∧ ∀ i, i < n → w.cell? ⟨b, off + i, none⟩ = some (.bool (zs.getD i false)))
theorem Bls.below {w w' : World} {A : Option Addr} {n : Nat} {zs : List Bool} (h : Bls w A n zs) (hb : Below w.heap.size w w') : Bls w' A n zs := by
  refine ⟨h.1, fun hn => ?_⟩
  obtain ⟨b, off, rfl, hlt, hc⟩ := h.2 hn
  exact ⟨b, off, rfl, Nat.lt_of_lt_of_le hlt hb.size, fun i hi => (hb.cell (p := ⟨b, off + i, none⟩) hlt).trans (hc i hi)⟩
theorem Bls.at0 {w wr : World} {A : Option Addr} {n k : Nat} {zs : List Bool} (h : Bls w A n zs) (hb : Below w.heap.size w wr) (hk : k < n) :
    ∃ b off, A = some ⟨b, off, none⟩ ∧ b < w.heap.size ∧ wr.cell? ⟨b, off + k, none⟩ = some (.bool (zs.getD k false)) := by
  obtain ⟨b, off, rfl, hlt, hc⟩ := h.2 (by omega)
  exact ⟨b, off, rfl, hlt, (hb.cell (p := ⟨b, off + k, none⟩) hlt).trans (hc k hk)⟩

/-- a lamp in memory -/
structure Lmp (w : World) (A1 : Option Addr) (n1 c1 : Nat) (A2 : Option Addr) (n2 c2 : Nat) (A3 : Option Addr) (n3 c3 : Nat) (A4 : Option Addr) (n4 c4 : Nat) (an : List Int) (ls : List (Int × Int)) (fs : List Bool) (ws : List Int) : Prop where
  h1 : Ints w A1 n1 an
  h2 : Prs w A2 n2 ls
  h3 : Bls w A3 n3 fs
  h4 : Ints w A4 n4 ws
  m1 : n1 ≤ 9223372036854775807 ∧ n1 ≤ c1
  m2 : n2 ≤ 9223372036854775807 ∧ n2 ≤ c2
  m3 : n3 ≤ 9223372036854775807 ∧ n3 ≤ c3
  m4 : n4 ≤ 9223372036854775807 ∧ n4 ≤ c4
theorem Lmp.below {w w' : World} {A1 A2 A3 A4 : Option Addr} {n1 c1 n2 c2 n3 c3 n4 c4 : Nat} {an ws : List Int} {ls : List (Int × Int)} {fs : List Bool} (h : Lmp w A1 n1 c1 A2 n2 c2 A3 n3 c3 A4 n4 c4 an ls fs ws) (hb : Below w.heap.size w w') : Lmp w' A1 n1 c1 A2 n2 c2 A3 n3 c3 A4 n4 c4 an ls fs ws :=
  ⟨h.h1.below hb, h.h2.below hb, h.h3.below hb, h.h4.below hb, h.m1, h.m2, h.m3, h.m4⟩

set_option maxHeartbeats 1000000 in
theorem zwithinC_any (x y m : Int) (b : Nat) (w : World) (hm : w.cell? ⟨b, 0, none⟩ = some (.int .i64 m)) :
    Calls Tryz.prog 150 #[.agg #[.int .i64 x, .int .i64 y], .pointer (some ⟨b, 0, none⟩)] w fun e w' => e = .returned (.bool (!rgZ m (x, y))) ∧ Below w.heap.size w w' := by
  have hb : b < w.heap.size := World.block_lt_of_cell? w _ hm
  have hne : ¬ b = w.heap.size := by omega
  have hne2 : ¬ w.heap.size = b := by omega
  cases d1 : decide (x < 0) with
  | true =>
    have e1 : Hid (true = !rgZ m (x, y)) := Lib.hid (by simp [rgZ] at d1 ⊢; omega)
    go_enter Tryz.func150, Tryz.ntmps150
    go_wp2_with fail
    go_ret
    exact ⟨ret_bool e1.out, blA⟩
  | false =>
    cases d2 : decide (y < x) with
    | true =>
      have e1 : Hid (true = !rgZ m (x, y)) := Lib.hid (by simp [rgZ] at d1 d2 ⊢; omega)
      go_enter Tryz.func150, Tryz.ntmps150
      go_wp2_with fail
      go_ret
      exact ⟨ret_bool e1.out, blA⟩
    | false =>
      have e1 : Hid (decide (m < y) = !rgZ m (x, y)) := Lib.hid (by simp at d1 d2; rw [Bool.eq_iff_iff]; simp [rgZ]; omega)
      go_enter Tryz.func150, Tryz.ntmps150
      go_wp2_with fail
      go_ret
      exact ⟨ret_bool e1.out, blA⟩

set_option maxHeartbeats 1000000 in
theorem zwithin_any (m : Int) (A : Option Addr) (n c : Nat) (zs : List (Int × Int)) (w : World) (hz : Prs w A n zs) (hn : n ≤ 9223372036854775807) :
    Calls Tryz.prog 104 #[.int .i64 m, .slice A n c] w fun e w' => e = .returned (.bool (zs.all (rgZ m))) ∧ Below w.heap.size w w' := by
  have hw2 : Below w.heap.size w (w.alloc (.cells #[.int .i64 m] 2)) := blA
  have h1 := containsRgs_any A n c 150 zs #[.pointer (some ⟨w.heap.size, 0, none⟩)] (fun x => !rgZ m x) _
    (enters_of Tryz.func150 (by kernel_rfl) rfl) (hz.below hw2) hn (fun x _ W hW => (zwithinC_any x.1 x.2 m w.heap.size W
      ((hW.cell (p := ⟨w.heap.size, 0, none⟩) (by simp)).trans (by simp))).mono fun e W' ⟨he, hb⟩ => ⟨he, hW.trans (hb.mono hW.size)⟩)
  have hany : Hid ((!zs.any fun x => !rgZ m x) = zs.all (rgZ m)) := by show _ = _; rw [List.not_any_eq_all_not]; simp
  clear hz
  generalize zs.all (rgZ m) = r at *
  generalize (zs.any fun x => !rgZ m x) = r' at *
  go_enter Tryz.func104, Tryz.ntmps104
  go_wp2_with (go_at_call 130; refine h1.mono ?_; rintro e w' ⟨rfl, hb'⟩)
  go_ret
  exact ⟨ret_bool (by first | rfl | exact hany.out), hw2.trans (hb'.mono (by simp))⟩

set_option maxHeartbeats 1000000 in
theorem zcheckC_any (x : Int) (w : World) :
    Calls Tryz.prog 106 #[.int .i64 x] w fun e w' => e = .returned (.bool (!wtZ x)) ∧ Below w.heap.size w w' := by
  cases d1 : decide (x < 0) with
  | true =>
    have e1 : Hid (true = !wtZ x) := Lib.hid (by simp [wtZ] at d1 ⊢; omega)
    go_enter Tryz.func106, Tryz.ntmps106
    go_wp2_with fail
    go_ret
    exact ⟨ret_bool e1.out, blA⟩
  | false =>
    have e1 : Hid (decide (1000 < x) = !wtZ x) := Lib.hid (by simp at d1; rw [Bool.eq_iff_iff]; simp [wtZ]; omega)
    go_enter Tryz.func106, Tryz.ntmps106
    go_wp2_with fail
    go_ret
    exact ⟨ret_bool e1.out, blA⟩

theorem dropZ {an : List Int} {i : Nat} (h : i < an.length) : an.drop i = an.getD i 0 :: an.drop (i + 1) := by
  rw [List.drop_eq_getElem_cons h, List.getD_eq_getElem?_getD, List.getElem?_eq_getElem h]; rfl

end Go.Proofs.YtminplfgadhnnaaGreatDoor
end
