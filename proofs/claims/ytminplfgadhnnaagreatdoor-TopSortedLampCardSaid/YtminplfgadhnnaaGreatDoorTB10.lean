/- BR9 BR10 -/
import Derived.Test.YtminplfgadhnnaaGreatDoorTB09
import Derived.Deep.RegionHeld3
import Derived.Deep.DeepCutAuto
import Derived.Test.YtminplfgadhnnaaGreatDoorTB01
/- Walks of the reference of layer 2: Fraction, power. -/
section
namespace Go.Proofs.YtminplfgadhnnaaGreatDoor
open Go.RowKit Go.Shelf
set_option linter.unusedSimpArgs false
set_option linter.unusedVariables false
open Bm (pwr lgt red rpw)

def S7 (a b : Nat) (x y z u : Int) (W : World) : Prop := W.cell? ⟨a, 0, none⟩ = some (.int .i64 x) ∧ W.cell? ⟨a, 1, none⟩ = some (.int .i64 y) ∧ W.cell? ⟨b, 0, none⟩ = some (.int .i64 z) ∧ W.cell? ⟨b, 1, none⟩ = some (.int .i64 u)
structure J7 (w : World) (B g3 g4 gR : Nat) (x0 x1 y0 y1 c1 c2 d1 d2 : Int) (d : Nat → Bool) (v45 v50 v9 v10 : Value) (W : World) : Prop where
  a0 : Cs W g3 #[.int .i64 x0, .int .i64 x1]
  a1 : Cs W g4 #[.int .i64 y0, .int .i64 y1]
  a2 : Cs W gR #[.int .i64 0, .int .i64 0]
  hB : B ≤ W.heap.size
  hb : Below w.heap.size w W
  c : d 4 = true → v45 = .agg #[.int .i64 c1, .int .i64 c2]
  e : d 9 = true → v50 = .agg #[.int .i64 d1, .int .i64 d2]
  p : Mk2 B W (d 10) (d 12) v9 c1 c2
  q : Mk2 B W (d 11) (d 13) v10 d1 d2
  n : d 10 = true → d 11 = true → v9 ≠ v10
theorem J7.s {w W : World} {B g3 g4 gR : Nat} {x0 x1 y0 y1 c1 c2 d1 d2 : Int} {d : Nat → Bool} {v45 v50 v9 v10 : Value} (h : J7 w B g3 g4 gR x0 x1 y0 y1 c1 c2 d1 d2 d v45 v50 v9 v10 W) : S7 g3 g4 x0 x1 y0 y1 W :=
  ⟨h.a0.c 0, h.a0.c 1, h.a1.c 0, h.a1.c 1⟩

end Go.Proofs.YtminplfgadhnnaaGreatDoor
end

/- Walks of the reference of layer 2: CheckBar, IsTrue, Value, Span. -/
section
namespace Go.Proofs.YtminplfgadhnnaaGreatDoor
open Go.RowKit Go.Shelf
set_option linter.unusedSimpArgs false
set_option linter.unusedVariables false
open Bm (pwr)

theorem barE_1 {l n p1 p2 s1 s2 t1 t2 : Int} (h : out 2 5000 l = true) : barE l n p1 p2 s1 s2 t1 t2 = 2 := by unfold barE; rw [if_pos h]
theorem barE_2 {l n p1 p2 s1 s2 t1 t2 : Int} (h : out 2 5000 l = false) (h2 : out 1 l n = true) : barE l n p1 p2 s1 s2 t1 t2 = 2 := by unfold barE; rw [h, if_neg (by decide), if_pos h2]

set_option maxHeartbeats 8000000 in
theorem rcheckBar_any (l n p1 p2 s1 s2 t1 t2 : Int) (w : World) :
    Calls Tryz.prog 22 #[.agg #[.int .i64 l, .int .i64 n, .int .i64 p1, .int .i64 p2, .int .i64 s1, .int .i64 s2, .int .i64 t1, .int .i64 t2]] w fun e w' => e = .returned (.int .i64 (barE l n p1 p2 s1 s2 t1 t2)) ∧ Below w.heap.size w w' := by
  by_cases c1 : l < 2
  · have hf : Hid (2 = barE l n p1 p2 s1 s2 t1 t2) := Lib.hid (barE_1 (by simp [out]; omega)).symm
    go_enter Tryz.func22, Tryz.ntmps22
    go_wp2_with fail
    go_ret
    exact ⟨ret_int hf.out, blA⟩
  have d1 : decide (l < 2) = false := by simpa using c1
  by_cases c2 : 5000 < l
  · have hf : Hid (2 = barE l n p1 p2 s1 s2 t1 t2) := Lib.hid (barE_1 (by simp [out]; omega)).symm
    clear c1
    go_enter Tryz.func22, Tryz.ntmps22
    go_wp2_with fail
    go_ret
    exact ⟨ret_int hf.out, blA⟩
  have d2 : decide (5000 < l) = false := by simpa using c2
  have ho : out 2 5000 l = false := out_false.2 (by omega)
  by_cases c3 : n < 1
  · have hf : Hid (2 = barE l n p1 p2 s1 s2 t1 t2) := Lib.hid (barE_2 ho (by simp [out]; omega)).symm
    clear c1 c2 ho
    go_enter Tryz.func22, Tryz.ntmps22
    go_wp2_with fail
    go_ret
    exact ⟨ret_int hf.out, blA⟩
  have d3 : decide (n < 1) = false := by simpa using c3
  by_cases c4 : l < n
  · have hf : Hid (2 = barE l n p1 p2 s1 s2 t1 t2) := Lib.hid (barE_2 ho (by simp [out]; omega)).symm
    clear c1 c2 ho c3
    go_enter Tryz.func22, Tryz.ntmps22
    go_wp2_with fail
    go_ret
    exact ⟨ret_int hf.out, blA⟩
  have d4 : decide (l < n) = false := by simpa using c4
  have ho2 : out 1 l n = false := out_false.2 (by omega)
  have k3 := fun W => rvalid_any p1 p2 1 100000 W
  have k4 := fun W => rvalid_any s1 s2 1 (l - 1) W
  have k5 := fun W => rvalid_any t1 t2 0 1000 W
  obtain ⟨R, hR⟩ : ∃ R, barE l n p1 p2 s1 s2 t1 t2 = R := ⟨_, rfl⟩
  rw [hR]
  unfold barE at hR
  rw [ho, ho2, if_neg (by decide), if_neg (by decide)] at hR
  have HR := Lib.hid hR
  have l1 : 2 ≤ l := by omega
  have l2 : l ≤ 5000 := by omega
  have n1 : 1 ≤ n := by omega
  have n2 : n ≤ l := by omega
  have H4 := Lib.hid (fun (h : rgB 1 (l - 1) (s1, s2) = true) => (show 1 ≤ s1 ∧ s1 ≤ s2 ∧ s2 ≤ l - 1 by simp [rgB] at h; omega))
  clear hR ho ho2 c1 c2 c3 c4
  generalize rgB 1 100000 (p1, p2) = b3 at *
  generalize rgB 1 (l - 1) (s1, s2) = b4 at *
  generalize rgB 0 1000 (t1, t2) = b5 at *
  go_enter Tryz.func22, Tryz.ntmps22
  go_wp2_with fail
  refine (k3 _).mono ?_
  rintro e w3 ⟨rfl, hb3⟩
  replace B0 : Cs w3 (w.heap.size) #[.int .i64 l, .int .i64 n, .int .i64 p1, .int .i64 p2, .int .i64 s1, .int .i64 s2, .int .i64 t1, .int .i64 t2] := Cs.keep csA hb3
  replace hbw : Below w.heap.size w w3 := blA
  replace cB0 := B0.c
  replace fB0 := B0.f
  replace lB0 := B0.lt
  clear hb3
  clear k3
  cases b3 with
  | false =>
    have hf : Hid (2 = R) := Lib.hid (by have := HR.out; simpa using this)
    clear HR k4 k5 H4
    go_wp2_with fail
    go_ret
    exact ⟨ret_int hf.out, blA⟩
  | true =>
  go_wp2_with fail
  refine (k4 _).mono ?_
  rintro e w4 ⟨rfl, hb4⟩
  replace B0 : Cs w4 (w.heap.size) #[.int .i64 l, .int .i64 n, .int .i64 p1, .int .i64 p2, .int .i64 s1, .int .i64 s2, .int .i64 t1, .int .i64 t2] := Cs.keep csA hb4
  replace hbw : Below w.heap.size w w4 := blA
  replace cB0 := B0.c
  replace fB0 := B0.f
  replace lB0 := B0.lt
  clear hb4
  clear k4
  cases b4 with
  | false =>
    have hf : Hid (2 = R) := Lib.hid (by have := HR.out; simpa using this)
    clear HR k5 H4
    go_wp2_with fail
    go_ret
    exact ⟨ret_int hf.out, blA⟩
  | true =>
  have s123 := H4.out rfl
  clear H4
  obtain ⟨sa, sb, sc⟩ := s123
  go_wp2_with fail
  refine (k5 _).mono ?_
  rintro e w5 ⟨rfl, hb5⟩
  replace B0 : Cs w5 (w.heap.size) #[.int .i64 l, .int .i64 n, .int .i64 p1, .int .i64 p2, .int .i64 s1, .int .i64 s2, .int .i64 t1, .int .i64 t2] := Cs.keep csA hb5
  replace hbw : Below w.heap.size w w5 := blA
  replace cB0 := B0.c
  replace fB0 := B0.f
  replace lB0 := B0.lt
  clear hb5
  clear k5
  cases b5 with
  | false =>
    have hf : Hid (2 = R) := Lib.hid (by have := HR.out; simpa using this)
    clear HR
    go_wp2_with fail
    go_ret
    exact ⟨ret_int hf.out, blA⟩
  | true =>
  have HR2 : Hid ((if s1 < n then 16 else if l - n < s2 then 16 else 0) = R) := Lib.hid (by have := HR.out; simpa using this)
  clear HR
  by_cases x1 : s1 < n
  · rw [if_pos x1] at HR2
    go_wp2_with fail
    go_ret
    exact ⟨ret_int HR2.out, blA⟩
  · rw [if_neg x1] at HR2
    have d5 : decide (s1 < n) = false := by simpa using x1
    by_cases x2 : l - n < s2
    · rw [if_pos x2] at HR2
      have x3 : l - s2 < n := by omega
      go_wp2_with fail
      go_ret
      exact ⟨ret_int HR2.out, blA⟩
    · rw [if_neg x2] at HR2
      have d6 : decide (l - s2 < n) = false := by simp; omega
      go_wp2_with fail
      go_ret
      exact ⟨ret_int HR2.out, blA⟩

/-- which things are truths, as the reference tells -/
theorem inT_iff {p1 p2 s1 s2 t1 t2 p s t : Int} : inT p1 p2 s1 s2 t1 t2 p s t = true ↔ (p1 ≤ p ∧ p ≤ p2) ∧ (s1 ≤ s ∧ s ≤ s2) ∧ (t1 ≤ t ∧ t ≤ t2) := by
  unfold inT
  rw [Bool.and_eq_true, Bool.and_eq_true, Bool.not_eq_true', Bool.not_eq_true', Bool.not_eq_true', out_false, out_false, out_false]
end Go.Proofs.YtminplfgadhnnaaGreatDoor
end
