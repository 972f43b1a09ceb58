/- PH5 -/
import Derived.Test.YtlbjnkopbabcnaaGreatDoorYP35
import Derived.Test.YtlbjnkopbabcnaaGreatDoorYP12
/- Walks of package atlas: CheckPlan of a valid plan. -/
section
namespace Go.Proofs.YtlbjnkopbabcnaaGreatDoor
open Go.RowKit Go.Shelf
set_option linter.unusedSimpArgs false
set_option linter.unusedVariables false

set_option maxHeartbeats 1000000 in
theorem lenP_any (A : Option Addr) (n c k b : Nat) (w : World) (hb : w.cell? ⟨b, 0, none⟩ = some (.int .i64 (k : Nat))) :
    Calls Tryz.prog 247 #[.slice A n c, .pointer (some ⟨b, 0, none⟩)] w fun e w' => e = .returned (.bool (decide (n ≠ k))) ∧ Below w.heap.size w w' := by
  by_cases h : n = k
  · subst h
    have k1 : ((n : Int) != (n : Int)) = false := by simp
    go_enter Tryz.func247, Tryz.ntmps247
    go_wp2_with fail
    go_ret
    exact ⟨ret_bool (by simp), blA⟩
  · have k1 : ((n : Int) == (k : Int)) = false := by simp; omega
    have k2 : ((n : Int) != (k : Int)) = true := by simp; omega
    go_enter Tryz.func247, Tryz.ntmps247
    go_wp2_with fail
    go_ret
    exact ⟨ret_bool (by simp [h]), blA⟩
set_option maxHeartbeats 1000000 in
theorem rngP_ok (A : Option Addr) (n c : Nat) (zs : List Int) (w : World) (hz : Ints w A n zs) (h1 : 1 ≤ n) (h39 : n ≤ 39) (hr : ∀ b, b < n → -1 ≤ zs.getD b 0 ∧ zs.getD b 0 ≤ 1) :
    Calls Tryz.prog 248 #[.slice A n c] w fun e w' => e = .returned (.bool false) ∧ Below w.heap.size w w' := by
  have k1 := minN_ok A n c zs w hz h1 h39 hr
  have k2 := fun (V : World) (hV : Below w.heap.size w V) => maxN_ok A n c zs V (hz.below hV) h1 h39 hr
  have K2 := Lib.hid k2
  clear hz hr k2
  go_enter Tryz.func248, Tryz.ntmps248
  go_wp2_with fail
  refine k1.mono ?_
  rintro _ w1 ⟨⟨q, rfl, q1, q2⟩, hb1⟩
  have g1 : ¬ q < -1 := by omega
  go_wp2_with fail
  refine (K2.out _ hb1).mono ?_
  rintro _ w2 ⟨⟨q', rfl, q1', q2'⟩, hb2⟩
  have g2 : ¬ 1 < q' := by omega
  have HB := Lib.hid (hb1.trans (hb2.mono hb1.size))
  clear hb1 hb2
  go_wp2_with fail
  go_ret
  exact ⟨ret_bool (by simp; omega), HB.out⟩
set_option maxHeartbeats 1000000 in
theorem sumP_ok (A : Option Addr) (n c : Nat) (zs : List Int) (w : World) (hz : Ints w A n zs) (h1 : 1 ≤ n) (h39 : n ≤ 39) (hr : ∀ b, b < n → -1 ≤ zs.getD b 0 ∧ zs.getD b 0 ≤ 1) (h0 : Mm.sm (fun b => zs.getD b 0) n = 0) :
    Calls Tryz.prog 251 #[.slice A n c] w fun e w' => e = .returned (.bool false) ∧ Below w.heap.size w w' := by
  have k1 := sumN_ok A n c zs w hz h1 h39 hr
  rw [h0] at k1
  clear hz hr h0
  go_enter Tryz.func251, Tryz.ntmps251
  go_wp2_with fail
  refine k1.mono ?_
  rintro _ w1 ⟨rfl, hb1⟩
  have HB := Lib.hid hb1
  clear hb1
  go_wp2_with fail
  go_ret
  exact ⟨ret_bool (by simp), HB.out⟩

set_option maxRecDepth 100000 in
set_option maxHeartbeats 4000000 in
theorem checkPlan_ok (k : Nat) (R : Option Addr) (m cr : Nat) (rs : List (RowR Int)) (w : World) (h : RowsI w R m rs) (hP : PlanOk k m rs) :
    Calls Tryz.prog 157 #[.agg #[.int .i64 (k : Nat), .slice R m cr]] w fun e w' => e = .returned (.int .i64 0) ∧ Below w.heap.size w w' := by
  have hk1 := hP.k1
  have hk39 := hP.k39
  have hm4 := hP.m4
  have hrow := hP.row h.1
  have any0 : ∀ p : RowR Int → Bool, (∀ r ∈ rs, p r = false) → rs.any p = false := fun p hp => by rw [List.any_eq_false]; intro r hr; simp [hp r hr]
  have ka := fun (V : World) (b : Nat) (hV : Below w.heap.size w V) (hb : ∀ U, Below V.heap.size V U → U.cell? ⟨b, 0, none⟩ = some (.int .i64 (k : Nat))) => containsRowN_any R m cr 247 rs #[.pointer (some ⟨b, 0, none⟩)] (fun r => decide (r.n ≠ k)) V
    (enters_of Tryz.func247 (by kernel_rfl) rfl) (h.below hV) (by omega) (fun x hx U hU => (lenP_any x.A x.n x.c k b U (hb U hU)).mono fun e W' ⟨he, hb⟩ => ⟨he, hU.trans (hb.mono hU.size)⟩)
  rw [any0 (fun r => decide (r.n ≠ k)) (fun r hr => by simp [(hrow r hr).1])] at ka
  have kb := fun (V : World) (hV : Below w.heap.size w V) => containsRowN_any R m cr 248 rs #[] (fun _ => false) V
    (enters_of Tryz.func248 (by kernel_rfl) rfl) (h.below hV) (by omega) (fun x hx U hU => by
      obtain ⟨q1, q2, q3⟩ := hrow x hx
      have hI := ((h.below hV).2.2 x hx).1.below hU
      rw [q1] at hI
      have := (rngP_ok x.A k x.c x.zs U hI hk1 hk39 q2).mono (R' := fun e W' => e = .returned (.bool false) ∧ Below V.heap.size V W') fun e W' ⟨he, hb⟩ => ⟨he, hU.trans (hb.mono hU.size)⟩
      simpa [rrV, q1] using this)
  rw [any0 (fun _ => false) (fun r hr => rfl)] at kb
  have kc := fun (V : World) (hV : Below w.heap.size w V) => containsRowN_any R m cr 251 rs #[] (fun _ => false) V
    (enters_of Tryz.func251 (by kernel_rfl) rfl) (h.below hV) (by omega) (fun x hx U hU => by
      obtain ⟨q1, q2, q3⟩ := hrow x hx
      have hI := ((h.below hV).2.2 x hx).1.below hU
      rw [q1] at hI
      have := (sumP_ok x.A k x.c x.zs U hI hk1 hk39 q2 q3).mono (R' := fun e W' => e = .returned (.bool false) ∧ Below V.heap.size V W') fun e W' ⟨he, hb⟩ => ⟨he, hU.trans (hb.mono hU.size)⟩
      simpa [rrV, q1] using this)
  rw [any0 (fun _ => false) (fun r hr => rfl)] at kc
  have b1 : ¬ (4 : Int) < (m : Int) := by omega
  have b2 : ¬ (k : Int) < 1 := by omega
  have b3 : ¬ (39 : Int) < (k : Int) := by omega
  have KB := Lib.hid kb
  have KC := Lib.hid kc
  clear h hP hrow any0 kb kc
  go_enter Tryz.func157, Tryz.ntmps157
  have B1 : Cs (w.alloc (.cells #[.int .i64 (k : Nat), .slice R m cr] 85)) w.heap.size #[.int .i64 (k : Nat), .slice R m cr] := csA
  have HB1 := Lib.hid B1
  clear B1
  go_wp2_with fail
  refine (ka _ w.heap.size blA (fun U hU => (HB1.out.keep hU).c 0)).mono ?_
  rintro _ w1 ⟨rfl, hb1⟩
  have B2 := HB1.out.keep hb1
  have hbw : Below w.heap.size w w1 := blA
  have cB2 := B2.c
  clear hb1 ka
  go_wp2_with fail
  refine (KB.out _ hbw).mono ?_
  rintro _ w2 ⟨rfl, hb2⟩
  have B3 := B2.keep hb2
  replace hbw := hbw.trans (hb2.mono hbw.size)
  clear hb2 cB2 B2 KB
  have cB3 := B3.c
  go_wp2_with fail
  refine (KC.out _ hbw).mono ?_
  rintro _ w3 ⟨rfl, hb3⟩
  have HB := Lib.hid (hbw.trans (hb3.mono hbw.size))
  clear hb3 hbw KC cB3 B3
  go_wp2_with fail
  go_ret
  exact ⟨rfl, HB.out⟩
end Go.Proofs.YtlbjnkopbabcnaaGreatDoor
end
