/- PH2 -/
import Derived.Test.YtlbjnkopbabcnaaGreatDoorYP32
import Derived.Test.YtlbjnkopbabcnaaGreatDoorYP10
/- Walks of the reference of layer 5: CheckPlan. -/
section
namespace Go.Proofs.YtlbjnkopbabcnaaGreatDoor
open Go.RowKit Go.Shelf
set_option linter.unusedSimpArgs false
set_option linter.unusedVariables false

/-- a number of a row -/
def rcI (rs : List (RowR Int)) (i b : Nat) : Int := (rwI rs i).zs.getD b 0
/-- a plan that is valid -/
structure PlanOk (k m : Nat) (rs : List (RowR Int)) : Prop where
  m4 : m ≤ 4
  k1 : 1 ≤ k
  k39 : k ≤ 39
  len : ∀ i, i < m → (rwI rs i).n = k
  rng : ∀ i, i < m → ∀ b, b < k → -1 ≤ rcI rs i b ∧ rcI rs i b ≤ 1
  sum : ∀ i, i < m → Mm.sm (rcI rs i) k = 0
def PlanOkI (ch : Int) (m : Nat) (rs : List (RowR Int)) : Prop := ∃ k : Nat, ch = (k : Int) ∧ PlanOk k m rs
theorem PlanOkI.nat {k m : Nat} {rs : List (RowR Int)} (h : PlanOkI (k : Int) m rs) : PlanOk k m rs := by
  obtain ⟨k', e, q⟩ := h
  obtain rfl : k = k' := by omega
  exact q
theorem sm_one {f : Nat → Int} {n : Nat} (h : ∀ b, b < n → -1 ≤ f b ∧ f b ≤ 1) : -(n : Int) ≤ Mm.sm f n ∧ Mm.sm f n ≤ n := by
  have := Mm.sm_abs (f := f) (M := 1) (n := n) h
  omega

set_option maxRecDepth 100000 in
set_option maxHeartbeats 8000000 in
theorem rcheckPlan_any (ch : Int) (R : Option Addr) (m cr : Nat) (rs : List (RowR Int)) (w : World) (h : RowsI w R m rs) :
    Calls Tryz.prog 82 #[.agg #[.int .i64 ch, .slice R m cr]] w fun e w' => (∃ q : Int, e = .returned (.int .i64 q) ∧ (q = 0 ↔ PlanOkI ch m rs)) ∧ Below w.heap.size w w' := by
  by_cases a1 : 4 < m
  · have hq := Lib.hid (no_iff (q := 6) (by decide) (fun q : PlanOkI ch m rs => by obtain ⟨k, -, q⟩ := q; have := q.m4; omega))
    have b1 : (4 : Int) < (m : Int) := by omega
    clear h
    go_enter Tryz.func82, Tryz.ntmps82
    go_wp2_with fail
    go_ret
    exact ⟨⟨6, rfl, hq.out⟩, blA⟩
  have b1 : ¬ (4 : Int) < (m : Int) := by omega
  by_cases a2 : ch < 1
  · have hq := Lib.hid (no_iff (q := 2) (by decide) (fun q : PlanOkI ch m rs => by obtain ⟨k, e, q⟩ := q; have := q.k1; omega))
    clear h
    go_enter Tryz.func82, Tryz.ntmps82
    go_wp2_with fail
    go_ret
    exact ⟨⟨2, rfl, hq.out⟩, blA⟩
  by_cases a3 : 39 < ch
  · have hq := Lib.hid (no_iff (q := 2) (by decide) (fun q : PlanOkI ch m rs => by obtain ⟨k, e, q⟩ := q; have := q.k39; omega))
    clear h
    go_enter Tryz.func82, Tryz.ntmps82
    go_wp2_with fail
    go_ret
    exact ⟨⟨2, rfl, hq.out⟩, blA⟩
  obtain ⟨k, rfl⟩ : ∃ k : Nat, ch = (k : Int) := ⟨ch.toNat, by omega⟩
  have hk1 : 1 ≤ k := by omega
  have hk39 : k ≤ 39 := by omega
  have hm4 : m ≤ 4 := by omega
  have Hr := Lib.hid h
  clear h a1
  go_enter Tryz.func82, Tryz.ntmps82
  obtain ⟨W0, hW0⟩ : ∃ W0, w.alloc (.cells #[.int .i64 (k : Nat), .slice R m cr] 85) = W0 := ⟨_, rfl⟩
  have HB1 : Hid (Cs W0 w.heap.size #[.int .i64 (k : Nat), .slice R m cr]) := Lib.hid (by rw [← hW0]; exact csA)
  have Hbw : Hid (Below w.heap.size w W0) := Lib.hid (by rw [← hW0]; exact blA)
  have HW0 := Lib.hid hW0
  clear hW0
  go_wp2_with fail
  go_loopw [3] (fun s3 wx => ∃ (i : Nat) (W : World), i ≤ m ∧ s3 = .int .i64 (i : Nat) ∧ Hid (∀ j, j < i → (rwI rs j).n = k) ∧ Hid (W = wx) ∧ Hid (Below W0.heap.size W0 W)) (fun s3 _ => m - (intOf s3).toNat)
  case atStart => exact ⟨0, _, Nat.zero_le _, rfl, Lib.hid (fun j hj => by omega), Lib.hid rfl, Lib.hid (by rw [HW0.out]; exact Below.refl _ _)⟩
  case round =>
    obtain ⟨i, W, hi, rfl, HI, HW, HB⟩ := hrel
    obtain rfl := HW.out
    clear HW
    have hbW := Hbw.out.trans (HB.out.mono Hbw.out.size)
    have HbW := Lib.hid hbW
    have cB1 := (HB1.out.keep HB.out).c
    by_cases hin : i < m
    · obtain ⟨xb, xo, A', n', c', zs', rfl, hg, xlt, xc, hI, hn', _⟩ := Hr.out.atA hbW hin
      have hii : (i : Int) < (m : Int) := by omega
      have Hg : Hid ((rwI rs i).n = n') := Lib.hid (by rw [hg])
      clear hg hI hbW
      by_cases e1 : n' = k
      · subst e1
        have HI2 : Hid (∀ j, j < i + 1 → (rwI rs j).n = n') := Lib.hid (fun j hj => by
          by_cases e : j = i
          · subst e; exact Hg.out
          · exact HI.out j (by omega))
        have k1 : ((n' : Int) != (n' : Int)) = false := by simp
        clear HI Hg
        go_wp2_with fail
        go_quiet (fail)
        go_wp2_with fail
        go_roundw
        case rel => exact ⟨i + 1, _, by omega, by go_num, HI2, Lib.hid rfl, Lib.hid (bdrewN HB.out _)⟩
        case measure => simp [intOf]; omega
      · have hq := Lib.hid (no_iff (q := 15) (by decide) (fun q : PlanOkI (k : Int) m rs => by have := q.nat.len i hin; rw [Hg.out] at this; omega))
        have k1 : ((n' : Int) == (k : Int)) = false := by simp; omega
        have k2 : ((n' : Int) != (k : Int)) = true := by simp; omega
        go_wp2_with fail
        go_quiet (fail)
        have HbD := Lib.hid (bdrewN HbW.out nq)
        go_wp2_with fail
        go_ret
        exact ⟨⟨15, rfl, hq.out⟩, HbD.out⟩
    · have hii : ¬ (i : Int) < (m : Int) := by omega
      replace HI : Hid (∀ j, j < m → (rwI rs j).n = k) := Lib.hid (fun j hj => HI.out j (by omega))
      have HB0 := HB
      go_wp2_with fail
      clear cB1 hbW HbW
      go_loopw [4] (fun s4 wx => ∃ (i : Nat) (W : World), i ≤ m ∧ s4 = .int .i64 (i : Nat) ∧ Hid (∀ j, j < i → ∀ b, b < k → -1 ≤ rcI rs j b ∧ rcI rs j b ≤ 1) ∧ Hid (W = wx) ∧ Hid (Below W0.heap.size W0 W)) (fun s4 _ => m - (intOf s4).toNat)
      case atStart => exact ⟨0, _, Nat.zero_le _, rfl, Lib.hid (fun j hj => by omega), Lib.hid rfl, HB0⟩
      case round =>
        clear HB HB0 hii hi
        obtain ⟨i, W, hi, rfl, HJ, HW, HB⟩ := hrel
        obtain rfl := HW.out
        clear HW
        have hbW := Hbw.out.trans (HB.out.mono Hbw.out.size)
        have cB1 := (HB1.out.keep HB.out).c
        by_cases hin : i < m
        · have hii : (i : Int) < (m : Int) := by omega
          have HB0 := HB
          go_wp2_with fail
          clear cB1 hbW
          go_loopw [5] (fun s5 wx => ∃ (b : Nat) (W : World), b ≤ k ∧ s5 = .int .i64 (b : Nat) ∧ Hid (∀ b', b' < b → -1 ≤ rcI rs i b' ∧ rcI rs i b' ≤ 1) ∧ Hid (W = wx) ∧ Hid (Below W0.heap.size W0 W)) (fun s5 _ => k - (intOf s5).toNat)
          case atStart => exact ⟨0, _, Nat.zero_le _, rfl, Lib.hid (fun j hj => by omega), Lib.hid rfl, HB0⟩
          case round =>
            clear HB HB0
            obtain ⟨b, W, hb, rfl, HQ, HW, HB⟩ := hrel
            obtain rfl := HW.out
            clear HW
            have hbW := Hbw.out.trans (HB.out.mono Hbw.out.size)
            have HbW := Lib.hid hbW
            have cB1 := (HB1.out.keep HB.out).c
            by_cases hbk : b < k
            · obtain ⟨xb, xo, A', n', c', zs', rfl, hg, xlt, xc, hI, hn', _⟩ := Hr.out.atA hbW hin
              have e1 : n' = k := by have := HI.out i hin; rw [hg] at this; exact this
              subst e1
              obtain ⟨sb, so, rfl, slt, sc⟩ := hI.2 (by omega)
              have s0 := sc b hbk
              have Hv : Hid (rcI rs i b = zs'.getD b 0) := Lib.hid (by unfold rcI; rw [hg])
              have hbb : (b : Int) < (n' : Int) := by omega
              clear hg hI hbW sc
              generalize zs'.getD b 0 = x at *
              by_cases x1 : x < -1
              · have hq := Lib.hid (no_iff (q := 3) (by decide) (fun q : PlanOkI (n' : Int) m rs => by have := (q.nat.rng i hin b hbk).1; rw [Hv.out] at this; omega))
                go_wp2_with fail
                go_ret
                exact ⟨⟨3, rfl, hq.out⟩, HbW.out⟩
              · by_cases x2 : 1 < x
                · have hq := Lib.hid (no_iff (q := 3) (by decide) (fun q : PlanOkI (n' : Int) m rs => by have := (q.nat.rng i hin b hbk).2; rw [Hv.out] at this; omega))
                  go_wp2_with fail
                  go_ret
                  exact ⟨⟨3, rfl, hq.out⟩, HbW.out⟩
                · have HQ2 : Hid (∀ b', b' < b + 1 → -1 ≤ rcI rs i b' ∧ rcI rs i b' ≤ 1) := Lib.hid (fun b' hb' => by
                    by_cases e : b' = b
                    · subst e; rw [Hv.out]; omega
                    · exact HQ.out b' (by omega))
                  clear HQ Hv
                  go_wp2_with fail
                  go_roundw
                  case rel => exact ⟨b + 1, _, by omega, by go_num, HQ2, Lib.hid rfl, HB⟩
                  case measure => simp [intOf]; omega
            · have hbb : ¬ (b : Int) < (k : Int) := by omega
              have HJ2 : Hid (∀ j, j < i + 1 → ∀ b, b < k → -1 ≤ rcI rs j b ∧ rcI rs j b ≤ 1) := Lib.hid (fun j hj b' hb' => by
                by_cases e : j = i
                · subst e; exact HQ.out b' (by omega)
                · exact HJ.out j (by omega) b' hb')
              clear HJ HQ hbW
              go_wp2_with fail
              go_roundw
              case rel => exact ⟨i + 1, _, by omega, by go_num, HJ2, Lib.hid rfl, HB⟩
              case measure => simp [intOf]; omega
        · have hii : ¬ (i : Int) < (m : Int) := by omega
          replace HJ : Hid (∀ j, j < m → ∀ b, b < k → -1 ≤ rcI rs j b ∧ rcI rs j b ≤ 1) := Lib.hid (fun j hj => HJ.out j (by omega))
          have HB0 := HB
          go_wp2_with fail
          clear cB1 hbW
          go_loopw [6] (fun s6 wx => ∃ (i : Nat) (W : World), i ≤ m ∧ s6 = .int .i64 (i : Nat) ∧ Hid (∀ j, j < i → Mm.sm (rcI rs j) k = 0) ∧ Hid (W = wx) ∧ Hid (Below W0.heap.size W0 W)) (fun s6 _ => m - (intOf s6).toNat)
          case atStart => exact ⟨0, _, Nat.zero_le _, rfl, Lib.hid (fun j hj => by omega), Lib.hid rfl, HB0⟩
          case round =>
            clear HB HB0 hii hi
            obtain ⟨i, W, hi, rfl, HS, HW, HB⟩ := hrel
            obtain rfl := HW.out
            clear HW
            have hbW := Hbw.out.trans (HB.out.mono Hbw.out.size)
            have cB1 := (HB1.out.keep HB.out).c
            by_cases hin : i < m
            · have hii : (i : Int) < (m : Int) := by omega
              have HB0 := HB
              go_wp2_with fail
              clear cB1 hbW
              go_loopw [7, 8] (fun s7 s8 wx => ∃ (b : Nat) (W : World), b ≤ k ∧ s7 = .int .i64 (Mm.sm (rcI rs i) b) ∧ s8 = .int .i64 (b : Nat) ∧ Hid (W = wx) ∧ Hid (Below W0.heap.size W0 W)) (fun _ s8 _ => k - (intOf s8).toNat)
              case atStart => exact ⟨0, _, Nat.zero_le _, rfl, rfl, Lib.hid rfl, HB0⟩
              case round =>
                clear HB HB0
                obtain ⟨b, W, hb, rfl, rfl, HW, HB⟩ := hrel
                obtain rfl := HW.out
                clear HW
                have hbW := Hbw.out.trans (HB.out.mono Hbw.out.size)
                have HbW := Lib.hid hbW
                have cB1 := (HB1.out.keep HB.out).c
                have hbd := sm_one (f := rcI rs i) (n := b) (fun b' hb' => HJ.out i hin b' (by omega))
                by_cases hbk : b < k
                · obtain ⟨xb, xo, A', n', c', zs', rfl, hg, xlt, xc, hI, hn', _⟩ := Hr.out.atA hbW hin
                  have e1 : n' = k := by have := HI.out i hin; rw [hg] at this; exact this
                  subst e1
                  obtain ⟨sb, so, rfl, slt, sc⟩ := hI.2 (by omega)
                  have s0 := sc b hbk
                  have hr := HJ.out i hin b hbk
                  have hv : rcI rs i b = zs'.getD b 0 := by unfold rcI; rw [hg]
                  have hsm : Mm.sm (rcI rs i) (b + 1) = Mm.sm (rcI rs i) b + rcI rs i b := rfl
                  rw [← hv] at s0
                  have hbb : (b : Int) < (n' : Int) := by omega
                  clear hg hI hbW sc hv
                  have Hsm := Lib.hid hsm
                  clear hsm
                  generalize rcI rs i b = x at *
                  obtain ⟨S, hS⟩ : ∃ S, Mm.sm (rcI rs i) b = S := ⟨_, rfl⟩
                  rw [hS] at hbd
                  rw [hS]
                  have HS' := Lib.hid hS
                  clear hS
                  have hw : IntKind.i64.wrap (S + x) = S + x := IntWalk.i64_in _ (by omega)
                  go_wp2_with fail
                  go_roundw
                  case rel => exact ⟨b + 1, _, by omega, by rw [Hsm.out, HS'.out], by go_num, Lib.hid rfl, HB⟩
                  case measure => simp [intOf]; omega
                · obtain rfl : b = k := by omega
                  have hbb : ¬ (b : Int) < (b : Int) := by omega
                  clear hbW
                  by_cases hz : Mm.sm (rcI rs i) b = 0
                  · have HS2 : Hid (∀ j, j < i + 1 → Mm.sm (rcI rs j) b = 0) := Lib.hid (fun j hj => by
                      by_cases e : j = i
                      · subst e; exact hz
                      · exact HS.out j (by omega))
                    clear HS
                    rw [hz]
                    go_wp2_with fail
                    go_roundw
                    case rel => exact ⟨i + 1, _, by omega, by go_num, HS2, Lib.hid rfl, HB⟩
                    case measure => simp [intOf]; omega
                  · have hq := Lib.hid (no_iff (q := 16) (by decide) (fun q : PlanOkI (b : Int) m rs => hz (q.nat.sum i hin)))
                    have k1 : (Mm.sm (rcI rs i) b == 0) = false := by simpa using hz
                    have k2 : (Mm.sm (rcI rs i) b != 0) = true := by simpa using hz
                    generalize Mm.sm (rcI rs i) b = S at *
                    go_wp2_with fail
                    go_ret
                    exact ⟨⟨16, rfl, hq.out⟩, HbW.out⟩
            · have hii : ¬ (i : Int) < (m : Int) := by omega
              have Hok : Hid (PlanOk k m rs) := Lib.hid ⟨hm4, hk1, hk39, HI.out, HJ.out, fun j hj => HS.out j (by omega)⟩
              have Hfin := Lib.hid hbW
              go_wp2_with fail
              go_ret
              exact ⟨⟨0, rfl, ⟨fun _ => ⟨k, rfl, Hok.out⟩, fun _ => rfl⟩⟩, Hfin.out⟩
end Go.Proofs.YtlbjnkopbabcnaaGreatDoor
end
