/- ZA9 -/
import Derived.Test.YtminplfgadhnnaaGreatDoorTZ09
/- Walks of package zone: clash. -/
section
namespace Go.Proofs.YtminplfgadhnnaaGreatDoor
open Go.RowKit Go.Shelf
set_option linter.unusedSimpArgs false
set_option linter.unusedVariables false
open Zm

/-- two angles that contradict each other, or none -/
def ClsP (ls : List (Int × Int)) (fs : List Bool) (n a b : Nat) : Prop :=
  (a = 0 ∧ b = 0 ∧ ∀ i k, i < k → k < n → ctrB ls fs i k = false) ∨ (a < b ∧ b < n ∧ ctrB ls fs a b = true)

set_option maxRecDepth 100000 in
set_option maxHeartbeats 8000000 in
theorem zclash_any (A1 : Option Addr) (n1 c1 : Nat) (A2 : Option Addr) (n2 c2 : Nat) (A3 : Option Addr) (n3 c3 : Nat) (A4 : Option Addr) (n4 c4 : Nat) (an : List Int) (ls : List (Int × Int)) (fs : List Bool) (ws : List Int) (w : World) (h : Lmp w A1 n1 c1 A2 n2 c2 A3 n3 c3 A4 n4 c4 an ls fs ws) (ho : LampOk an ls fs ws) :
    Calls Tryz.prog 94 #[.agg #[.slice A1 n1 c1, .slice A2 n2 c2, .slice A3 n3 c3, .slice A4 n4 c4]] w fun e w' => ∃ a b : Nat, e = .returned (.agg #[.int .i64 (a : Nat), .int .i64 (b : Nat)]) ∧ ClsP ls fs n1 a b ∧ Below w.heap.size w w' := by
  have hl1 := h.h1.1
  have hl2 := h.h2.1
  have hn : n2 = n1 := by have := ho.lsl; omega
  subst hn
  have hn10 : n2 ≤ 10 ∧ 2 ≤ n2 := by have := ho.n10; have := ho.n2; omega
  have kc := fun (W : World) (i k : Nat) (hb : Below w.heap.size w W) (hi : i < k) (hk : k < n2) => zcontradict_any _ _ _ _ _ _ _ _ _ _ _ _ _ _ _ _ i k W (h.below hb) ho hi hk
  clear h ho
  go_enter Tryz.func94, Tryz.ntmps94
  go_wp2_with fail
  go_step3
  go_wp2_with fail
  go_step3
  go_wp2_with fail
  go_loopw [12] (fun s12 wx => ∃ (i : Nat) (W : World), i ≤ n2 ∧ s12 = .int .i64 (i : Nat) ∧ Hid (W = wx) ∧ Hid (∀ i' k, i' < i → i' < k → k < n2 → ctrB ls fs i' k = false) ∧ Cs W w.heap.size #[.slice A1 n2 c1, .slice A2 n2 c2, .slice A3 n3 c3, .slice A4 n4 c4] ∧ Cs W (w.heap.size + 1) #[.int .i64 0, .int .i64 0] ∧ Cs W (w.heap.size + 1 + 1 + 1) #[.int .i64 0, .int .i64 0] ∧ Below w.heap.size w W) (fun s12 _ => n2 - (intOf s12).toNat)
  case atStart => exact ⟨0, _, Nat.zero_le _, rfl, Lib.hid rfl, Lib.hid (fun i k hi => absurd hi (by omega)), csA, csA, csA, blA⟩
  case round =>
    obtain ⟨i, W, hi, rfl, HW, HI, B1, B2, B4, hbw⟩ := hrel
    obtain rfl := HW.out
    clear HW
    have cB1 := B1.c
    have fB1 := B1.f
    have lB1 := B1.lt
    have cB2 := B2.c
    have fB2 := B2.f
    have lB2 := B2.lt
    have cB4 := B4.c
    have fB4 := B4.f
    have lB4 := B4.lt
    by_cases hin : i < n2
    · go_wp2_with fail
      go_loopw [6] (fun s6 wx => ∃ (k : Nat) (V : World), i + 1 ≤ k ∧ k ≤ n2 ∧ s6 = .int .i64 (k : Nat) ∧ Hid (V = wx) ∧ Hid (∀ k', i < k' → k' < k → ctrB ls fs i k' = false) ∧ Cs V w.heap.size #[.slice A1 n2 c1, .slice A2 n2 c2, .slice A3 n3 c3, .slice A4 n4 c4] ∧ Cs V (w.heap.size + 1) #[.int .i64 0, .int .i64 0] ∧ Cs V (w.heap.size + 1 + 1 + 1) #[.int .i64 0, .int .i64 0] ∧ Below w.heap.size w V) (fun s6 _ => n2 - (intOf s6).toNat)
      case atStart => exact ⟨i + 1, _, by omega, by omega, by go_num, Lib.hid rfl, Lib.hid (fun k h1 h2 => absurd h2 (by omega)), B1, B2, B4, hbw⟩
      case round =>
        clear B1 B2 B4 cB1 fB1 lB1 cB2 fB2 lB2 cB4 fB4 lB4 hbw
        obtain ⟨k, V, hik, hk, rfl, HV, HK, B1, B2, B4, hbw⟩ := hrel
        obtain rfl := HV.out
        clear HV
        have cB1 := B1.c
        have fB1 := B1.f
        have lB1 := B1.lt
        have cB2 := B2.c
        have fB2 := B2.f
        have lB2 := B2.lt
        have cB4 := B4.c
        have fB4 := B4.f
        have lB4 := B4.lt
        by_cases hkn : k < n2
        · cases hc : ctrB ls fs i k with
          | true =>
            have k1 := fun W hb => kc W i k hb (by omega) hkn
            rw [hc] at k1
            have Hc := Lib.hid hc
            clear HK HI kc hc
            go_wp2_with fail
            refine (k1 _ blA).mono ?_
            rintro _ w1 ⟨rfl, hb1⟩
            replace B2 := B2.keep hb1
            replace B4 := B4.keep hb1
            replace hbw : Below w.heap.size w w1 := blA
            clear B1 cB1 fB1 lB1 cB2 fB2 lB2 cB4 fB4 lB4 hb1 k1
            have cB2 := B2.c
            have fB2 := B2.f
            have lB2 := B2.lt
            have cB4 := B4.c
            have fB4 := B4.f
            have lB4 := B4.lt
            have hne : w.heap.size + 1 ≠ w.heap.size + 1 + 1 + 1 := by omega
            have C2 := (B2.other2 hne (.int .i64 (i : Nat)) (.int .i64 (k : Nat))).set2 (.int .i64 (i : Nat)) (.int .i64 (k : Nat))
            have hb3 := bset2 (bset2 hbw (show w.heap.size ≤ w.heap.size + 1 + 1 + 1 by omega) (.int .i64 (i : Nat)) (.int .i64 (k : Nat))) (show w.heap.size ≤ w.heap.size + 1 by omega) (.int .i64 (i : Nat)) (.int .i64 (k : Nat))
            have cC2 := C2.c
            have fC2 := C2.f
            have lC2 := C2.lt
            go_wp2_with fail
            rw [Exit.noGoto_ret]
            exact bodyPost_ret (v := .agg #[.int .i64 (i : Nat), .int .i64 (k : Nat)]) (by simp [results, Tryz.results94, go_sem, cC2, fC2, lC2]) rfl ⟨i, k, rfl, .inr ⟨by omega, hkn, Hc.out⟩, hb3⟩
          | false =>
            have k1 := fun W hb => kc W i k hb (by omega) hkn
            rw [hc] at k1
            have Hc := Lib.hid hc
            clear hc
            go_wp2_with fail
            refine (k1 _ blA).mono ?_
            rintro _ w1 ⟨rfl, hb1⟩
            replace B1 := B1.keep hb1
            replace B2 := B2.keep hb1
            replace B4 := B4.keep hb1
            replace hbw : Below w.heap.size w w1 := blA
            clear cB1 fB1 lB1 cB2 fB2 lB2 cB4 fB4 lB4 hb1 k1
            go_wp2_with fail
            go_roundw
            case rel =>
              refine ⟨k + 1, _, by omega, by omega, by go_num, Lib.hid rfl, Lib.hid (fun k' h1 h2 => ?_), B1, B2, B4, hbw⟩
              by_cases e : k' = k
              · subst e; exact Hc.out
              · exact HK.out k' h1 (by omega)
            case measure => simp [intOf]; omega
        · obtain rfl : n2 = k := by omega
          go_wp2_with fail
          go_roundw
          case rel =>
            refine ⟨i + 1, _, by omega, by go_num, Lib.hid rfl, Lib.hid (fun i' k' h1 h2 h3 => ?_), B1, B2, B4, hbw⟩
            by_cases e : i' = i
            · subst e; exact HK.out k' h2 h3
            · exact HI.out i' k' (by omega) h2 h3
          case measure => simp [intOf]; omega
    · obtain rfl : n2 = i := by omega
      have hall : ClsP ls fs n2 0 0 := .inl ⟨rfl, rfl, fun i' k h1 h2 => HI.out i' k (by omega) h1 h2⟩
      have Hall := Lib.hid hall
      clear HI hall
      have C2 := B2.set2 (.int .i64 0) (.int .i64 0)
      have hb3 := bset2 hbw (show w.heap.size ≤ w.heap.size + 1 by omega) (.int .i64 0) (.int .i64 0)
      have cC2 := C2.c
      have fC2 := C2.f
      have lC2 := C2.lt
      go_wp2_with fail
      rw [Exit.noGoto_ret]
      exact bodyPost_ret (v := .agg #[.int .i64 0, .int .i64 0]) (by simp [results, Tryz.results94, go_sem, cC2, fC2, lC2]) rfl ⟨0, 0, rfl, Hall.out, hb3⟩

end Go.Proofs.YtminplfgadhnnaaGreatDoor
end
