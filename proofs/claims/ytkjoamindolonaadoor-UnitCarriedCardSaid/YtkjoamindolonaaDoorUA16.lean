/- The walk of package unit's isPath. -/
import Derived.Test.YtkjoamindolonaaDoorUA9
import Derived.Test.YtkjoamindolonaaDoorUMath3
import Derived.WalkMore
namespace Go.Proofs.YtkjoamindolonaaDoor
open Go.RowKit Go.Shelf
set_option linter.unusedSimpArgs false
set_option linter.unusedVariables false
open Um (pathB tailB)

/-- what is still to be looked at from a number on -/
def restB (zs : List Int) (k : Nat) : Bool := if k = zs.length then true else if k = 0 ∧ zs.length = 1 then decide (1 ≤ zs.getD 0 0) else if k = 0 then tailB (zs.drop 1) else tailB (zs.drop k)

theorem pathB_rest (zs : List Int) (h : zs ≠ []) : pathB zs = (decide (0 ≤ zs.getD 0 0) && restB zs 0) := by
  match zs, h with
  | [x], _ => simp only [pathB, restB]; rw [Bool.eq_iff_iff]; simp; omega
  | x :: y :: l, _ => simp [pathB, restB]
theorem rest_end (zs : List Int) : restB zs zs.length = true := by simp [restB]
theorem rest_first (zs : List Int) (h : 1 < zs.length) : restB zs 0 = restB zs 1 := by
  have h1 : ¬ 0 = zs.length := by omega
  have h2 : ¬ zs.length = 1 := by omega
  have h3 : ¬ 1 = zs.length := by omega
  simp [restB, h1, h2, h3]
theorem rest_one (zs : List Int) (h : zs.length = 1) : restB zs 0 = (decide (1 ≤ zs.getD 0 0) && restB zs 1) := by
  have h1 : ¬ 0 = zs.length := by omega
  simp [restB, h]
theorem drop_getD (zs : List Int) (k : Nat) (h : k < zs.length) : zs.drop k = zs.getD k 0 :: zs.drop (k + 1) := by
  rw [List.getD_eq_getElem?_getD, List.getElem?_eq_getElem h]
  simp
theorem rest_last (zs : List Int) (k : Nat) (h0 : 0 < k) (h : k + 1 = zs.length) : restB zs k = (decide (2 ≤ zs.getD k 0) && restB zs (k + 1)) := by
  have h1 : ¬ k = zs.length := by omega
  have h2 : ¬ k = 0 := by omega
  rw [restB, if_neg h1, if_neg (by omega), if_neg h2, h, rest_end, drop_getD zs k (by omega), List.drop_eq_nil_of_le (by omega)]
  simp [tailB]
theorem rest_mid (zs : List Int) (k : Nat) (h0 : 0 < k) (h : k + 1 < zs.length) : restB zs k = (decide (1 ≤ zs.getD k 0) && restB zs (k + 1)) := by
  have h1 : ¬ k = zs.length := by omega
  have h2 : ¬ k = 0 := by omega
  have h3 : ¬ k + 1 = zs.length := by omega
  rw [restB, if_neg h1, if_neg (by omega), if_neg h2, restB, if_neg h3, if_neg (by omega), if_neg (by omega), drop_getD zs k (by omega), drop_getD zs (k + 1) (by omega)]
  simp [tailB]

set_option maxHeartbeats 1000000 in
theorem isPath_any (A : Option Addr) (len cap : Nat) (zs : List Int) (w : World) (hz : Ints w A len zs) (h1 : 1 ≤ len) (h2 : len ≤ 1000) :
    Calls Tryd.prog 58 #[.slice A len cap] w fun e w' => e = .returned (.bool (pathB zs)) ∧ Below w.heap.size w w' := by
  have hp := pathB_rest zs (by intro h; have := hz.1; rw [h] at this; simp at this; omega)
  have Hz := Lib.hid hz
  obtain ⟨b, off, rfl, hlt, hc⟩ := hz.2 h1
  have c0 : w.cell? ⟨b, off, none⟩ = some (.int .i64 (zs.getD 0 0)) := hc 0 h1
  have hzl := hz.1
  have Hc := Lib.hid hc
  have hz0 : zs.getD 0 0 = zs.getD 0 0 := rfl
  generalize hz0' : zs.getD 0 0 = z0 at c0 hp
  have Hz0 := Lib.hid hz0'
  have Hp := Lib.hid hp
  have Hzl := Lib.hid hzl
  have hi2 : 0 < len := by omega
  clear hz hc hp hzl hz0 hz0' Hz
  go_enter Tryd.func58, Tryd.ntmps58
  go_wp2_with fail
  go_step3
  go_wp2_with fail
  go_step3
  go_wp2_with fail
  go_loopw [3, 13] (fun g i wr => ∃ k : Nat, k ≤ len ∧ g = .bool (decide (0 ≤ z0)) ∧ i = .int .i64 k ∧ Hid (pathB zs = (decide (0 ≤ z0) && restB zs k)) ∧ Below w.heap.size w wr) (fun _ i _ => len - (intOf i).toNat)
  case atStart => exact ⟨0, Nat.zero_le _, rfl, rfl, Hp.out, Below.refl _ _⟩
  case round =>
    obtain ⟨k, hk, rfl, rfl, Hpre, hbl⟩ := hrel
    clear Hp
    by_cases hkl : k < len
    · have hx : wr.cell? ⟨b, off + k, none⟩ = some (.int .i64 (zs.getD k 0)) := (hbl.cell (p := ⟨b, off + k, none⟩) hlt).trans (Hc.out k hkl)
      have hx0 : wr.cell? ⟨b, off, none⟩ = some (.int .i64 z0) := (hbl.cell (p := ⟨b, off, none⟩) hlt).trans c0
      clear c0
      rcases Nat.eq_zero_or_pos k with h0 | h0
      · subst h0
        clear hx
        by_cases hl1 : 1 < len
        · have Hnx : Hid (pathB zs = (decide (0 ≤ z0) && restB zs (0 + 1))) := Lib.hid (Hpre.out.trans (by rw [rest_first zs (by have := Hzl.out; omega)]))
          have hl2 : (1 : Int) < (len : Int) := by omega
          clear Hpre
          go_wp2_with fail
          go_roundw
          case rel => exact ⟨0 + 1, by omega, rfl, by go_num, Hnx.out, hbl⟩
          case measure => simp [intOf] <;> omega
        · obtain rfl : len = 1 := by omega
          have Hnx : Hid (pathB zs = (decide (0 ≤ z0) && (decide (1 ≤ z0) && restB zs (0 + 1)))) := Lib.hid (Hpre.out.trans (by rw [rest_one zs Hzl.out, Hz0.out]))
          clear Hpre
          by_cases hxm : z0 < 1
          · have hend : pathB zs = false := by rw [Hnx.out, decide_eq_false (show ¬ 1 ≤ z0 by omega)]; simp
            clear Hnx
            go_wp2_with fail
            rw [Exit.noGoto_ret]
            go_ret
            exact ⟨ret_bool hend.symm, hbl⟩
          · have Hn2 : Hid (pathB zs = (decide (0 ≤ z0) && restB zs (0 + 1))) := by
              refine Lib.hid (Hnx.out.trans ?_)
              rw [decide_eq_true (show 1 ≤ z0 by omega)]
              simp
            clear Hnx
            go_wp2_with fail
            go_roundw
            case rel => exact ⟨0 + 1, by omega, rfl, by go_num, Hn2.out, hbl⟩
            case measure => simp [intOf] <;> omega
      · clear hx0
        have g1 : ((k : Int) == 0) = false := by simp; omega
        have g2 : (0 : Int) < (k : Int) := by omega
        by_cases hkl1 : k + 1 = len
        · have Hnx : Hid (pathB zs = (decide (0 ≤ z0) && (decide (2 ≤ zs.getD k 0) && restB zs (k + 1)))) := Lib.hid (Hpre.out.trans (by rw [rest_last zs k h0 (hkl1.trans Hzl.out.symm)]))
          have g3 : ((k : Int) == (len : Int) - 1) = true := by simp; omega
          generalize zs.getD k 0 = x at *
          by_cases hxm : x < 2
          · have hend : pathB zs = false := by rw [Hnx.out, decide_eq_false (show ¬ 2 ≤ x by omega)]; simp
            clear Hnx Hpre
            go_wp2_with fail
            rw [Exit.noGoto_ret]
            go_ret
            exact ⟨ret_bool hend.symm, hbl⟩
          · have Hn2 : Hid (pathB zs = (decide (0 ≤ z0) && restB zs (k + 1))) := by
              refine Lib.hid (Hnx.out.trans ?_)
              rw [decide_eq_true (show 2 ≤ x by omega)]
              simp
            clear Hnx Hpre
            go_wp2_with fail
            go_roundw
            case rel => exact ⟨k + 1, by omega, rfl, by go_num, Hn2.out, hbl⟩
            case measure => simp [intOf] <;> omega
        · have Hnx : Hid (pathB zs = (decide (0 ≤ z0) && (decide (1 ≤ zs.getD k 0) && restB zs (k + 1)))) := Lib.hid (Hpre.out.trans (by rw [rest_mid zs k h0 (by have := Hzl.out; omega)]))
          have g3 : ((k : Int) == (len : Int) - 1) = false := by simp; omega
          generalize zs.getD k 0 = x at *
          by_cases hxm : x < 1
          · have hend : pathB zs = false := by rw [Hnx.out, decide_eq_false (show ¬ 1 ≤ x by omega)]; simp
            clear Hnx Hpre
            go_wp2_with fail
            rw [Exit.noGoto_ret]
            go_ret
            exact ⟨ret_bool hend.symm, hbl⟩
          · have Hn2 : Hid (pathB zs = (decide (0 ≤ z0) && restB zs (k + 1))) := by
              refine Lib.hid (Hnx.out.trans ?_)
              rw [decide_eq_true (show 1 ≤ x by omega)]
              simp
            clear Hnx Hpre
            go_wp2_with fail
            go_roundw
            case rel => exact ⟨k + 1, by omega, rfl, by go_num, Hn2.out, hbl⟩
            case measure => simp [intOf] <;> omega
    · obtain rfl : k = len := by omega
      have hend : pathB zs = decide (0 ≤ z0) := by rw [Hpre.out, ← Hzl.out, rest_end]; simp
      clear Hpre c0
      go_wp2_with fail
      rw [Exit.noGoto_ret]
      go_ret
      exact ⟨ret_bool hend.symm, hbl⟩

end Go.Proofs.YtkjoamindolonaaDoor
