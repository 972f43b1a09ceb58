/- ZS1 -/
import Derived.Test.YtminplfgadhnnaaGreatDoorTZ07
import Derived.Test.YtminplfgadhnnaaGreatDoorTB17
/- Plain laws of TopSortedLamp: the lantern of a lamp that only falls is a row in order; turned round it is put in order again. -/
section
namespace Go.Proofs.YtminplfgadhnnaaGreatDoor
set_option linter.unusedSimpArgs false
set_option linter.unusedVariables false
open Zm
open Bm (srtL_eq ordB ordB_iff ordB_dec runL buildL)
section
variable {an : List Int} {ls : List (Int × Int)} {fs : List Bool} {ws : List Int}
theorem fall_dF (h : LampOk an ls fs ws) (hf : ∀ i, i < fs.length → fs.getD i false = true) {k : Nat} (h1 : 1 ≤ k) (hk : k < ws.length) : dF an fs k = true := by
  have hn := h.n2
  have hw := h.wsl
  have hl := h.fsl
  obtain ⟨i, hi, a, b⟩ := Zm.gap_ex h h1 (an.length - 1) (by omega) (by omega)
  unfold dF
  rw [Zm.gapN_eq h (by omega) a b]
  exact hf i (by omega)
theorem lamp_ord (h : LampOk an ls fs ws) (hd : dbtZ an ls fs ws.length = false) (hf : ∀ i, i < fs.length → fs.getD i false = true) (us : List Int) : ordB (rowF ws.length (lntZ an ls fs us ws.length)) = true := by
  rw [ordB_iff]
  intro i hi
  rw [rowF_len] at hi
  rw [rowF_get _ hi, rowF_get _ (by omega)]
  have := (lnt_in (us := us) hd (i + 1) hi).2.2 (by omega)
  rw [fall_dF h hf (by omega) hi, if_pos rfl] at this
  simpa using this
theorem lamp_out (h : LampOk an ls fs ws) (hd : dbtZ an ls fs ws.length = false) (us : List Int) : (rowF ws.length (lntZ an ls fs us ws.length)).any (out 0 100000) = false := by
  rw [List.any_eq_false]
  intro x hx
  unfold rowF at hx
  obtain ⟨k, hk, rfl⟩ := List.mem_map.1 hx
  have := lnt_bd (us := us) h hd (List.mem_range.1 hk)
  simp [out]
  omega
theorem turned_sorted {n : Nat} (h2 : 2 ≤ n) (h12 : n ≤ 12) {x : List Int} (hl : x.length = n) (hx : ordB x = true) : runL (buildL n) x.reverse = x := by
  rw [(built_sorts h2 h12 (ys := x.reverse) (by simpa using hl)).2]
  exact (srtL_eq (ordB_dec.1 hx) (List.reverse_perm x).symm).symm
/-- what Run answers of a row in order -/
theorem run_ord {zs : List (Int × Int)} {x : List Int} (h2 : 2 ≤ x.length) (h12 : x.length ≤ 12) (ho : x.any (out 0 100000) = false) (hx : ordB x = true) (hz : chkP (x.length : Int) zs = 0) : runE zs x = (x, 0) := by
  unfold runE
  rw [if_neg (by omega), if_neg (by rw [ho]; decide), if_pos hz]
  obtain ⟨n, p, hn, -, -, rfl, hp, -⟩ := chk_ok hz
  rw [natP_cst, ord_runL hx (by omega) p hp]
/-- what Run answers of the row turned round -/
theorem run_turned {x : List Int} (h2 : 2 ≤ x.length) (h12 : x.length ≤ 12) (ho : x.any (out 0 100000) = false) (hx : ordB x = true) : runE (cst (buildL x.length)) x.reverse = (x, 0) := by
  have hp := (Bm.build_ok h2 h12)
  have hb : (buildL x.length).length ≤ 66 := by
    have h3 : x.length * (x.length - 1) / 2 ≤ 12 * 11 / 2 := Nat.div_le_div_right (Nat.mul_le_mul h12 (by omega))
    omega
  unfold runE
  rw [List.length_reverse, if_neg (by omega), if_neg (by rw [List.any_reverse, ho]; decide), if_pos (chk_of h2 h12 hp.1 (by omega)), natP_cst, turned_sorted h2 h12 rfl hx]
end
end Go.Proofs.YtminplfgadhnnaaGreatDoor
end
