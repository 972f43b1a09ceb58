/- ZS2 -/
import Derived.Test.YtminplfgadhnnaaGreatDoorTZ07
import Derived.BigQuiet
/- Walks of lampblacktop: lamp03, same03. -/
section
namespace Go.Proofs.YtminplfgadhnnaaGreatDoor
open Go.RowKit Go.Shelf
set_option linter.unusedSimpArgs false
set_option linter.unusedVariables false
open Zm

set_option maxRecDepth 100000 in
set_option maxHeartbeats 4000000 in
theorem same03_any (A B : Option Addr) (n c m C : Nat) (xs ys : List Int) (w : World) (hx : Ints w A n xs) (hy : Ints w B m ys) (hn : n ≤ 9223372036854775807) :
    Calls Tryz.prog 20 #[.slice A n c, .slice B m C] w fun e w' => e = .returned (.bool (decide (xs = ys))) ∧ Below w.heap.size w w' := by
  have hxl := hx.1
  have hyl := hy.1
  by_cases hl : n = m
  case neg =>
    have hf : Hid (false = decide (xs = ys)) := Lib.hid (by rw [eq_comm, decide_eq_false_iff_not]; intro h; rw [h] at hxl; omega)
    have h1 : ((n : Int) != (m : Int)) = true := by simp; omega
    have h2 : ((n : Int) == (m : Int)) = false := by simp; omega
    clear hxl hyl hl hx hy
    go_enter Tryz.func20, Tryz.ntmps20
    go_wp2_with fail
    go_ret
    exact ⟨ret_bool hf.out, blA⟩
  subst hl
  have Hx := Lib.hid hx
  have Hy := Lib.hid hy
  have Hno : Hid (∀ k, k < n → xs.getD k 0 ≠ ys.getD k 0 → false = decide (xs = ys)) := Lib.hid (fun k hk hne => by rw [eq_comm, decide_eq_false_iff_not]; intro h; rw [h] at hne; exact hne rfl)
  have Hyes : Hid ((∀ k, k < n → xs.getD k 0 = ys.getD k 0) → true = decide (xs = ys)) := Lib.hid (fun hh => by
    rw [eq_comm, decide_eq_true_eq]
    refine List.ext_getElem (by omega) fun i h1 h2 => ?_
    have := hh i (by omega)
    rwa [List.getD_eq_getElem?_getD, List.getElem?_eq_getElem h1, List.getD_eq_getElem?_getD, List.getElem?_eq_getElem h2] at this)
  clear hxl hyl hx hy
  go_enter Tryz.func20, Tryz.ntmps20
  go_wp2_with fail
  go_loopw [5] (fun s5 wr => ∃ (k : Nat) (W : World), k ≤ n ∧ s5 = .int .i64 (k : Nat) ∧ Hid (W = wr) ∧ Hid (∀ j, j < k → xs.getD j 0 = ys.getD j 0) ∧ Below w.heap.size w W) (fun s5 _ => n - (intOf s5).toNat)
  case atStart =>
    exact ⟨0, _, Nat.zero_le _, rfl, Lib.hid rfl, Lib.hid (fun j hj => absurd hj (by omega)), blA⟩
  case round =>
    obtain ⟨k, W, hk, rfl, HWx, Heq, hbw⟩ := hrel
    obtain rfl := HWx.out
    clear HWx
    by_cases hkn : k < n
    · have hkI : (k : Int) < (n : Int) := by omega
      obtain ⟨b1, o1, rfl, l1, c1⟩ := Hx.out.at0 hbw hkn
      obtain ⟨b2, o2, rfl, l2, c2⟩ := Hy.out.at0 hbw hkn
      by_cases he : xs.getD k 0 = ys.getD k 0
      · have Heq2 : Hid (∀ j, j < k + 1 → xs.getD j 0 = ys.getD j 0) := Lib.hid (fun j hj => by
          by_cases e : j = k
          · rw [e, he]
          · exact Heq.out j (by omega))
        have g1 : (xs.getD k 0 != ys.getD k 0) = false := by simpa using he
        clear Heq he
        generalize xs.getD k 0 = x at *
        generalize ys.getD k 0 = y at *
        go_wp2_with fail
        go_quiet (fail)
        go_wp2_with fail
        go_roundw
        case rel => exact ⟨k + 1, _, by omega, by go_num, Lib.hid rfl, Heq2, blA⟩
        case measure => simp [intOf]; omega
      · have Hf := Lib.hid (Hno.out k hkn he)
        have g1 : (xs.getD k 0 != ys.getD k 0) = true := by simpa using he
        clear Heq he Hno Hyes
        generalize xs.getD k 0 = x at *
        generalize ys.getD k 0 = y at *
        go_wp2_with fail
        go_quiet (fail)
        go_wp2_with fail
        go_ret
        exact ⟨ret_bool Hf.out, blA⟩
    · obtain rfl : k = n := by omega
      have hkI : ¬ (k : Int) < (k : Int) := by omega
      have Hf := Lib.hid (Hyes.out Heq.out)
      clear Heq Hno Hyes
      go_wp2_with fail
      go_ret
      exact ⟨ret_bool Hf.out, blA⟩

set_option maxRecDepth 100000 in
set_option maxHeartbeats 4000000 in
theorem lamp03_any (A1 : Option Addr) (n1 c1 : Nat) (A2 : Option Addr) (n2 c2 : Nat) (A3 : Option Addr) (n3 c3 : Nat) (A4 : Option Addr) (n4 c4 : Nat) (an : List Int) (ls : List (Int × Int)) (fs : List Bool) (ws : List Int) (w : World) (h : Lmp w A1 n1 c1 A2 n2 c2 A3 n3 c3 A4 n4 c4 an ls fs ws) :
    Calls Tryz.prog 6 #[.agg #[.slice A1 n1 c1, .slice A2 n2 c2, .slice A3 n3 c3, .slice A4 n4 c4]] w fun e w' => e = .returned (.bool (decide (chkZ an ls fs ws = 0) && !dbtZ an ls fs n4)) ∧ Below w.heap.size w w' := by
  have hl1 := h.h1.1
  have hl2 := h.h2.1
  have hl3 := h.h3.1
  have hl4 := h.h4.1
  have k1 := fun (W : World) (hb : Below w.heap.size w W) => zrcheck_any _ _ _ _ _ _ _ _ _ _ _ _ _ _ _ _ W (h.below hb)
  by_cases hc : chkZ an ls fs ws = 0
  case neg =>
    have Hf : Hid (false = (decide (chkZ an ls fs ws = 0) && !dbtZ an ls fs n4)) := Lib.hid (by rw [decide_eq_false hc]; rfl)
    have g1 : (chkZ an ls fs ws == 0) = false := by simpa using hc
    generalize chkZ an ls fs ws = er at *
    clear hl1 hl2 hl3 hl4 h hc
    by_cases e1 : n1 ≤ 14
    · by_cases e2 : n2 ≤ 14
      · by_cases e3 : n3 ≤ 14
        · by_cases e4 : n4 ≤ 100
          · have d1 : (n1 : Int) ≤ 14 := by omega
            have d2 : (n2 : Int) ≤ 14 := by omega
            have d3 : (n3 : Int) ≤ 14 := by omega
            have d4 : (n4 : Int) ≤ 100 := by omega
            go_enter Tryz.func6, Tryz.ntmps6
            go_wp2_with fail
            refine (k1 _ blA).mono ?_
            rintro e w1 ⟨rfl, hb1⟩
            try clear cB1 fB1 lB1
            try clear B1
            replace hbw : Below w.heap.size w w1 := blA
            clear hb1
            go_wp2_with fail
            go_ret
            exact ⟨ret_bool Hf.out, blA⟩
          · have d1 : (n1 : Int) ≤ 14 := by omega
            have d2 : (n2 : Int) ≤ 14 := by omega
            have d3 : (n3 : Int) ≤ 14 := by omega
            have d4 : ¬ (n4 : Int) ≤ 100 := by omega
            go_enter Tryz.func6, Tryz.ntmps6
            go_wp2_with fail
            go_ret
            exact ⟨ret_bool Hf.out, blA⟩
        · have d1 : (n1 : Int) ≤ 14 := by omega
          have d2 : (n2 : Int) ≤ 14 := by omega
          have d3 : ¬ (n3 : Int) ≤ 14 := by omega
          go_enter Tryz.func6, Tryz.ntmps6
          go_wp2_with fail
          go_ret
          exact ⟨ret_bool Hf.out, blA⟩
      · have d1 : (n1 : Int) ≤ 14 := by omega
        have d2 : ¬ (n2 : Int) ≤ 14 := by omega
        go_enter Tryz.func6, Tryz.ntmps6
        go_wp2_with fail
        go_ret
        exact ⟨ret_bool Hf.out, blA⟩
    · have d1 : ¬ (n1 : Int) ≤ 14 := by omega
      go_enter Tryz.func6, Tryz.ntmps6
      go_wp2_with fail
      go_ret
      exact ⟨ret_bool Hf.out, blA⟩
  have ho := chk_lamp hc
  have hw := ho.ws91
  have d1 : (n1 : Int) ≤ 14 := by have := ho.n10; omega
  have d2 : (n2 : Int) ≤ 14 := by have := ho.n10; have := ho.lsl; omega
  have d3 : (n3 : Int) ≤ 14 := by have := ho.n10; have := ho.fsl; omega
  have d4 : (n4 : Int) ≤ 100 := by omega
  have k2 := fun (W : World) (hb : Below w.heap.size w W) => zdoubted_any _ _ _ _ _ _ _ _ _ _ _ _ _ _ _ _ W (h.below hb) ho
  rw [hc] at k1 ⊢
  have Hf : Hid ((!dbtZ an ls fs n4) = (decide ((0 : Int) = 0) && !dbtZ an ls fs n4)) := Lib.hid (by simp)
  generalize dbtZ an ls fs n4 = db at *
  clear hl1 hl2 hl3 hl4 h hc hw ho
  go_enter Tryz.func6, Tryz.ntmps6
  go_wp2_with fail
  refine (k1 _ blA).mono ?_
  rintro e w1 ⟨rfl, hb1⟩
  replace B1 : Cs w1 (w.heap.size) #[.slice A1 n1 c1, .slice A2 n2 c2, .slice A3 n3 c3, .slice A4 n4 c4] := Cs.keep csA hb1
  replace hbw : Below w.heap.size w w1 := blA
  replace cB1 := B1.c
  replace fB1 := B1.f
  replace lB1 := B1.lt
  clear hb1
  go_wp2_with fail
  refine (k2 _ blA).mono ?_
  rintro e w2 ⟨rfl, hb2⟩
  try clear cB1 fB1 lB1
  try clear B1
  replace hbw : Below w.heap.size w w2 := blA
  clear hb2
  go_wp2_with fail
  go_ret
  exact ⟨ret_bool Hf.out, blA⟩

end Go.Proofs.YtminplfgadhnnaaGreatDoor
end
