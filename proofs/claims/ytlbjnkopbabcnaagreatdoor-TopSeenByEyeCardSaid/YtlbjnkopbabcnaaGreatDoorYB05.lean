/- BR1 BR2 BL1 BR3 BR4 -/
import Derived.Test.YtlbjnkopbabcnaaGreatDoorYB04
import Derived.Test.YtlbjnkopbabcnaaGreatDoorYB02
/- Walks of the reference of layer 2: run, Run. -/
section
namespace Go.Proofs.YtlbjnkopbabcnaaGreatDoor
open Go.RowKit Go.Shelf
set_option linter.unusedSimpArgs false
set_option linter.unusedVariables false
open Bm (Pr cex runL OkP)

/-- a list is returned -/
def RetL (l : List Int) (w : World) (e : Ending) (w' : World) : Prop :=
  ∃ A n c, e = .returned (.slice A n c) ∧ Ints w' A n l ∧ (n ≤ 1000 ∧ n ≤ c) ∧ Below w.heap.size w w'

set_option maxRecDepth 100000 in
set_option maxHeartbeats 4000000 in
theorem rrun_any (A B : Option Addr) (n c m C : Nat) (p : List Pr) (ys : List Int) (w : World) (hz : Prs w A m (cst p)) (hm : m ≤ 80) (hy : Ints w B n ys) (h2 : 2 ≤ n) (h12 : n ≤ 12) (hp : OkP n p) :
    Calls Tryz.prog 294 #[.slice A m C, .slice B n c] w (RetL (runL p ys) w) := by
  have hyl := hy.1
  have hpl : p.length = m := by have := hz.1; rwa [cst_len] at this
  have Hz := Lib.hid hz
  have Hyl := Lib.hid hyl
  have Hpl := Lib.hid hpl
  have Hp := Lib.hid hp
  obtain ⟨c9, W9, hr, ho, hb9, hlt9, hc9⟩ := app_empty (b := w.heap.size) (cc := c) (hy.alloc (.cells #[] 2)) (by omega) (by omega)
  have hR0 := Rx.of_own hyl ho
  simp only [World.size_alloc] at hr hR0 hlt9 hb9
  have hbw : Below w.heap.size w W9 := (balloc (Below.refl _ _) _).trans (hb9.mono (by omega))
  have HR0 : Hid (Rx W9 (w.heap.size + 1) (runL (p.take 0) ys)) := Lib.hid hR0
  clear hz hyl hpl hp hy ho hb9 hR0
  go_enter Tryz.func294, Tryz.ntmps294
  have Hr := Lib.hid hr
  clear hr
  go_wp2_with (at_builtin; refine list_app rfl _ _ rfl (by rfl) (by rfl) Hr.out ?_)
  clear Hr
  go_loopw [6] (fun s6 wx => ∃ (k : Nat) (W : World), k ≤ m ∧ s6 = .int .i64 (k : Nat) ∧ Hid (W = wx) ∧ Hid (Rx W (w.heap.size + 1) (runL (p.take k) ys)) ∧ Below w.heap.size w W) (fun s6 _ => m - (intOf s6).toNat)
  case atStart => exact ⟨0, _, Nat.zero_le _, rfl, Lib.hid rfl, HR0, hbw⟩
  case round =>
    clear HR0 hbw
    obtain ⟨k, W, hk, rfl, HW, HR, hbw⟩ := hrel
    obtain rfl := HW.out
    clear HW
    by_cases hkm : k < m
    · obtain ⟨b, off, x, y, rfl, hget, c0, c1⟩ := Hz.out.at_ hbw hkm
      obtain ⟨a', b', hp', rfl, rfl⟩ := cst_get hget
      obtain ⟨hab, hbn⟩ := Hp.out _ (List.mem_of_getElem? hp')
      dsimp only at hab hbn
      have hll : (runL (p.take k) ys).length = n := by rw [Bm.runL_len]; exact Hyl.out
      have HN : Hid (runL (p.take (k + 1)) ys = if (runL (p.take k) ys).getD a' 0 < (runL (p.take k) ys).getD b' 0 then ((runL (p.take k) ys).set a' ((runL (p.take k) ys).getD b' 0)).set b' ((runL (p.take k) ys).getD a' 0) else runL (p.take k) ys) := Lib.hid (by
        rw [run_take hp' ys]; exact Bm.cex_swap (x := (a', b')) ⟨hab, by rw [hll]; exact hbn⟩)
      have Hll := Lib.hid hll
      clear hget hp' hll
      generalize runL (p.take k) ys = zz at *
      have d0 := HR.out.cell (k := a') (by rw [Hll.out]; omega)
      have d1 := HR.out.cell (k := b') (by rw [Hll.out]; omega)
      have fr := HR.out.frozen
      have lr := HR.out.lt
      obtain ⟨va, hva⟩ : ∃ v, zz.getD a' 0 = v := ⟨_, rfl⟩
      obtain ⟨vb, hvb⟩ : ∃ v, zz.getD b' 0 = v := ⟨_, rfl⟩
      rw [hva] at d0
      rw [hvb] at d1
      rw [hva, hvb] at HN
      clear hva hvb
      by_cases hlt : va < vb
      · rw [if_pos hlt] at HN
        go_wp2_with fail
        go_quiet (fail)
        go_wp2_with fail
        go_quiet (fail)
        go_wp2_with fail
        go_region
        go_wp2_with fail
        go_roundw
        case rel =>
          refine ⟨k + 1, _, by omega, by go_num, Lib.hid rfl, Lib.hid ?_, ?_⟩
          · rw [HN.out]
            exact ((HR.out.drewN _).set _ _).set _ _
          · exact bset (bset blA (p := ⟨w.heap.size + 1, a', none⟩) (by simp) _) (p := ⟨w.heap.size + 1, b', none⟩) (by simp) _
        case measure => simp [intOf]; omega
      · rw [if_neg hlt] at HN
        go_wp2_with fail
        go_quiet (fail)
        go_wp2_with fail
        go_quiet (fail)
        go_wp2_with fail
        go_roundw
        case rel =>
          refine ⟨k + 1, _, by omega, by go_num, Lib.hid rfl, Lib.hid ?_, ?_⟩
          · rw [HN.out]; exact HR.out.drewN _
          · exact blA
        case measure => simp [intOf]; omega
    · obtain rfl : k = m := by omega
      have HR1 : Rx W (w.heap.size + 1) (runL p ys) := by
        have h1 := HR.out
        rwa [List.take_of_length_le (by rw [Hpl.out]; exact Nat.le_refl _)] at h1
      have HI := Lib.hid (HR1.ints (n := n) (by rw [Bm.runL_len]; exact Hyl.out))
      clear HR HR1
      go_wp2_with fail
      go_ret
      exact ⟨_, n, _, rfl, HI.out, ⟨by omega, hc9⟩, hbw⟩

end Go.Proofs.YtlbjnkopbabcnaaGreatDoor
end

/- Walks of the reference of layer 2: Row. -/
section
namespace Go.Proofs.YtlbjnkopbabcnaaGreatDoor
open Go.RowKit Go.Shelf
set_option linter.unusedSimpArgs false
set_option linter.unusedVariables false
open Bm (Pr cex runL OkP rowL tab b2i)

theorem bit_tmod (k m : Nat) : ((k : Int) / 2 ^ m).tmod 2 = b2i (k.testBit m) := by
  have e : ((k : Int) / 2 ^ m) = ((k / 2 ^ m : Nat) : Int) := by simp
  rw [e, Int.tmod_eq_emod_of_nonneg (Int.natCast_nonneg _), Nat.testBit_eq_decide_div_mod_eq]
  unfold b2i
  by_cases h : k / 2 ^ m % 2 = 1
  · simp [h]; omega
  · simp [h]; omega
theorem fill_set {α : Type} (l : List α) (i n : Nat) (z : α) (hi : i < n) (hl : l.length = n) : (l.take i ++ List.replicate (n - i) z).set i (l[i]'(by omega)) = l.take (i + 1) ++ List.replicate (n - (i + 1)) z := by
  obtain ⟨r, hr⟩ : ∃ r, n - i = r + 1 := ⟨n - i - 1, by omega⟩
  have hr' : n - (i + 1) = r := by omega
  have e2 : l.take (i + 1) = l.take i ++ [l[i]'(by omega)] := by rw [List.take_add_one, List.getElem?_eq_getElem (by omega)]; rfl
  rw [e2, hr, hr', List.replicate_succ]
  have ht : (l.take i).length = i := by simp; omega
  rw [List.set_append_right _ _ (by omega), ht, Nat.sub_self, List.set_cons_zero, List.append_assoc]
  rfl
theorem row_set {n k i : Nat} (hi : i < n) : ((rowL n k).take i ++ List.replicate (n - i) 0).set i (b2i (k.testBit (n - 1 - i))) = (rowL n k).take (i + 1) ++ List.replicate (n - (i + 1)) 0 := by
  rw [← fill_set (rowL n k) i n 0 hi (Bm.rowL_len n k)]
  congr 1
  simp [rowL, tab]

set_option maxRecDepth 100000 in
set_option maxHeartbeats 4000000 in
theorem rrow_any (n k : Nat) (w : World) (h2 : 2 ≤ n) (h12 : n ≤ 12) (hk : k ≤ 4096) :
    Calls Tryz.prog 295 #[.int .i64 (n : Nat), .int .i64 (k : Nat)] w (RetL (rowL n k) w) := by
  have hmk := run_makeR n (by omega)
  go_enter Tryz.func295, Tryz.ntmps295
  go_wp2_with fail
  go_loopw [6] (fun s6 wx => ∃ (i : Nat) (W : World), i ≤ n ∧ s6 = .int .i64 (i : Nat) ∧ Hid (W = wx) ∧ Hid (Rx W w.heap.size ((rowL n k).take i ++ List.replicate (n - i) 0)) ∧ Below w.heap.size w W) (fun s6 _ => n - (intOf s6).toNat)
  case atStart => exact ⟨0, _, Nat.zero_le _, rfl, Lib.hid rfl, Lib.hid (by simpa using (Rw.zeros w n _ rfl).x), blA⟩
  case round =>
    obtain ⟨i, W, hi, rfl, HW, HR, hbw⟩ := hrel
    obtain rfl := HW.out
    clear HW hmk
    by_cases hin : i < n
    · have hl : ((rowL n k).take i ++ List.replicate (n - i) 0).length = n := by simp [Bm.rowL_len]; omega
      have d0 := HR.out.cell (k := i) (by rw [hl]; exact hin)
      have fr := HR.out.frozen
      have lr := HR.out.lt
      obtain ⟨v, hv⟩ : ∃ v, ((rowL n k).take i ++ List.replicate (n - i) 0).getD i 0 = v := ⟨_, rfl⟩
      rw [hv] at d0
      clear hv hl
      have i1 : (i : Int) ≤ (n : Int) - 1 := by omega
      have hbt := bit_tmod k (n - 1 - i)
      have HS := Lib.hid (row_set (n := n) (k := k) hin)
      generalize b2i (k.testBit (n - 1 - i)) = u at *
      go_wp2_with fail
      go_roundw
      case rel =>
        refine ⟨i + 1, _, by omega, by go_num, Lib.hid rfl, Lib.hid ?_, ?_⟩
        · rw [← HS.out]; exact HR.out.set _ _
        · exact bset hbw (p := ⟨w.heap.size, i, none⟩) (Nat.le_refl _) _
      case measure => simp [intOf]; omega
    · obtain rfl : i = n := by omega
      have HR1 : Rx W w.heap.size (rowL i k) := by
        have h1 := HR.out
        rwa [List.take_of_length_le (by rw [Bm.rowL_len]; exact Nat.le_refl _), Nat.sub_self, List.replicate_zero, List.append_nil] at h1
      have HI := Lib.hid (HR1.ints (n := i) (Bm.rowL_len i k))
      clear HR HR1
      go_wp2_with fail
      go_ret
      exact ⟨_, i, _, rfl, HI.out, ⟨by omega, by omega⟩, hbw⟩

end Go.Proofs.YtlbjnkopbabcnaaGreatDoor
end

/- Walks of the law package of layer 2: which lists are equal. -/
section
namespace Go.Proofs.YtlbjnkopbabcnaaGreatDoor
open Go.RowKit Go.Shelf
set_option linter.unusedSimpArgs false
set_option linter.unusedVariables false

theorem list_ext_getD (xs ys : List Int) (hl : xs.length = ys.length) (h : ∀ i, i < xs.length → xs.getD i 0 = ys.getD i 0) : xs = ys := by
  apply List.ext_getElem? 
  intro i
  by_cases hi : i < xs.length
  · have := h i hi
    rw [List.getD_eq_getElem?_getD, List.getD_eq_getElem?_getD, List.getElem?_eq_getElem hi, List.getElem?_eq_getElem (by omega)] at this
    rw [List.getElem?_eq_getElem hi, List.getElem?_eq_getElem (by omega)]
    simpa using this
  · rw [List.getElem?_eq_none (by omega), List.getElem?_eq_none (by omega)]

set_option maxHeartbeats 1000000 in
theorem ints_any (A B : Option Addr) (n m c c' : Nat) (xs ys : List Int) (w : World) (hx : Ints w A n xs) (hy : Ints w B m ys) (hn : n ≤ 9223372036854775807) (hm : m ≤ 9223372036854775807) (r : Bool) (hr : r = decide (xs = ys)) :
    Calls Tryz.prog 210 #[.slice A n c, .slice B m c'] w fun e w' => e = .returned (.bool r) ∧ Below w.heap.size w w' := by
  have Hx := Lib.hid hx
  have Hy := Lib.hid hy
  have Hr := Lib.hid hr
  clear hx hy hr
  by_cases hnm : n = m
  · subst hnm
    go_enter Tryz.func210, Tryz.ntmps210
    go_wp2_with fail
    go_loopw [5] (fun iv wr => ∃ k : Nat, k ≤ n ∧ iv = .int .i64 k ∧ Hid (∀ j, j < k → xs.getD j 0 = ys.getD j 0) ∧ Below w.heap.size w wr) (fun iv _ => n - (intOf iv).toNat)
    case atStart => exact ⟨0, by omega, rfl, Lib.hid (fun j hj => absurd hj (by omega)), blA⟩
    case round =>
      obtain ⟨k, hk, rfl, Hk, hbw⟩ := hrel
      by_cases hlt : k < n
      · obtain ⟨b1, o1, rfl, _, e1⟩ := Hx.out.at0 hbw hlt
        obtain ⟨b2, o2, rfl, _, e2⟩ := Hy.out.at0 hbw hlt
        by_cases he : xs.getD k 0 = ys.getD k 0
        · have Hk2 : Hid (∀ j, j < k + 1 → xs.getD j 0 = ys.getD j 0) := Lib.hid (fun j hj => by
            by_cases e : j = k
            · rw [e]; exact he
            · exact Hk.out j (by omega))
          rw [he] at e1
          generalize ys.getD k 0 = y at *
          clear he
          go_wp2_with fail
          go_quiet (fail)
          go_wp2_with fail
          go_roundw
          case rel => exact ⟨k + 1, by omega, by go_num, Hk2, blA⟩
          case measure => simp [intOf]; omega
        · have hr0 : Hid (r = false) := Lib.hid (by
            rw [Hr.out]
            exact decide_eq_false (fun h => he (by rw [h])))
          obtain rfl := hr0.out
          have he2 : (xs.getD k 0 == ys.getD k 0) = false := by simpa using he
          have he3 : (xs.getD k 0 != ys.getD k 0) = true := by simpa using he
          clear hr0 Hr Hk
          generalize xs.getD k 0 = x at *
          generalize ys.getD k 0 = y at *
          go_wp2_with fail
          go_quiet (fail)
          go_wp2_with fail
          go_ret
          exact ⟨rfl, blA⟩
      · obtain rfl : k = n := by omega
        have hr0 : Hid (r = true) := Lib.hid (by
          rw [Hr.out]
          exact decide_eq_true (list_ext_getD _ _ (by rw [Hx.out.1, Hy.out.1]) (fun i hi => Hk.out i (by have := Hx.out.1; omega))))
        obtain rfl := hr0.out
        clear hr0 Hr Hk
        go_wp2_with fail
        go_ret
        exact ⟨rfl, blA⟩
  · have hr0 : Hid (r = false) := Lib.hid (by
      rw [Hr.out]
      exact decide_eq_false (fun h => hnm (by rw [← Hx.out.1, ← Hy.out.1, h])))
    obtain rfl := hr0.out
    have h1 : ((n : Int) == (m : Int)) = false := by simp; omega
    have h2 : ¬ (n : Int) = (m : Int) := by omega
    have h3 : ¬ n = m := hnm
    clear hr0 Hr hnm
    go_enter Tryz.func210, Tryz.ntmps210
    go_wp2_with fail
    go_ret
    exact ⟨rfl, blA⟩

set_option maxHeartbeats 1000000 in
theorem longs_any (A B : Option Addr) (n m c c' : Nat) (xs ys : List Int) (w : World) (hx : Ints w A n xs) (hy : Ints w B m ys) (hn : n ≤ 9223372036854775807) (hm : m ≤ 9223372036854775807) (r : Bool) (hr : r = decide (xs = ys)) :
    Calls Tryz.prog 209 #[.slice A n c, .slice B m c'] w fun e w' => e = .returned (.bool r) ∧ Below w.heap.size w w' := by
  have Hx := Lib.hid hx
  have Hy := Lib.hid hy
  have Hr := Lib.hid hr
  clear hx hy hr
  by_cases hnm : n = m
  · subst hnm
    go_enter Tryz.func209, Tryz.ntmps209
    go_wp2_with fail
    go_loopw [5] (fun iv wr => ∃ k : Nat, k ≤ n ∧ iv = .int .i64 k ∧ Hid (∀ j, j < k → xs.getD j 0 = ys.getD j 0) ∧ Below w.heap.size w wr) (fun iv _ => n - (intOf iv).toNat)
    case atStart => exact ⟨0, by omega, rfl, Lib.hid (fun j hj => absurd hj (by omega)), blA⟩
    case round =>
      obtain ⟨k, hk, rfl, Hk, hbw⟩ := hrel
      by_cases hlt : k < n
      · obtain ⟨b1, o1, rfl, _, e1⟩ := Hx.out.at0 hbw hlt
        obtain ⟨b2, o2, rfl, _, e2⟩ := Hy.out.at0 hbw hlt
        by_cases he : xs.getD k 0 = ys.getD k 0
        · have Hk2 : Hid (∀ j, j < k + 1 → xs.getD j 0 = ys.getD j 0) := Lib.hid (fun j hj => by
            by_cases e : j = k
            · rw [e]; exact he
            · exact Hk.out j (by omega))
          rw [he] at e1
          generalize ys.getD k 0 = y at *
          clear he
          go_wp2_with fail
          go_quiet (fail)
          go_wp2_with fail
          go_roundw
          case rel => exact ⟨k + 1, by omega, by go_num, Hk2, blA⟩
          case measure => simp [intOf]; omega
        · have hr0 : Hid (r = false) := Lib.hid (by
            rw [Hr.out]
            exact decide_eq_false (fun h => he (by rw [h])))
          obtain rfl := hr0.out
          have he2 : (xs.getD k 0 == ys.getD k 0) = false := by simpa using he
          have he3 : (xs.getD k 0 != ys.getD k 0) = true := by simpa using he
          clear hr0 Hr Hk
          generalize xs.getD k 0 = x at *
          generalize ys.getD k 0 = y at *
          go_wp2_with fail
          go_quiet (fail)
          go_wp2_with fail
          go_ret
          exact ⟨rfl, blA⟩
      · obtain rfl : k = n := by omega
        have hr0 : Hid (r = true) := Lib.hid (by
          rw [Hr.out]
          exact decide_eq_true (list_ext_getD _ _ (by rw [Hx.out.1, Hy.out.1]) (fun i hi => Hk.out i (by have := Hx.out.1; omega))))
        obtain rfl := hr0.out
        clear hr0 Hr Hk
        go_wp2_with fail
        go_ret
        exact ⟨rfl, blA⟩
  · have hr0 : Hid (r = false) := Lib.hid (by
      rw [Hr.out]
      exact decide_eq_false (fun h => hnm (by rw [← Hx.out.1, ← Hy.out.1, h])))
    obtain rfl := hr0.out
    have h1 : ((n : Int) == (m : Int)) = false := by simp; omega
    have h2 : ¬ (n : Int) = (m : Int) := by omega
    have h3 : ¬ n = m := hnm
    clear hr0 Hr hnm
    go_enter Tryz.func209, Tryz.ntmps209
    go_wp2_with fail
    go_ret
    exact ⟨rfl, blA⟩

set_option maxHeartbeats 1000000 in
theorem ranges_any (A B : Option Addr) (n m c c' : Nat) (xs ys : List (Int × Int)) (w : World) (hx : Prs w A n xs) (hy : Prs w B m ys) (hn : n ≤ 9223372036854775807) (hm : m ≤ 9223372036854775807) (r : Bool) (hr : r = decide (xs = ys)) :
    Calls Tryz.prog 211 #[.slice A n c, .slice B m c'] w fun e w' => e = .returned (.bool r) ∧ Below w.heap.size w w' := by
  have Hx := Lib.hid hx
  have Hy := Lib.hid hy
  have Hr := Lib.hid hr
  clear hx hy hr
  by_cases hnm : n = m
  · subst hnm
    go_enter Tryz.func211, Tryz.ntmps211
    go_wp2_with fail
    go_loopw [5] (fun iv wr => ∃ k : Nat, k ≤ n ∧ iv = .int .i64 k ∧ Hid (∀ j : Nat, j < k → xs[j]? = ys[j]?) ∧ Below w.heap.size w wr) (fun iv _ => n - (intOf iv).toNat)
    case atStart => exact ⟨0, by omega, rfl, Lib.hid (fun j hj => absurd hj (by omega)), blA⟩
    case round =>
      obtain ⟨k, hk, rfl, Hk, hbw⟩ := hrel
      by_cases hlt : k < n
      · obtain ⟨b1, o1, x, y, rfl, g1, c0, c1⟩ := Hx.out.at_ hbw hlt
        obtain ⟨b2, o2, x', y', rfl, g2, d0, d1⟩ := Hy.out.at_ hbw hlt
        have G1 := Lib.hid g1
        have G2 := Lib.hid g2
        clear g1 g2
        by_cases h1 : x = x'
        · subst h1
          by_cases h2 : y = y'
          · subst h2
            have Hk2 : Hid (∀ j : Nat, j < k + 1 → xs[j]? = ys[j]?) := Lib.hid (fun j hj => by
              by_cases e : j = k
              · rw [e, G1.out, G2.out]
              · exact Hk.out j (by omega))
            clear Hk G1 G2
            go_wp2_with fail
            go_quiet (fail)
            go_wp2_with fail
            go_roundw
            case rel => exact ⟨k + 1, by omega, by go_num, Hk2, blA⟩
            case measure => simp [intOf]; omega
          · have hr0 : Hid (r = false) := Lib.hid (by
              rw [Hr.out]
              exact decide_eq_false (fun h => h2 (by have := G1.out; rw [h, G2.out] at this; injection this with this; injection this with _ this; exact this.symm)))
            obtain rfl := hr0.out
            have e1 : (y == y') = false := by simpa using h2
            have e2 : (y != y') = true := by simpa using h2
            clear hr0 Hr Hk G1 G2
            go_wp2_with fail
            go_quiet (fail)
            go_wp2_with fail
            go_ret
            exact ⟨rfl, blA⟩
        · have hr0 : Hid (r = false) := Lib.hid (by
            rw [Hr.out]
            exact decide_eq_false (fun h => h1 (by have := G1.out; rw [h, G2.out] at this; injection this with this; injection this with this _; exact this.symm)))
          obtain rfl := hr0.out
          have e1 : (x == x') = false := by simpa using h1
          have e2 : (x != x') = true := by simpa using h1
          clear hr0 Hr Hk G1 G2
          go_wp2_with fail
          go_quiet (fail)
          go_wp2_with fail
          go_ret
          exact ⟨rfl, blA⟩
      · obtain rfl : k = n := by omega
        have hr0 : Hid (r = true) := Lib.hid (by
          rw [Hr.out]
          exact decide_eq_true (List.ext_getElem? fun j => by
            rcases Nat.lt_or_ge j k with h | h
            · exact Hk.out j h
            · rw [List.getElem?_eq_none (by have := Hx.out.1; omega), List.getElem?_eq_none (by have := Hy.out.1; omega)]))
        obtain rfl := hr0.out
        clear hr0 Hr Hk
        go_wp2_with fail
        go_ret
        exact ⟨rfl, blA⟩
  · have hr0 : Hid (r = false) := Lib.hid (by
      rw [Hr.out]
      exact decide_eq_false (fun h => hnm (by rw [← Hx.out.1, ← Hy.out.1, h])))
    obtain rfl := hr0.out
    have h1 : ((n : Int) == (m : Int)) = false := by simp; omega
    have h2 : ¬ (n : Int) = (m : Int) := by omega
    have h3 : ¬ n = m := hnm
    clear hr0 Hr hnm
    go_enter Tryz.func211, Tryz.ntmps211
    go_wp2_with fail
    go_ret
    exact ⟨rfl, blA⟩

end Go.Proofs.YtlbjnkopbabcnaaGreatDoor
end

/- Walks of the reference of layer 2: Ordered, Picked. -/
section
namespace Go.Proofs.YtlbjnkopbabcnaaGreatDoor
open Go.RowKit Go.Shelf
set_option linter.unusedSimpArgs false
set_option linter.unusedVariables false
open Bm (Pr ordB pickB)

set_option maxHeartbeats 1000000 in
theorem rordered_any (A : Option Addr) (n c : Nat) (xs : List Int) (w : World) (hx : Ints w A n xs) (hn : n ≤ 1000) :
    Calls Tryz.prog 297 #[.slice A n c] w fun e w' => e = .returned (.bool (ordB xs)) ∧ Below w.heap.size w w' := by
  obtain ⟨r, hr⟩ : ∃ r, ordB xs = r := ⟨_, rfl⟩
  rw [hr]
  have Hx := Lib.hid hx
  have Hr := Lib.hid hr
  clear hx hr
  go_enter Tryz.func297, Tryz.ntmps297
  go_wp2_with fail
  go_loopw [3] (fun iv wr => ∃ k : Nat, 1 ≤ k ∧ (k ≤ n ∨ k = 1) ∧ iv = .int .i64 k ∧ Hid (∀ j, j + 1 < k → xs.getD (j + 1) 0 ≤ xs.getD j 0) ∧ Below w.heap.size w wr) (fun iv _ => n - (intOf iv).toNat)
  case atStart => exact ⟨1, by omega, .inr rfl, rfl, Lib.hid (fun j hj => absurd hj (by omega)), blA⟩
  case round =>
    obtain ⟨k, hk1, hk, rfl, Hk, hbw⟩ := hrel
    by_cases hlt : k < n
    · obtain ⟨b1, o1, rfl, _, e1⟩ := Hx.out.at0 hbw hlt
      obtain ⟨b2, o2, e', _, e2⟩ := Hx.out.at0 hbw (show k - 1 < n by omega)
      injection e' with e'
      injection e' with q1 q2
      subst q1 q2
      by_cases hgt : xs.getD (k - 1) 0 < xs.getD k 0
      · have hr0 : Hid (r = false) := Lib.hid (by
          cases h : r with
          | false => rfl
          | true =>
            have := Bm.ordB_iff.1 (Hr.out.trans h) (k - 1) (by have := Hx.out.1; omega)
            rw [show k - 1 + 1 = k by omega] at this
            omega)
        obtain rfl := hr0.out
        clear hr0 Hr Hk
        generalize xs.getD k 0 = x at *
        generalize xs.getD (k - 1) 0 = y at *
        go_wp2_with fail
        go_quiet (fail)
        go_wp2_with fail
        go_ret
        exact ⟨rfl, blA⟩
      · have Hk2 : Hid (∀ j, j + 1 < k + 1 → xs.getD (j + 1) 0 ≤ xs.getD j 0) := Lib.hid (fun j hj => by
          by_cases e : j + 1 = k
          · have : j = k - 1 := by omega
            subst this
            rw [show k - 1 + 1 = k by omega]; omega
          · exact Hk.out j (by omega))
        clear Hk
        generalize xs.getD k 0 = x at *
        generalize xs.getD (k - 1) 0 = y at *
        go_wp2_with fail
        go_quiet (fail)
        go_wp2_with fail
        go_roundw
        case rel => exact ⟨k + 1, by omega, .inl (by omega), by go_num, Hk2, blA⟩
        case measure => simp [intOf]; omega
    · have hr0 : Hid (r = true) := Lib.hid (Hr.out.symm.trans (Bm.ordB_iff.2 fun i hi => Hk.out i (by have := Hx.out.1; omega)))
      obtain rfl := hr0.out
      clear hr0 Hr Hk
      go_wp2_with fail
      go_ret
      exact ⟨rfl, blA⟩

set_option maxHeartbeats 2000000 in
theorem rpicked_any (A : Option Addr) (n c m : Nat) (xs : List Int) (w : World) (hx : Ints w A n xs) (hn : n ≤ 1000) (hm : m ≤ n) :
    Calls Tryz.prog 296 #[.slice A n c, .int .i64 (m : Nat)] w fun e w' => e = .returned (.bool (pickB xs m)) ∧ Below w.heap.size w w' := by
  obtain ⟨r, hr⟩ : ∃ r, pickB xs m = r := ⟨_, rfl⟩
  rw [hr]
  have Hx := Lib.hid hx
  have Hr := Lib.hid hr
  clear hx hr
  go_enter Tryz.func296, Tryz.ntmps296
  go_wp2_with fail
  go_loopw [5, 6] (fun iv _ wr => ∃ i : Nat, i ≤ m ∧ iv = .int .i64 i ∧ Hid (∀ j, j < i → ∀ k, k < n → m ≤ k → xs.getD k 0 ≤ xs.getD j 0) ∧ Below w.heap.size w wr) (fun iv _ _ => m - (intOf iv).toNat)
  case atStart => exact ⟨0, by omega, rfl, Lib.hid (fun j hj => absurd hj (by omega)), blA⟩
  case round =>
    obtain ⟨i, hi, rfl, Hi, hbw⟩ := hrel
    by_cases him : i < m
    · go_wp2_with fail
      go_loopw [6] (fun kv wx => ∃ k : Nat, m ≤ k ∧ k ≤ n ∧ kv = .int .i64 k ∧ Hid (∀ q, q < k → m ≤ q → xs.getD q 0 ≤ xs.getD i 0) ∧ Below w.heap.size w wx) (fun kv _ => n - (intOf kv).toNat)
      case atStart => exact ⟨m, by omega, hm, rfl, Lib.hid (fun j hj h => absurd hj (by omega)), blA⟩
      case round =>
        clear hbw
        obtain ⟨k, hmk, hk, rfl, Hk, hbw⟩ := hrel
        by_cases hlt : k < n
        · obtain ⟨b1, o1, rfl, _, e1⟩ := Hx.out.at0 hbw hlt
          obtain ⟨b2, o2, e', _, e2⟩ := Hx.out.at0 hbw (show i < n by omega)
          injection e' with e'
          injection e' with q1 q2
          subst q1 q2
          by_cases hgt : xs.getD i 0 < xs.getD k 0
          · have hr0 : Hid (r = false) := Lib.hid (by
              cases h : r with
              | false => rfl
              | true =>
                have := Bm.pickB_iff.1 (Hr.out.trans h) i him k (by have := Hx.out.1; omega) hmk
                omega)
            obtain rfl := hr0.out
            clear hr0 Hr Hk Hi
            generalize xs.getD k 0 = x at *
            generalize xs.getD i 0 = y at *
            go_wp2_with fail
            go_quiet (fail)
            go_wp2_with fail
            go_ret
            exact ⟨rfl, blA⟩
          · have Hk2 : Hid (∀ q, q < k + 1 → m ≤ q → xs.getD q 0 ≤ xs.getD i 0) := Lib.hid (fun q hq h => by
              by_cases e : q = k
              · subst e; omega
              · exact Hk.out q (by omega) h)
            clear Hk
            generalize xs.getD k 0 = x at *
            generalize xs.getD i 0 = y at *
            go_wp2_with fail
            go_quiet (fail)
            go_wp2_with fail
            go_roundw
            case rel => exact ⟨k + 1, by omega, by omega, by go_num, Hk2, blA⟩
            case measure => simp [intOf]; omega
        · have Hi2 : Hid (∀ j, j < i + 1 → ∀ k, k < n → m ≤ k → xs.getD k 0 ≤ xs.getD j 0) := Lib.hid (fun j hj q hq hmq => by
            by_cases e : j = i
            · subst e; exact Hk.out q (by omega) hmq
            · exact Hi.out j (by omega) q hq hmq)
          clear Hi Hk
          go_wp2_with fail
          go_roundw
          case rel => exact ⟨i + 1, by omega, by go_num, Hi2, blA⟩
          case measure => simp [intOf]; omega
    · have hr0 : Hid (r = true) := Lib.hid (Hr.out.symm.trans (Bm.pickB_iff.2 fun j hj k hk hmk => Hi.out j (by omega) k (by have := Hx.out.1; omega) hmk))
      obtain rfl := hr0.out
      clear hr0 Hr Hi
      go_wp2_with fail
      go_ret
      exact ⟨rfl, blA⟩

end Go.Proofs.YtlbjnkopbabcnaaGreatDoor
end

/- Walks of the reference of layer 2: Test. -/
section
namespace Go.Proofs.YtlbjnkopbabcnaaGreatDoor
open Go.RowKit Go.Shelf
set_option linter.unusedSimpArgs false
set_option linter.unusedVariables false
open Bm (Pr cex runL OkP rowL tab b2i ordB pickB unord bfP fstBad runB)

theorem chk_range {l : Int} {zs : List (Int × Int)} : 0 ≤ chkP l zs ∧ chkP l zs ≤ 6 := by
  unfold chkP; split
  · omega
  · split
    · omega
    · split <;> omega

/-- a programme goes wrong on a row of dark and bright lamps, as it has become -/
def badT (n m : Nat) (r : Nat → Bool) : Bool := if m = n then unord n (fun _ _ => true) r else unord n (bfP m) r
/-- the first row of dark and bright lamps on which a programme goes wrong -/
def firstS (n : Nat) (bad : Nat → Bool) : List Int × Int := match fstBad n bad with
  | some k => (rowL n k, 0)
  | none => ([], 5)
theorem firstS_some {n k : Nat} {bad : Nat → Bool} (hk : k < 2 ^ n) (hb : bad k = true) (hj : ∀ j, j < k → bad j = false) : firstS n bad = (rowL n k, 0) := by
  unfold firstS; rw [Bm.fstBad_some.2 ⟨hk, hb, hj⟩]
theorem firstS_none {n : Nat} {bad : Nat → Bool} (hj : ∀ j, j < 2 ^ n → bad j = false) : firstS n bad = ([], 5) := by
  unfold firstS; rw [Bm.fstBad_none.2 hj]
/-- the row that Test names, or the error -/
def testE (l : Int) (zs : List (Int × Int)) (best : Int) : List Int × Int :=
  if chkP l zs ≠ 0 then ([], chkP l zs) else if best < 1 ∨ l < best then ([], 3) else firstS l.toNat (fun k => badT l.toNat best.toNat (runB (natP zs) (tab l.toNat k)))

theorem ord_bad {n k : Nat} {p : List Pr} (hp : OkP n p) : (!ordB (runL p (rowL n k))) = unord n (fun _ _ => true) (runB p (tab n k)) := by
  have hl : (runL p (rowL n k)).length = n := by rw [Bm.runL_len, Bm.rowL_len]
  have h1 : ordB (runL p (rowL n k)) = false ↔ unord n (fun _ _ => true) (runB p (tab n k)) = true := by
    rw [Bm.ordB_un, hl, ← Bm.unF_b2i]
    constructor
    · rintro ⟨a, b, h1, h2, h3, h4⟩; exact ⟨a, b, h1, h2, h3, by show b2i (runB p (tab n k) b) < b2i (runB p (tab n k) a); rw [← Bm.runL_row hp h1, ← Bm.runL_row hp (show b < n by omega)]; exact h4⟩
    · rintro ⟨a, b, h1, h2, h3, h4⟩; exact ⟨a, b, h1, h2, h3, by show (runL p (rowL n k)).getD b 0 < (runL p (rowL n k)).getD a 0; rw [Bm.runL_row hp h1, Bm.runL_row hp (show b < n by omega)]; exact h4⟩
  revert h1
  cases ordB (runL p (rowL n k)) <;> cases unord n (fun _ _ => true) (runB p (tab n k)) <;> simp
theorem pick_bad {n k m : Nat} {p : List Pr} (hp : OkP n p) (hm : m ≤ n) : (!pickB (runL p (rowL n k)) m) = unord n (bfP m) (runB p (tab n k)) := by
  have hl : (runL p (rowL n k)).length = n := by rw [Bm.runL_len, Bm.rowL_len]
  have h1 : pickB (runL p (rowL n k)) m = false ↔ unord n (bfP m) (runB p (tab n k)) = true := by
    rw [Bm.pickB_un (by rw [hl]; exact hm), hl, ← Bm.unF_b2i]
    constructor
    · rintro ⟨a, b, h1, h2, h3, h4⟩; exact ⟨a, b, h1, h2, h3, by show b2i (runB p (tab n k) b) < b2i (runB p (tab n k) a); rw [← Bm.runL_row hp h1, ← Bm.runL_row hp (show b < n by omega)]; exact h4⟩
    · rintro ⟨a, b, h1, h2, h3, h4⟩; exact ⟨a, b, h1, h2, h3, by show (runL p (rowL n k)).getD b 0 < (runL p (rowL n k)).getD a 0; rw [Bm.runL_row hp h1, Bm.runL_row hp (show b < n by omega)]; exact h4⟩
  revert h1
  cases pickB (runL p (rowL n k)) m <;> cases unord n (bfP m) (runB p (tab n k)) <;> simp
theorem pow_le12 {n : Nat} (h : n ≤ 12) : 2 ^ n ≤ 4096 := Nat.pow_le_pow_right (by omega) h

theorem shl_one {n N : Nat} (h : 2 ^ n = N) (hN : N ≤ 4096) : wrap64 ((2 : Int) ^ n) = (N : Int) := by
  have e : ((2 : Int) ^ n) = ((2 ^ n : Nat) : Int) := by simp
  rw [e, h]
  exact IntWalk.wrap64_in _ ⟨by omega, by omega⟩

set_option maxRecDepth 100000 in
set_option maxHeartbeats 4000000 in
theorem rtest_ok (A : Option Addr) (n c m C : Nat) (p : List Pr) (w : World) (hz : Prs w A c (cst p)) (hc : c ≤ 80) (h2 : 2 ≤ n) (h12 : n ≤ 12) (hp : OkP n p) (hm1 : 1 ≤ m) (hm : m ≤ n) :
    Calls Tryz.prog 208 #[.int .i64 (n : Nat), .slice A c C, .int .i64 (m : Nat)] w (RetLE (firstS n (fun k => badT n m (runB p (tab n k)))).1 (firstS n (fun k => badT n m (runB p (tab n k)))).2 w) := by
  have hpl : p.length = c := by have := hz.1; rwa [cst_len] at this
  have k1 := fun (W : World) (hb' : Below w.heap.size w W) => rcheckP_any (n : Int) A c C (cst p) W (hz.below hb') (by omega)
  rw [chk_of h2 h12 hp (by omega)] at k1
  have hN := pow_le12 h12
  have kr := fun (W : World) (k : Nat) (hk : k < 2 ^ n) => rrow_any n k W h2 h12 (by omega)
  have ku := fun (W : World) (hb' : Below w.heap.size w W) (B : Option Addr) (C' : Nat) (ys : List Int) (hy : Ints W B n ys) => rrun_any A B n C' c C p ys W (hz.below hb') hc hy h2 h12 hp
  have Hno := Lib.hid (fun (h : ∀ j, j < 2 ^ n → badT n m (runB p (tab n j)) = false) => firstS_none h)
  have Hso := Lib.hid (fun k (hk : k < 2 ^ n) (hb : badT n m (runB p (tab n k)) = true) (h : ∀ j, j < k → badT n m (runB p (tab n j)) = false) => firstS_some (bad := fun k => badT n m (runB p (tab n k))) hk hb h)
  have Ho := Lib.hid (fun k => ord_bad (n := n) (k := k) hp)
  have Hpk := Lib.hid (fun k => pick_bad (n := n) (k := k) hp hm)
  generalize firstS n (fun k => badT n m (runB p (tab n k))) = R at *
  have d1 : decide ((m : Int) < 1) = false := by simp; omega
  have d2 : decide (n < m) = false := by simp; omega
  obtain ⟨N, hNN⟩ : ∃ N, 2 ^ n = N := ⟨_, rfl⟩
  rw [hNN] at hN kr Hno Hso
  have hsh := shl_one hNN hN
  clear hpl hNN
  go_enter Tryz.func208, Tryz.ntmps208
  go_wp2_with fail
  refine (k1 _ blA).mono ?_
  rintro _ w1 ⟨rfl, hb1⟩
  replace hbw : Below w.heap.size w w1 := blA
  clear hb1
  clear k1
  go_wp2_with fail
  go_loopw [8] (fun s8 wx => ∃ (k : Nat) (W : World), k ≤ N ∧ s8 = .int .i64 (k : Nat) ∧ Hid (W = wx) ∧ Hid (∀ j, j < k → badT n m (runB p (tab n j)) = false) ∧ Below w.heap.size w W) (fun s8 _ => N - (intOf s8).toNat)
  case atStart => exact ⟨0, _, Nat.zero_le _, rfl, Lib.hid rfl, Lib.hid (fun j hj => absurd hj (by omega)), blA⟩
  case round =>
    clear hbw
    obtain ⟨k, W, hk, rfl, HW, HK, hbw⟩ := hrel
    obtain rfl := HW.out
    clear HW
    by_cases hkn : k < N
    · go_wp2_with fail
      refine (kr _ k hkn).mono ?_
      rintro _ w2 ⟨B2, n2, c2, rfl, h2i, -, hb2⟩
      obtain rfl : n = n2 := by have := h2i.1; rw [Bm.rowL_len] at this; exact this
      replace hbw : Below w.heap.size w w2 := blA
      clear hb2
      go_wp2_with fail
      refine (ku _ hbw _ _ _ h2i).mono ?_
      rintro _ w3 ⟨B3, n3, c3, rfl, h3i, -, hb3⟩
      obtain rfl : n = n3 := by have := h3i.1; rw [Bm.runL_len, Bm.rowL_len] at this; exact this
      replace hbw : Below w.heap.size w w3 := blA
      clear hb3
      clear h2i
      by_cases hmn : m < n
      · have k5 := fun (W : World) (hb : Below w3.heap.size w3 W) => rpicked_any B3 n c3 m (runL p (rowL n k)) W (h3i.below hb) (by omega) hm
        have hbad : Hid ((!pickB (runL p (rowL n k)) m) = badT n m (runB p (tab n k))) := Lib.hid (by rw [Hpk.out, badT, if_neg (by omega)])
        have x1 : decide (m < n) = true := by simpa using hmn
        have x2 : ((m : Int) == (n : Int)) = false := by simp; omega
        have x3 : ¬ (m : Int) = (n : Int) := by omega
        have x4 : ¬ m = n := by omega
        generalize pickB (runL p (rowL n k)) m = b at *
        go_wp2_with fail
        refine (k5 _ (Below.refl _ _)).mono ?_
        rintro _ w4 ⟨rfl, hb4⟩
        replace hbw : Below w.heap.size w w4 := blA
        clear hb4
        clear k5 h3i
        cases b with
        | true =>
          have hb0 : Hid (badT n m (runB p (tab n k)) = false) := Lib.hid hbad.out.symm
          go_wp2_with fail
          go_roundw
          case rel =>
            refine ⟨k + 1, _, by omega, by go_num, Lib.hid rfl, Lib.hid (fun j hj => ?_), blA⟩
            by_cases e : j = k
            · subst e; exact hb0.out
            · exact HK.out j (by omega)
          case measure => simp [intOf]; omega
        | false =>
          have hR := Hso.out k hkn hbad.out.symm HK.out
          subst hR
          clear hbad HK
          go_wp2_with fail
          refine (kr _ k hkn).mono ?_
          rintro _ w5 ⟨B5, n5, c5, rfl, h5i, hn5, hb5⟩
          replace hbw : Below w.heap.size w w5 := blA
          clear hb5
          go_wp2_with fail
          go_ret2
          exact ⟨_, _, _, rfl, h5i, hn5, hbw⟩
      · obtain rfl : m = n := by omega
        have k5 := fun (W : World) (hb : Below w3.heap.size w3 W) => rordered_any B3 m c3 (runL p (rowL m k)) W (h3i.below hb) (by omega)
        have hbad : Hid ((!ordB (runL p (rowL m k))) = badT m m (runB p (tab m k))) := Lib.hid (by rw [Ho.out, badT, if_pos rfl])
        have x1 : decide (m < m) = false := by simp
        have x2 : ((m : Int) == (m : Int)) = true := by simp
        generalize ordB (runL p (rowL m k)) = b at *
        go_wp2_with fail
        refine (k5 _ (Below.refl _ _)).mono ?_
        rintro _ w4 ⟨rfl, hb4⟩
        replace hbw : Below w.heap.size w w4 := blA
        clear hb4
        clear k5 h3i
        cases b with
        | true =>
          have hb0 : Hid (badT m m (runB p (tab m k)) = false) := Lib.hid hbad.out.symm
          go_wp2_with fail
          go_roundw
          case rel =>
            refine ⟨k + 1, _, by omega, by go_num, Lib.hid rfl, Lib.hid (fun j hj => ?_), blA⟩
            by_cases e : j = k
            · subst e; exact hb0.out
            · exact HK.out j (by omega)
          case measure => simp [intOf]; omega
        | false =>
          have hR := Hso.out k hkn hbad.out.symm HK.out
          subst hR
          clear hbad HK
          go_wp2_with fail
          refine (kr _ k hkn).mono ?_
          rintro _ w5 ⟨B5, n5, c5, rfl, h5i, hn5, hb5⟩
          replace hbw : Below w.heap.size w w5 := blA
          clear hb5
          go_wp2_with fail
          go_ret2
          exact ⟨_, _, _, rfl, h5i, hn5, hbw⟩
    · obtain rfl : k = N := by omega
      have hR := Hno.out HK.out
      subst hR
      clear HK
      go_wp2_with fail
      go_ret2
      exact RetLE.no hbw rfl

end Go.Proofs.YtlbjnkopbabcnaaGreatDoor
end
