/- BA8 BR8 -/
import Derived.Test.YtlbjnkopbabcnaaGreatDoorYB07
/- Walks of package bench: Places. -/
section
namespace Go.Proofs.YtlbjnkopbabcnaaGreatDoor
open Go.RowKit Go.Shelf
set_option linter.unusedSimpArgs false
set_option linter.unusedVariables false

theorem rowF_congr {m : Nat} {f g : Nat → Int} (h : ∀ i, i < m → f i = g i) : rowF m f = rowF m g := List.map_congr_left fun i hi => h i (by simpa using hi)
/-- a flat row as pairs -/
theorem flat_prs {w : World} {g n : Nat} {f : Nat → Int} (h : Rx w g (rowF (n * 2) f)) {zs : List (Int × Int)} (hl : zs.length = n) (hz : ∀ i x y, zs[i]? = some (x, y) → f (i * 2) = x ∧ f (i * 2 + 1) = y) : Prs w (some ⟨g, 0, none⟩) n zs :=
  ⟨hl, fun _ => ⟨g, 0, rfl, h.lt, fun i x y hi => by
    have hin : i < n := by rw [← hl]; exact (List.getElem?_eq_some_iff.1 hi).1
    obtain ⟨h1, h2⟩ := hz i x y hi
    have c0 := h.cell (k := i * 2) (by rw [rowF_len]; omega)
    have c1 := h.cell (k := i * 2 + 1) (by rw [rowF_len]; omega)
    rw [rowF_get _ (by omega)] at c0 c1
    rw [Nat.zero_add]
    exact ⟨by rw [c0, h1], by rw [c1, h2]⟩⟩⟩
theorem plcL_get {zs : List (Int × Int)} {i : Nat} {x y : Int} (h : (plcL zs)[i]? = some (x, y)) : i < zs.length ∧ x = ((rLo zs i zs.length : Nat) : Int) ∧ y = ((rHi zs i zs.length : Nat) : Int) := by
  have hi : i < zs.length := by have := (List.getElem?_eq_some_iff.1 h).1; simpa [plcL] using this
  unfold plcL at h
  rw [List.getElem?_map, List.getElem?_range hi] at h
  injection h with h
  injection h with h1 h2
  exact ⟨hi, h1.symm, h2.symm⟩

set_option maxRecDepth 100000 in
set_option maxHeartbeats 16000000 in
theorem places_ok (A : Option Addr) (n C : Nat) (zs : List (Int × Int)) (w : World) (hz : Prs w A n zs) (h1 : 1 ≤ n) (h12 : n ≤ 12) (hg : zs.any (fun x => !rgB 0 100000 x) = false) :
    Calls Tryz.prog 17 #[.slice A n C] w (RetPE (plcL zs) 0 w) := by
  have hl := hz.1
  have k1 := fun (W : World) (hb : Below w.heap.size w W) => containsRgs_any A n C 61 zs #[] (fun x => !rgB 0 100000 x) W
    (enters_of Tryz.func61 (by kernel_rfl) rfl) (hz.below hb) (by omega) (fun x _ V hV => (placesC_any x.1 x.2 V).mono fun e W' ⟨he, hb⟩ => ⟨he, hV.trans (hb.mono hV.size)⟩)
  rw [hg] at k1
  have hv : ∀ i x y, zs[i]? = some (x, y) → x ≤ y := fun i x y h => by
    have := List.any_eq_false.1 hg _ (List.mem_of_getElem? h)
    simp [rgB] at this; omega
  have hmk := run_makeR2 n (by omega)
  have Hz := Lib.hid hz
  have Hl := Lib.hid hl
  have Hv := Lib.hid hv
  have n0 : ¬ (n : Int) = 0 := by omega
  have n0B : ((n : Int) == 0) = false := by simp; omega
  have n12 : ¬ (12 : Int) < (n : Int) := by omega
  clear hz hl hv hg
  go_enter Tryz.func17, Tryz.ntmps17
  go_wp2_with fail
  refine (k1 _ blA).mono ?_
  rintro _ w1 ⟨rfl, hb1⟩
  replace hbw : Below w.heap.size w w1 := blA
  clear hb1
  clear k1
  have h1w := hbw.size
  go_wp2_with fail
  clear hmk
  go_loopw [26] (fun s26 wx => ∃ (i : Nat) (f : Nat → Int) (W : World), i ≤ n ∧ s26 = .int .i64 (i : Nat) ∧ Hid (W = wx) ∧ Hid (Rx W w1.heap.size (rowF (n * 2) f)) ∧ Hid (∀ j, j < i → f (j * 2) = ((rLo zs j n : Nat) : Int) ∧ f (j * 2 + 1) = ((rHi zs j n : Nat) : Int)) ∧ Hid (∀ j, i ≤ j → f (j * 2) = 0 ∧ f (j * 2 + 1) = 0) ∧ Below w.heap.size w W) (fun s26 _ => n - (intOf s26).toNat)
  case atStart => exact ⟨0, fun _ => 0, _, Nat.zero_le _, rfl, Lib.hid rfl, Lib.hid (by rw [rowF_zero]; exact (Rw.zerosT _ _ _ _ rfl).x), Lib.hid (fun j hj => absurd hj (by omega)), Lib.hid (fun j _ => ⟨rfl, rfl⟩), blA⟩
  case round =>
    clear hbw
    obtain ⟨i, f, W, hi, rfl, HW, HR, HF, HN, hbw⟩ := hrel
    obtain rfl := HW.out
    clear HW
    by_cases hin : i < n
    · obtain ⟨b, off, x, y, rfl, hget, c0, c1⟩ := Hz.out.at_ hbw hin
      have hxy := Hv.out _ _ _ hget
      have Hget := Lib.hid hget
      clear hget
      have hsW := hbw.size
      have lr := HR.out.lt
      go_wp2_with fail
      have G0 := HN.out i (Nat.le_refl _)
      have HG := Lib.hid G0
      clear G0
      have B0 : Cs (W.alloc (.cells #[.int .i64 x, .int .i64 y] 41)) W.heap.size #[.int .i64 x, .int .i64 y] := csA
      have HB0 := Lib.hid B0
      clear B0
      go_loopw [33] (fun s33 wx => ∃ (k lo hi2 : Nat) (f2 : Nat → Int) (V : World), k ≤ n ∧ s33 = .int .i64 (k : Nat) ∧ Hid (V = wx) ∧ Hid (Rx V w1.heap.size (rowF (n * 2) f2)) ∧ Hid (lo = pLo zs i k) ∧ Hid (hi2 = pHi zs i k) ∧ Hid (f2 (i * 2) = (lo : Int) ∧ f2 (i * 2 + 1) = (hi2 : Int)) ∧ Hid (∀ j, j ≠ i * 2 → j ≠ i * 2 + 1 → f2 j = f j) ∧ Cs V W.heap.size #[.int .i64 x, .int .i64 y] ∧ Below w.heap.size w V) (fun s33 _ => n - (intOf s33).toNat)
      case atStart => exact ⟨0, 0, 0, f, _, Nat.zero_le _, rfl, Lib.hid rfl, Lib.hid (HR.out.alloc _), Lib.hid rfl, Lib.hid rfl, HG, Lib.hid (fun j _ _ => rfl), HB0.out, balloc hbw _⟩
      case round =>
        clear c0 c1 hbw HR HB0 HG
        obtain ⟨k, lo, hi2, f2, V, hk, rfl, HVV, HR2, HLo0, HHi0, HV, HO2, BO, hbw⟩ := hrel
        obtain rfl := HVV.out
        clear HVV
        have cBO := BO.c
        have fBO := BO.f
        have lBO := BO.lt
        have hlo : lo ≤ k := by rw [HLo0.out]; exact pLo_le _ _ _
        have hhi : hi2 ≤ k := by rw [HHi0.out]; exact pHi_le _ _ _
        have fr := HR2.out.frozen
        have lr2 := HR2.out.lt
        by_cases hkn : k < n
        · obtain ⟨b9, off9, x2, y2, e', hget, c0, c1⟩ := Hz.out.at_ hbw hkn
          injection e' with e'
          injection e' with e1 e2
          subst e1 e2
          have HLo : Hid (pLo zs i (k + 1) = if y < x2 then lo + 1 else lo) := Lib.hid (by rw [pLo, rg_of Hget.out, rg_of hget, HLo0.out]; split <;> rfl)
          have HHi : Hid (pHi zs i (k + 1) = if x < y2 then hi2 + 1 else hi2) := Lib.hid (by rw [pHi, rg_of Hget.out, rg_of hget, HHi0.out]; split <;> rfl)
          have d0 := HR2.out.cell (k := i * 2) (by rw [rowF_len]; omega)
          have d1 := HR2.out.cell (k := i * 2 + 1) (by rw [rowF_len]; omega)
          rw [rowF_get _ (by omega)] at d0 d1
          rw [HV.out.1] at d0
          rw [HV.out.2] at d1
          clear hget HLo0 HHi0
          by_cases q1 : y < x2
          · rw [if_pos q1] at HLo
            by_cases q2 : x < y2
            · rw [if_pos q2] at HHi
              go_wp2_with fail
              go_roundw
              case rel =>
                refine ⟨k + 1, lo + 1, hi2 + 1, (fun j => if j = i * 2 + 1 then (hi2 : Int) + 1 else ((fun j => if j = i * 2 then (lo : Int) + 1 else (f2) j)) j), _, by omega, by go_num, Lib.hid rfl, Lib.hid ?_, Lib.hid HLo.out.symm, Lib.hid HHi.out.symm, Lib.hid ?_, Lib.hid ?_, (((BO.other (p := ⟨w1.heap.size, i * 2, none⟩) (by show W.heap.size ≠ w1.heap.size; omega) _).other (p := ⟨w1.heap.size, i * 2 + 1, none⟩) (by show W.heap.size ≠ w1.heap.size; omega) _)).alloc _, ?_⟩
                · simp only [← rowF_set]; exact (((((HR2.out).set (i * 2) _)).set (i * 2 + 1) _)).alloc _
                · obtain ⟨g1, g2⟩ := HV.out
                  constructor
                  · simp
                  · simp
                · intro j j1 j2; have := HO2.out j j1 j2; simp [j1, j2, this]
                · exact balloc (bset (bset hbw (p := ⟨w1.heap.size, i * 2, none⟩) h1w _) (p := ⟨w1.heap.size, i * 2 + 1, none⟩) h1w _) _
              case measure => simp [intOf]; omega
            · rw [if_neg q2] at HHi
              go_wp2_with fail
              go_roundw
              case rel =>
                refine ⟨k + 1, lo + 1, hi2, (fun j => if j = i * 2 then (lo : Int) + 1 else (f2) j), _, by omega, by go_num, Lib.hid rfl, Lib.hid ?_, Lib.hid HLo.out.symm, Lib.hid HHi.out.symm, Lib.hid ?_, Lib.hid ?_, ((BO.other (p := ⟨w1.heap.size, i * 2, none⟩) (by show W.heap.size ≠ w1.heap.size; omega) _)).alloc _, ?_⟩
                · simp only [← rowF_set]; exact (((HR2.out).set (i * 2) _)).alloc _
                · obtain ⟨g1, g2⟩ := HV.out
                  constructor
                  · simp
                  · simp [g2]
                · intro j j1 j2; have := HO2.out j j1 j2; simp [j1, j2, this]
                · exact balloc (bset hbw (p := ⟨w1.heap.size, i * 2, none⟩) h1w _) _
              case measure => simp [intOf]; omega
          · rw [if_neg q1] at HLo
            by_cases q2 : x < y2
            · rw [if_pos q2] at HHi
              go_wp2_with fail
              go_roundw
              case rel =>
                refine ⟨k + 1, lo, hi2 + 1, (fun j => if j = i * 2 + 1 then (hi2 : Int) + 1 else (f2) j), _, by omega, by go_num, Lib.hid rfl, Lib.hid ?_, Lib.hid HLo.out.symm, Lib.hid HHi.out.symm, Lib.hid ?_, Lib.hid ?_, ((BO.other (p := ⟨w1.heap.size, i * 2 + 1, none⟩) (by show W.heap.size ≠ w1.heap.size; omega) _)).alloc _, ?_⟩
                · simp only [← rowF_set]; exact (((HR2.out).set (i * 2 + 1) _)).alloc _
                · obtain ⟨g1, g2⟩ := HV.out
                  constructor
                  · simp [g1]
                  · simp
                · intro j j1 j2; have := HO2.out j j1 j2; simp [j1, j2, this]
                · exact balloc (bset hbw (p := ⟨w1.heap.size, i * 2 + 1, none⟩) h1w _) _
              case measure => simp [intOf]; omega
            · rw [if_neg q2] at HHi
              go_wp2_with fail
              go_roundw
              case rel =>
                refine ⟨k + 1, lo, hi2, f2, _, by omega, by go_num, Lib.hid rfl, Lib.hid ?_, Lib.hid HLo.out.symm, Lib.hid HHi.out.symm, Lib.hid ?_, Lib.hid ?_, (BO.alloc _), ?_⟩
                · exact HR2.out.alloc _
                · obtain ⟨g1, g2⟩ := HV.out
                  constructor
                  · simp [g1]
                  · simp [g2]
                · intro j j1 j2; have := HO2.out j j1 j2; simp [j1, j2, this]
                · exact (balloc hbw _)
              case measure => simp [intOf]; omega
        · obtain rfl : k = n := by omega
          have hfl : lo = rLo zs i k := by rw [HLo0.out]; exact pLo_r (by rw [rg_of Hget.out]; exact hxy) k
          have hfh : hi2 = rHi zs i k + if x < y then 1 else 0 := by rw [HHi0.out, pHi_r k, rg_of Hget.out]; simp [hin]
          have HFL := Lib.hid hfl
          have HFH := Lib.hid hfh
          have d1 := HR2.out.cell (k := i * 2 + 1) (by rw [rowF_len]; omega)
          rw [rowF_get _ (by omega), HV.out.2] at d1
          have HF' : Hid (∀ j, j < i → f2 (j * 2) = ((rLo zs j k : Nat) : Int) ∧ f2 (j * 2 + 1) = ((rHi zs j k : Nat) : Int)) := Lib.hid (fun j hj => by
            rw [HO2.out (j * 2) (by omega) (by omega), HO2.out (j * 2 + 1) (by omega) (by omega)]; exact HF.out j hj)
          have HN' : Hid (∀ j, i + 1 ≤ j → f2 (j * 2) = 0 ∧ f2 (j * 2 + 1) = 0) := Lib.hid (fun j hj => by
            rw [HO2.out (j * 2) (by omega) (by omega), HO2.out (j * 2 + 1) (by omega) (by omega)]; exact HN.out j (by omega))
          clear hfl hfh HF HN HO2 HLo0 HHi0
          by_cases q3 : x < y
          · rw [if_pos q3] at HFH
            have hpos : (1 : Int) ≤ (hi2 : Int) := by have := HFH.out; omega
            go_wp2_with fail
            go_roundw
            case rel =>
              refine ⟨i + 1, fun j => if j = i * 2 + 1 then (hi2 : Int) - 1 else f2 j, _, by omega, by go_num, Lib.hid rfl, Lib.hid (by rw [← rowF_set]; exact HR2.out.set _ _), Lib.hid (fun j hj => ?_), Lib.hid (fun j hj => ?_), bset hbw (p := ⟨w1.heap.size, i * 2 + 1, none⟩) h1w _⟩
              · dsimp only
                by_cases e : j = i
                · subst e
                  refine ⟨?_, ?_⟩
                  · rw [if_neg (by omega), HV.out.1, HFL.out]
                  · rw [if_pos rfl, HFH.out]; omega
                · rw [if_neg (by omega), if_neg (by omega)]; exact HF'.out j (by omega)
              · dsimp only; rw [if_neg (by omega), if_neg (by omega)]; exact HN'.out j hj
            case measure => simp [intOf]; omega
          · rw [if_neg q3] at HFH
            go_wp2_with fail
            go_roundw
            case rel =>
              refine ⟨i + 1, f2, _, by omega, by go_num, Lib.hid rfl, HR2, Lib.hid (fun j hj => ?_), Lib.hid (fun j hj => HN'.out j hj), hbw⟩
              by_cases e : j = i
              · subst e
                exact ⟨by rw [HV.out.1, HFL.out], by rw [HV.out.2, HFH.out]; rfl⟩
              · exact HF'.out j (by omega)
            case measure => simp [intOf]; omega
    · obtain rfl : i = n := by omega
      have hP : Prs W (some ⟨w1.heap.size, 0, none⟩) i (plcL zs) := flat_prs HR.out (by simp [plcL]; exact Hl.out) (fun j x y hj => by
        obtain ⟨q1, q2, q3⟩ := plcL_get hj
        rw [Hl.out] at q1 q2 q3
        rw [q2, q3]; exact HF.out j q1)
      have HP := Lib.hid hP
      clear hP HR HF HN
      go_wp2_with fail
      go_ret2
      exact ⟨_, i, i, rfl, HP.out, ⟨by omega, by omega⟩, hbw⟩

end Go.Proofs.YtlbjnkopbabcnaaGreatDoor
end

/- Walks: Places, with its errors; the reference's Run, with its errors. -/
section
namespace Go.Proofs.YtlbjnkopbabcnaaGreatDoor
open Go.RowKit Go.Shelf
set_option linter.unusedSimpArgs false
set_option linter.unusedVariables false
open Bm (runL)

set_option maxHeartbeats 4000000 in
theorem places_any (A : Option Addr) (n C : Nat) (zs : List (Int × Int)) (w : World) (hz : Prs w A n zs) (hn : n ≤ 9223372036854775807) :
    Calls Tryz.prog 17 #[.slice A n C] w (RetPE (placesE zs).1 (placesE zs).2 w) := by
  have hl := hz.1
  by_cases h0 : n = 0
  · have e : placesE zs = ([], 6) := by unfold placesE; rw [if_pos (.inl (by omega))]
    rw [e]
    subst h0
    clear hz e hl
    go_enter Tryz.func17, Tryz.ntmps17
    go_wp2_with fail
    go_ret2
    exact RetPE.no blA rfl
  by_cases h12 : 12 < n
  · have e : placesE zs = ([], 6) := by unfold placesE; rw [if_pos (.inr (by omega))]
    rw [e]
    have n0 : ¬ (n : Int) = 0 := by omega
    have n0B : ((n : Int) == 0) = false := by simp; omega
    have n12 : (12 : Int) < (n : Int) := by omega
    clear hz e hl
    go_enter Tryz.func17, Tryz.ntmps17
    go_wp2_with fail
    go_ret2
    exact RetPE.no blA rfl
  cases hg : zs.any (fun x => !rgB 0 100000 x) with
  | false =>
    have e : placesE zs = (plcL zs, 0) := by unfold placesE; rw [if_neg (by omega), hg, if_neg (by decide)]
    rw [e]
    exact places_ok A n C zs w hz (by omega) (by omega) hg
  | true =>
    have e : placesE zs = ([], 2) := by unfold placesE; rw [if_neg (by omega), hg, if_pos rfl]
    rw [e]
    have k1 := fun (W : World) (hb : Below w.heap.size w W) => containsRgs_any A n C 61 zs #[] (fun x => !rgB 0 100000 x) W
      (enters_of Tryz.func61 (by kernel_rfl) rfl) (hz.below hb) (by omega) (fun x _ V hV => (placesC_any x.1 x.2 V).mono fun e W' ⟨he, hb⟩ => ⟨he, hV.trans (hb.mono hV.size)⟩)
    rw [hg] at k1
    have n0 : ¬ (n : Int) = 0 := by omega
    have n0B : ((n : Int) == 0) = false := by simp; omega
    have n12 : ¬ (12 : Int) < (n : Int) := by omega
    clear hz e hl hg
    go_enter Tryz.func17, Tryz.ntmps17
    go_wp2_with fail
    refine (k1 _ blA).mono ?_
    rintro _ w1 ⟨rfl, hb1⟩
    clear k1
    go_wp2_with fail
    go_ret2
    exact RetPE.no blA rfl

theorem Prs.blk {w : World} {b o n : Nat} {zs : List (Int × Int)} (h : Prs w (some ⟨b, o, none⟩) n zs) (hn : 0 < n) : b < w.heap.size := by
  obtain ⟨b', o', e, hlt, -⟩ := h.2 hn
  injection e with e
  injection e with e1 e2
  subst e1
  exact hlt
theorem Cs.setA {w : World} {g : Nat} {a b : Value} (h : Cs w g #[a, b]) (x : Value) : Cs (w.setCell ⟨g, 0, none⟩ x) g #[x, b] := h.set 0 x (by simp)
theorem Cs.setB {w : World} {g : Nat} {a b : Value} (h : Cs w g #[a, b]) (x : Value) : Cs (w.setCell ⟨g, 1, none⟩ x) g #[a, x] := h.set 1 x (by simp)
/-- a block of two cells, one or both of which are set -/
theorem csB {w : World} {g : Nat} {cs : Array Value} (h : Cs w g cs := by repeat (first | with_reducible assumption | with_reducible refine Cs.drewN ?_ _ | with_reducible refine Cs.drew ?_ | apply Cs.setA | apply Cs.setB)) : Cs w g cs := h

end Go.Proofs.YtlbjnkopbabcnaaGreatDoor
end
