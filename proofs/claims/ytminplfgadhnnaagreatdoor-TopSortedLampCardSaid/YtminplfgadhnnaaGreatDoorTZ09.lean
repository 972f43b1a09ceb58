/- ZA8 -/
import Derived.Test.YtminplfgadhnnaaGreatDoorTZ08
/- Walks of package zone: contradict, clash, Doubt, CheckDoubt. -/
section
namespace Go.Proofs.YtminplfgadhnnaaGreatDoor
open Go.RowKit Go.Shelf
set_option linter.unusedSimpArgs false
set_option linter.unusedVariables false
open Zm

set_option maxHeartbeats 1000000 in
theorem zindexB_any (A : Option Addr) (n c : Nat) (v : Bool) (zs : List Bool) (w : World) (hz : Bls w A n zs) (hn : n ≤ 1000) :
    Calls Tryz.prog 165 #[.slice A n c, .bool v] w fun e w' => (∃ r : Int, e = .returned (.int .i64 r) ∧ decide (0 ≤ r) = zs.any (fun x => x == v)) ∧ Below w.heap.size w w' := by
  have Hz := Lib.hid hz
  have hl := hz.1
  clear hz
  go_enter Tryz.func165, Tryz.ntmps165
  go_wp2_with fail
  go_loopw [5, 8] (fun _ s8 wx => ∃ (k : Nat) (W : World), k ≤ n ∧ s8 = .int .i64 (k : Nat) ∧ Hid (W = wx) ∧ Hid (∀ i, i < k → (zs.getD i false == v) = false) ∧ Below w.heap.size w W) (fun _ s8 _ => n - (intOf s8).toNat)
  case atStart => exact ⟨0, _, Nat.zero_le _, rfl, Lib.hid rfl, Lib.hid (fun i hi => absurd hi (by omega)), blA⟩
  case round =>
    obtain ⟨k, W, hk, rfl, HW, HK, hbw⟩ := hrel
    obtain rfl := HW.out
    clear HW
    by_cases hlt : k < n
    · obtain ⟨b, off, rfl, _, ck⟩ := Hz.out.at0 hbw hlt
      obtain ⟨y, hy⟩ : ∃ y, zs.getD k false = y := ⟨_, rfl⟩
      rw [hy] at ck
      have Hy := Lib.hid hy
      clear hy
      by_cases hyv : v = y
      · have Hany : Hid (zs.any (fun x => x == v) = true) := Lib.hid (List.any_eq_true.2 ⟨zs[k], List.getElem_mem _, by have := Hy.out; rw [List.getD_eq_getElem?_getD, List.getElem?_eq_getElem (by omega)] at this; simp at this; rw [this, hyv]; simp⟩)
        subst hyv
        clear HK Hy
        go_wp2_with fail
        go_ret
        exact ⟨⟨_, rfl, by rw [Hany.out]; simp⟩, blA⟩
      · have Hn : Hid ((y == v) = false) := Lib.hid (by simp; exact fun e => hyv e.symm)
        have hb : (v == y) = false := by simp; exact hyv
        go_wp2_with fail
        go_roundw
        case rel =>
          refine ⟨k + 1, _, by omega, by go_num, Lib.hid rfl, Lib.hid (fun i hi => ?_), blA⟩
          by_cases e : i = k
          · subst e; rw [Hy.out]; exact Hn.out
          · exact HK.out i (by omega)
        case measure => simp [intOf]; omega
    · have Hany : Hid (zs.any (fun x => x == v) = false) := Lib.hid (by
        rw [List.any_eq_false]
        intro x hx
        obtain ⟨i, hi, rfl⟩ := List.mem_iff_getElem.1 hx
        have := HK.out i (by omega)
        rw [List.getD_eq_getElem?_getD, List.getElem?_eq_getElem hi] at this
        simpa using this)
      clear HK
      go_wp2_with fail
      go_ret
      exact ⟨⟨_, rfl, by rw [Hany.out]; rfl⟩, blA⟩

set_option maxHeartbeats 1000000 in
theorem zcontainsB_any (A : Option Addr) (n c : Nat) (v : Bool) (zs : List Bool) (w : World) (hz : Bls w A n zs) (hn : n ≤ 1000) :
    Calls Tryz.prog 160 #[.slice A n c, .bool v] w fun e w' => e = .returned (.bool (zs.any (fun x => x == v))) ∧ Below w.heap.size w w' := by
  have k1 := zindexB_any A n c v zs w hz hn
  generalize zs.any (fun x => x == v) = q at *
  clear hz
  go_enter Tryz.func160, Tryz.ntmps160
  go_wp2_with fail
  refine k1.mono ?_
  rintro _ w1 ⟨⟨r, rfl, hr⟩, hb1⟩
  have Hr := Lib.hid hr
  clear hr
  go_wp2_with fail
  go_ret
  exact ⟨ret_bool (by rw [← Hr.out]), blA⟩

theorem Bls.sub {w : World} {b o n i k : Nat} {zs : List Bool} (h : Bls w (some ⟨b, o, none⟩) n zs) (hi : i ≤ k) (hk : k ≤ n) : Bls w (some ⟨b, o + i, none⟩) (k - i) ((zs.drop i).take (k - i)) := by
  refine ⟨by rw [List.length_take, List.length_drop, h.1]; omega, fun hn => ?_⟩
  obtain ⟨b', o', e, hlt, hc⟩ := h.2 (by omega)
  injection e with e
  injection e with e1 e2
  subst e1 e2
  refine ⟨b, o + i, rfl, hlt, fun j hj => ?_⟩
  have := hc (i + j) (by omega)
  rw [← Nat.add_assoc] at this
  rw [this, List.getD_eq_getElem?_getD, List.getD_eq_getElem?_getD, List.getElem?_take_of_lt hj, List.getElem?_drop]
theorem ctr_eq {ls : List (Int × Int)} {fs : List Bool} {i k : Nat} (hi : i < k) (hk : k ≤ fs.length) : ctrB ls fs i k = (!((fs.drop i).take (k - i)).any (fun x => x == !fs.getD i false) && (if fs.getD i false then decide ((ls.getD i (0, 0)).2 < (ls.getD k (0, 0)).1) else decide ((ls.getD k (0, 0)).2 < (ls.getD i (0, 0)).1))) := by
  unfold ctrB
  congr 1
  rw [Bool.eq_iff_iff, List.all_eq_true, Bool.not_eq_true', List.any_eq_false]
  constructor
  · intro h x hx
    obtain ⟨j, hj, rfl⟩ := List.mem_iff_getElem.1 hx
    have hj' : j < k - i := by rw [List.length_take] at hj; omega
    have := h j (List.mem_range.2 hj')
    rw [List.getD_eq_getElem?_getD, List.getElem?_eq_getElem (show i + j < fs.length by omega)] at this
    rw [List.getElem_take, List.getElem_drop]
    revert this
    cases fs[i + j] <;> cases fs.getD i false <;> simp
  · intro h j hj
    have hj' := List.mem_range.1 hj
    have := h fs[i + j] (List.mem_iff_getElem.2 ⟨j, by rw [List.length_take, List.length_drop]; omega, by rw [List.getElem_take, List.getElem_drop]⟩)
    rw [List.getD_eq_getElem?_getD, List.getElem?_eq_getElem (show i + j < fs.length by omega)]
    revert this
    cases fs[i + j] <;> cases fs.getD i false <;> simp

set_option maxRecDepth 100000 in
set_option maxHeartbeats 4000000 in
theorem zcontradict_any (A1 : Option Addr) (n1 c1 : Nat) (A2 : Option Addr) (n2 c2 : Nat) (A3 : Option Addr) (n3 c3 : Nat) (A4 : Option Addr) (n4 c4 : Nat) (an : List Int) (ls : List (Int × Int)) (fs : List Bool) (ws : List Int) (i k : Nat) (w : World) (h : Lmp w A1 n1 c1 A2 n2 c2 A3 n3 c3 A4 n4 c4 an ls fs ws) (ho : LampOk an ls fs ws) (hi : i < k) (hk : k < n1) :
    Calls Tryz.prog 139 #[.agg #[.slice A1 n1 c1, .slice A2 n2 c2, .slice A3 n3 c3, .slice A4 n4 c4], .int .i64 (i : Nat), .int .i64 (k : Nat)] w fun e w' => e = .returned (.bool (ctrB ls fs i k)) ∧ Below w.heap.size w w' := by
  have hl1 := h.h1.1
  have hl2 := h.h2.1
  have hl3 := h.h3.1
  have hk3 : k ≤ n3 := by have := ho.fsl; omega
  have hk2 : k < n2 := by have := ho.lsl; omega
  have hn10 : n1 ≤ 10 := by have := ho.n10; omega
  have hm3 : n3 ≤ c3 := h.m3.2
  have hctr := ctr_eq (ls := ls) (fs := fs) hi (by omega)
  obtain ⟨b3, o3, rfl, hlt3, ci⟩ := h.h3.at0 (Below.refl _ _) (show i < n3 by omega)
  obtain ⟨b2, o2, x, y, rfl, hget, d0, d1⟩ := h.h2.at_ (Below.refl _ _) (show i < n2 by omega)
  obtain ⟨b2', o2', x2, y2, e, hget2, d2, d3⟩ := h.h2.at_ (Below.refl _ _) hk2
  injection e with e
  injection e with e1 e2
  subst e1 e2
  rw [show ls.getD i (0, 0) = (x, y) by rw [List.getD_eq_getElem?_getD, hget]; rfl, show ls.getD k (0, 0) = (x2, y2) by rw [List.getD_eq_getElem?_getD, hget2]; rfl] at hctr
  have hsub := h.h3.sub (i := i) (k := k) (by omega) hk3
  have kc := fun (W : World) (c : Nat) (v : Bool) (hb : Below w.heap.size w W) => zcontainsB_any (some ⟨b3, o3 + i, none⟩) (k - i) c v _ W (hsub.below hb) (by omega)
  have Hlt2 : Hid (b2 < w.heap.size) := Lib.hid (World.block_lt_of_cell? w _ d0)
  obtain ⟨f, hf⟩ : ∃ f, fs.getD i false = f := ⟨_, rfl⟩
  rw [hf] at ci hctr
  have kc2 := fun (W : World) (c : Nat) hb => kc W c (!f) hb
  generalize ((fs.drop i).take (k - i)).any (fun x => x == !f) = u at *
  generalize ctrB ls fs i k = q at *
  have hq := Lib.hid hctr
  have g1 : (0 : Int) ≤ (i : Int) := by omega
  have g2 : (i : Int) ≤ (k : Int) := by omega
  have g3 : (k : Int) ≤ (c3 : Int) := by omega
  have g4 : (i : Int) < (n3 : Int) := by omega
  have g5 : (i : Int) < (n2 : Int) := by omega
  have g6 : (k : Int) < (n2 : Int) := by omega
  clear kc hctr hsub h ho hget hget2 hf
  go_enter Tryz.func139, Tryz.ntmps139
  have g7 : ¬ c3 = i := by omega
  have g8 : i < c3 := by omega
  have g9 : ¬ c3 - i = 0 := by omega
  go_wp2_with fail
  refine (kc2 _ _ blA).mono ?_
  rintro _ w1 ⟨rfl, hb1⟩
  replace B3 : Cs w1 (w.heap.size) #[.slice A1 n1 c1, .slice (some ⟨b2, o2, none⟩) n2 c2, .slice (some ⟨b3, o3, none⟩) n3 c3, .slice A4 n4 c4] := Cs.keep csA hb1
  replace hbw : Below w.heap.size w w1 := blA
  replace cB3 := B3.c
  replace fB3 := B3.f
  replace lB3 := B3.lt
  clear hb1
  clear kc2
  have e0 := Below.cell' hbw Hlt2.out d0
  have e1 := Below.cell' hbw Hlt2.out d1
  have e2 := Below.cell' hbw Hlt2.out d2
  have e3 := Below.cell' hbw Hlt2.out d3
  clear d0 d1 d2 d3 ci
  cases u with
  | true =>
    obtain rfl : q = false := by rw [hq.out]; rfl
    clear hq
    go_wp2_with fail
    go_ret
    exact ⟨rfl, blA⟩
  | false =>
    cases f with
    | true =>
      have hq2 : Hid (q = decide (y < x2)) := Lib.hid (by rw [hq.out]; rfl)
      clear hq
      go_wp2_with fail
      go_quiet (fail)
      go_wp2_with fail
      go_ret
      exact ⟨ret_bool hq2.out.symm, blA⟩
    | false =>
      have hq2 : Hid (q = decide (y2 < x)) := Lib.hid (by rw [hq.out]; rfl)
      clear hq
      go_wp2_with fail
      go_quiet (fail)
      go_wp2_with fail
      go_ret
      exact ⟨ret_bool hq2.out.symm, blA⟩

end Go.Proofs.YtminplfgadhnnaaGreatDoor
end
