/- BA6 BR7 -/
import Derived.Test.YtminplfgadhnnaaGreatDoorTB06
import Derived.Lib.SliceRun
/- Walks of package bench: Depth. -/
section
namespace Go.Proofs.YtminplfgadhnnaaGreatDoor
open Go.RowKit Go.Shelf
set_option linter.unusedSimpArgs false
set_option linter.unusedVariables false
open Bm (Pr OkP depS depL dStep)

theorem ret_t2 {a b c : Int} (h : a = b) : Ending.returned (.tuple #[.int .i64 a, .int .i64 c]) = .returned (.tuple #[.int .i64 b, .int .i64 c]) := by rw [h]
/-- the last rounds of twelve places -/
def lastL (p : List Pr) : List Int := (List.range 12).map fun i => (((depS p).1 i : Nat) : Int)
theorem lastL_len (p : List Pr) : (lastL p).length = 12 := by simp [lastL]
theorem lastL_get {p : List Pr} {i : Nat} (hi : i < 12) : (lastL p).getD i 0 = (((depS p).1 i : Nat) : Int) := by simp [lastL, List.getD_eq_getElem?_getD, hi]
theorem lastL_snoc {p : List Pr} {x : Pr} (h1 : x.1 < 12) (h2 : x.2 < 12) (h : x.1 < x.2) : lastL (p ++ [x]) = ((lastL p).set x.1 ((max ((depS p).1 x.1) ((depS p).1 x.2) + 1 : Nat) : Int)).set x.2 ((max ((depS p).1 x.1) ((depS p).1 x.2) + 1 : Nat) : Int) := by
  apply List.ext_getElem
  · simp [lastL]
  · intro i hi hi2
    have h12 : i < 12 := by simpa [lastL] using hi
    simp only [lastL, Bm.depS_snoc, dStep, List.getElem_map, List.getElem_range, List.getElem_set]
    by_cases e2 : x.2 = i
    · subst e2; simp
    · rw [if_neg e2]
      by_cases e1 : x.1 = i
      · subst e1; simp
      · rw [if_neg e1, if_neg (by omega)]

theorem bsetCells {B : Nat} {w : World} {g : Nat} (hg : B ≤ g) : ∀ (vs : List Value) (o : Nat) (W : World), Below B w W → Below B w (W.setCells g o vs)
  | [], _, _, h => h
  | v :: r, o, W, h => bsetCells hg r (o + 1) _ (h.setCell (p := ⟨g, o, none⟩) hg v)
theorem size_setCells (g : Nat) : ∀ (vs : List Value) (o : Nat) (W : World), (W.setCells g o vs).heap.size = W.heap.size
  | [], _, _ => rfl
  | v :: r, o, W => (size_setCells g r (o + 1) _).trans (by simp [World.setCell])
/-- twelve noughts are cleared -/
theorem clear_last (W : World) : ∃ W', (∀ ty, (Builtin.clear_ #[121] ty #[.slice (some ⟨W.heap.size, 0, none⟩) 12 12]).run Tryz.prog (W.alloc (.cells #[.int .i64 0, .int .i64 0, .int .i64 0, .int .i64 0, .int .i64 0, .int .i64 0, .int .i64 0, .int .i64 0, .int .i64 0, .int .i64 0, .int .i64 0, .int .i64 0] 170)) = .ok (.tuple #[]) W') ∧ Rx W' W.heap.size (lastL []) ∧ Below W.heap.size W W' := by
  have hc : ∀ j, j < 12 → (W.alloc (.cells #[.int .i64 0, .int .i64 0, .int .i64 0, .int .i64 0, .int .i64 0, .int .i64 0, .int .i64 0, .int .i64 0, .int .i64 0, .int .i64 0, .int .i64 0, .int .i64 0] 170)).cell? ⟨W.heap.size, j, none⟩ = some (.int .i64 0) := fun j hj => by
    rw [cell_of_row _ _ j _ _ (0, 0) (heap_alloc_new W _)]
    match j, hj with
    | 0, _ => rfl
    | 1, _ => rfl
    | 2, _ => rfl
    | 3, _ => rfl
    | 4, _ => rfl
    | 5, _ => rfl
    | 6, _ => rfl
    | 7, _ => rfl
    | 8, _ => rfl
    | 9, _ => rfl
    | 10, _ => rfl
    | 11, _ => rfl
    | j + 12, h => omega
  have hf : ∀ j, (W.alloc (.cells #[.int .i64 0, .int .i64 0, .int .i64 0, .int .i64 0, .int .i64 0, .int .i64 0, .int .i64 0, .int .i64 0, .int .i64 0, .int .i64 0, .int .i64 0, .int .i64 0] 170)).frozen? ⟨W.heap.size, j, none⟩ = false := fun j => frozen_of_row _ _ j _ _ (heap_alloc_new W _)
  refine ⟨(W.alloc (.cells #[.int .i64 0, .int .i64 0, .int .i64 0, .int .i64 0, .int .i64 0, .int .i64 0, .int .i64 0, .int .i64 0, .int .i64 0, .int .i64 0, .int .i64 0, .int .i64 0] 170)).setCells W.heap.size 0 (List.replicate 12 (.int .i64 0)), fun ty => ?_, ⟨by rw [size_setCells]; simp, fun k hk => ?_, fun k => by rw [World.frozen?_setCells]; exact hf k⟩, bsetCells (Nat.le_refl _) _ _ _ (balloc (Below.refl _ _) _)⟩
  · exact Lib.run_clear_slice (P := Tryz.prog) _ 121 3 ty (.int .i64 0) elInt.1 (zero_of_info (n := 1) (by kernel_rfl)).1 rfl rfl W.heap.size 0 12 12 (by omega) (fun j hj => by rw [Nat.zero_add, hc j hj]; rfl) (fun j _ => hf _)
  · rw [lastL_len] at hk
    have := World.cell?_setCells_in W.heap.size (List.replicate 12 (Value.int .i64 0)) 0 (W.alloc (.cells #[.int .i64 0, .int .i64 0, .int .i64 0, .int .i64 0, .int .i64 0, .int .i64 0, .int .i64 0, .int .i64 0, .int .i64 0, .int .i64 0, .int .i64 0, .int .i64 0] 170)) (fun j hj => by
      rw [Nat.zero_add, hc j (by simpa using hj)]; rfl) k (by simpa using hk)
    rw [Nat.zero_add] at this
    rw [this, lastL_get hk, List.getElem_replicate]
    rfl

set_option maxRecDepth 100000 in
set_option maxHeartbeats 8000000 in
theorem depth_ok (A : Option Addr) (n c C : Nat) (p : List Pr) (w : World) (hz : Prs w A c (cst p)) (hc : c ≤ 80) (h2 : 2 ≤ n) (h12 : n ≤ 12) (hp : OkP n p) :
    Calls Tryz.prog 70 #[.int .i64 (n : Nat), .slice A c C] w fun e w' => e = .returned (.tuple #[.int .i64 (depL p : Nat), .int .i64 0]) ∧ Below w.heap.size w w' := by
  have hpl : p.length = c := by have := hz.1; rwa [cst_len] at this
  have k1 := fun (W : World) (hb' : Below w.heap.size w W) => checkP_any (n : Int) A c C (cst p) W (hz.below hb') (by omega)
  rw [chk_of h2 h12 hp (by omega)] at k1
  go_enter Tryz.func70, Tryz.ntmps70
  go_wp2_with fail
  refine (k1 _ blA).mono ?_
  rintro _ w1 ⟨rfl, hb1⟩
  replace hbw : Below w.heap.size w w1 := blA
  clear hb1
  clear k1
  have h1w := hbw.size
  obtain ⟨W0, hcl, hR0, hb0⟩ := clear_last w1
  replace hbw : Below w.heap.size w W0 := bstep hbw hb0
  have hsw := hbw.size
  have HR0 := Lib.hid hR0
  clear hR0 hb0
  have Hpl := Lib.hid hpl
  have Hp := Lib.hid hp
  have Hz := Lib.hid hz
  clear hpl hp hz
  go_wp2_with fail
  clear hcl
  go_loopw [8, 21] (fun s8 s21 wx => ∃ (k dd : Nat) (W : World), k ≤ c ∧ s21 = .int .i64 (k : Nat) ∧ s8 = .int .i64 (dd : Nat) ∧ Hid (W = wx) ∧ Hid (Rx W w1.heap.size (lastL (p.take k))) ∧ Hid (dd = depL (p.take k)) ∧ Below w.heap.size w W) (fun _ s21 _ => c - (intOf s21).toNat)
  case atStart => exact ⟨0, 0, _, Nat.zero_le _, rfl, rfl, Lib.hid rfl, HR0, Lib.hid rfl, hbw⟩
  case round =>
    clear HR0 hbw hsw
    obtain ⟨k, dd, W, hk, rfl, rfl, HW, HR, HD, hbw⟩ := hrel
    obtain rfl := HW.out
    clear HW
    by_cases hkm : k < c
    · obtain ⟨b, off, x, y, rfl, hget, c0, c1⟩ := Hz.out.at_ hbw hkm
      obtain ⟨a', b', hp', rfl, rfl⟩ := cst_get hget
      obtain ⟨hab, hbn⟩ := Hp.out _ (List.mem_of_getElem? hp')
      dsimp only at hab hbn
      have d0 := HR.out.cell (k := a') (by rw [lastL_len]; omega)
      have d1 := HR.out.cell (k := b') (by rw [lastL_len]; omega)
      rw [lastL_get (by omega)] at d0 d1
      have fr := HR.out.frozen
      have lr := HR.out.lt
      have hle := Bm.depS_le (p.take k)
      have hva := hle.1 a'
      have hvb := hle.1 b'
      have hdb := hle.2
      have hlk : (p.take k).length ≤ 80 := by rw [List.length_take, Hpl.out]; omega
      have HL : Hid (lastL (p.take (k + 1)) = ((lastL (p.take k)).set a' ((max ((depS (p.take k)).1 a') ((depS (p.take k)).1 b') + 1 : Nat) : Int)).set b' ((max ((depS (p.take k)).1 a') ((depS (p.take k)).1 b') + 1 : Nat) : Int)) := Lib.hid (by
        rw [← take_get hp']; exact lastL_snoc (x := (a', b')) (by dsimp only; omega) (by dsimp only; omega) hab)
      have HD2 : Hid (depL (p.take (k + 1)) = max dd (max ((depS (p.take k)).1 a') ((depS (p.take k)).1 b') + 1)) := Lib.hid (by
        rw [← take_get hp', HD.out, depL, Bm.depS_snoc]; rfl)
      rw [show (depS (p.take k)).2 = dd from HD.out.symm] at hdb
      clear hget hp' hle HD
      generalize (depS (p.take k)).1 a' = va at *
      generalize (depS (p.take k)).1 b' = vb at *
      generalize (p.take k).length = L at *
      by_cases hlt : va < vb
      · rw [show max va vb + 1 = vb + 1 by omega] at HL HD2
        by_cases hd : dd < vb + 1
        · have HD : Hid (vb + 1 = depL (p.take (k + 1))) := Lib.hid (by rw [HD2.out]; omega)
          clear HD2
          go_wp2_with fail
          go_region
          go_wp2_with fail
          go_region
          go_wp2_with fail
          go_roundw
          case rel =>
            refine ⟨k + 1, vb + 1, _, by omega, by go_num, by first | rfl | go_num, Lib.hid rfl, Lib.hid ?_, HD, ?_⟩
            · rw [HL.out]
              exact ((((HR.out.set _ _).set _ _).alloc _).drew).drew
            · exact (balloc (bset (bset hbw (p := ⟨w1.heap.size, a', none⟩) h1w _) (p := ⟨w1.heap.size, b', none⟩) h1w _) _).drew.drew
          case measure => simp [intOf]; omega
        · have HD : Hid (dd = depL (p.take (k + 1))) := Lib.hid (by rw [HD2.out]; omega)
          clear HD2
          go_wp2_with fail
          go_region
          go_wp2_with fail
          go_region
          go_wp2_with fail
          go_roundw
          case rel =>
            refine ⟨k + 1, dd, _, by omega, by go_num, by first | rfl | go_num, Lib.hid rfl, Lib.hid ?_, HD, ?_⟩
            · rw [HL.out]
              exact ((((HR.out.set _ _).set _ _).alloc _).drew).drew
            · exact (balloc (bset (bset hbw (p := ⟨w1.heap.size, a', none⟩) h1w _) (p := ⟨w1.heap.size, b', none⟩) h1w _) _).drew.drew
          case measure => simp [intOf]; omega
      · rw [show max va vb + 1 = va + 1 by omega] at HL HD2
        by_cases hd : dd < va + 1
        · have HD : Hid (va + 1 = depL (p.take (k + 1))) := Lib.hid (by rw [HD2.out]; omega)
          clear HD2
          go_wp2_with fail
          go_region
          go_wp2_with fail
          go_region
          go_wp2_with fail
          go_roundw
          case rel =>
            refine ⟨k + 1, va + 1, _, by omega, by go_num, by first | rfl | go_num, Lib.hid rfl, Lib.hid ?_, HD, ?_⟩
            · rw [HL.out]
              exact ((((HR.out.set _ _).set _ _).alloc _).drew).drew
            · exact (balloc (bset (bset hbw (p := ⟨w1.heap.size, a', none⟩) h1w _) (p := ⟨w1.heap.size, b', none⟩) h1w _) _).drew.drew
          case measure => simp [intOf]; omega
        · have HD : Hid (dd = depL (p.take (k + 1))) := Lib.hid (by rw [HD2.out]; omega)
          clear HD2
          go_wp2_with fail
          go_region
          go_wp2_with fail
          go_region
          go_wp2_with fail
          go_roundw
          case rel =>
            refine ⟨k + 1, dd, _, by omega, by go_num, by first | rfl | go_num, Lib.hid rfl, Lib.hid ?_, HD, ?_⟩
            · rw [HL.out]
              exact ((((HR.out.set _ _).set _ _).alloc _).drew).drew
            · exact (balloc (bset (bset hbw (p := ⟨w1.heap.size, a', none⟩) h1w _) (p := ⟨w1.heap.size, b', none⟩) h1w _) _).drew.drew
          case measure => simp [intOf]; omega
    · obtain rfl : k = c := by omega
      have HD1 : Hid (dd = depL p) := Lib.hid (by rw [HD.out, List.take_of_length_le (by rw [Hpl.out]; exact Nat.le_refl _)])
      clear HR HD
      go_wp2_with fail
      go_ret2
      exact ⟨ret_t2 (by rw [HD1.out]), hbw⟩

/-- the depth of a programme, or the error -/
def depE (l : Int) (zs : List (Int × Int)) : Int × Int := if chkP l zs ≠ 0 then (0, chkP l zs) else (((depL (natP zs) : Nat) : Int), 0)

set_option maxHeartbeats 4000000 in
theorem depth_any (l : Int) (A : Option Addr) (c C : Nat) (zs : List (Int × Int)) (w : World) (hz : Prs w A c zs) (hc : c ≤ 9223372036854775807) :
    Calls Tryz.prog 70 #[.int .i64 l, .slice A c C] w fun e w' => e = .returned (.tuple #[.int .i64 (depE l zs).1, .int .i64 (depE l zs).2]) ∧ Below w.heap.size w w' := by
  have k1 := fun (W : World) (hb' : Below w.heap.size w W) => checkP_any l A c C zs W (hz.below hb') hc
  by_cases h0 : chkP l zs = 0
  · obtain ⟨n, p, rfl, h2, h12, rfl, hp, hl⟩ := chk_ok h0
    have e : depE n (cst p) = (((depL p : Nat) : Int), 0) := by unfold depE; rw [if_neg (by simpa using h0), natP_cst]
    rw [e]
    exact depth_ok A n c C p w hz (by have := hz.1; rw [cst_len] at this; omega) h2 h12 hp
  · have e : depE l zs = (0, chkP l zs) := by unfold depE; rw [if_pos h0]
    rw [e]
    generalize chkP l zs = q at *
    have x1 : (q != 0) = true := by simpa using h0
    have x2 : (q == 0) = false := by simpa using h0
    clear e hz
    go_enter Tryz.func70, Tryz.ntmps70
    go_wp2_with fail
    refine (k1 _ blA).mono ?_
    rintro _ w1 ⟨rfl, hb1⟩
    replace hbw : Below w.heap.size w w1 := blA
    clear hb1
    clear k1
    go_wp2_with fail
    go_ret2
    exact ⟨rfl, blA⟩

end Go.Proofs.YtminplfgadhnnaaGreatDoor
end

/- Walks of the reference of layer 2: Depth. -/
section
namespace Go.Proofs.YtminplfgadhnnaaGreatDoor
open Go.RowKit Go.Shelf
set_option linter.unusedSimpArgs false
set_option linter.unusedVariables false
open Bm (Pr OkP depS depL rndL rin shr)

theorem rndL_len (p : List Pr) : (rndL p).length = p.length := by simp [rndL]
theorem rnd_take {p : List Pr} {k : Nat} (hk : k < p.length) : (rndL p).take (k + 1) = (rndL p).take k ++ [(rndL p).getD k 0] := by
  have h : k < (rndL p).length := by rw [rndL_len]; exact hk
  rw [List.take_add_one, List.getElem?_eq_getElem h, List.getD_eq_getElem?_getD, List.getElem?_eq_getElem h]; rfl
theorem getD_of {α : Type} {p : List α} {k : Nat} {x d : α} (h : p[k]? = some x) : p.getD k d = x := by rw [List.getD_eq_getElem?_getD, h]; rfl
theorem rnd_bd {p : List Pr} {k : Nat} (hk : k < p.length) : 1 ≤ (rndL p).getD k 0 ∧ (rndL p).getD k 0 ≤ p.length + 1 := by
  rw [Bm.rnd_get hk]
  have h1 := (Bm.depS_le (p.take k)).1 (p.getD k (0, 0)).1
  have h2 := (Bm.depS_le (p.take k)).1 (p.getD k (0, 0)).2
  have h3 : (p.take k).length ≤ p.length := by rw [List.length_take]; omega
  omega
theorem rin_bd {p : List Pr} {x : Pr} : ∀ k, k ≤ p.length → rin p x k ≤ p.length + 2
  | 0, _ => by simp [rin]
  | k + 1, h => by
    have ih := rin_bd (p := p) (x := x) k (by omega)
    have := (rnd_bd (p := p) (k := k) (by omega)).2
    rw [rin]; split <;> omega

end Go.Proofs.YtminplfgadhnnaaGreatDoor
end
