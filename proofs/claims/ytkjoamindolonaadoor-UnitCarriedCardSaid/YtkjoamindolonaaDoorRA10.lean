/- The walk of the reference's Follow. -/
import Derived.Test.YtkjoamindolonaaDoorUMath4
import Derived.Test.YtkjoamindolonaaDoorUA17
import Derived.Deep.DeepCutAuto
namespace Go.Proofs.YtkjoamindolonaaDoor
open Go.RowKit Go.Shelf
set_option linter.unusedSimpArgs false
set_option linter.unusedVariables false
open Um (ev pathB placeOk canon fits)

set_option maxHeartbeats 1000000 in
theorem rfollow_many (A : Option Addr) (len cap : Nat) (w : World) (h : len = 0 ∨ 64 < len) (hL : len ≤ 9223372036854775807) :
    Calls Tryd.prog 29 #[.slice A len cap] w fun e w' => e = RetFE ((0, 0), 6) ∧ Below w.heap.size w w' := by
  unfold RetFE
  rcases h with rfl | h
  · go_enter Tryd.func29, Tryd.ntmps29
    go_wp2_with fail
    exact bodyPost_ret (v := .tuple #[.agg #[.int .i64 0, .int .i64 0], .int .i64 6]) (by simp [results, Tryd.results29, go_sem]) rfl ⟨rfl, (by repeat (first | with_reducible exact Below.refl _ _ | with_reducible assumption | with_reducible refine balloc ?_ _ | with_reducible refine bdrewN ?_ _ | with_reducible refine Below.drew ?_ | (with_reducible refine bset ?_ ?_ _; rotate_left; focus (first | assumption | omega | (simp; done) | (simp; omega))) | with_reducible refine bstep ?_ (by assumption) | assumption))⟩
  · have h1 : (64 : Int) < (len : Int) := by omega
    have h2 : ¬ (len : Int) < 1 := by omega
    have h3 : decide ((len : Int) < 1) = false := by simpa using h2
    clear h h2
    go_enter Tryd.func29, Tryd.ntmps29
    go_wp2_with fail
    exact bodyPost_ret (v := .tuple #[.agg #[.int .i64 0, .int .i64 0], .int .i64 6]) (by simp [results, Tryd.results29, go_sem]) rfl ⟨rfl, (by repeat (first | with_reducible exact Below.refl _ _ | with_reducible assumption | with_reducible refine balloc ?_ _ | with_reducible refine bdrewN ?_ _ | with_reducible refine Below.drew ?_ | (with_reducible refine bset ?_ ?_ _; rotate_left; focus (first | assumption | omega | (simp; done) | (simp; omega))) | with_reducible refine bstep ?_ (by assumption) | assumption))⟩

theorem Ints.at_ {w wr : World} {A : Option Addr} {n k : Nat} {zs : List Int} (h : Ints w A n zs) (hb : Below w.heap.size w wr) (hk : k < n) :
    ∃ b off, A = some ⟨b, off, none⟩ ∧ b < w.heap.size ∧ wr.cell? ⟨b, off + k, none⟩ = some (.int .i64 (zs.getD k 0)) := by
  obtain ⟨b, off, rfl, hlt, hc⟩ := h.2 (by omega)
  exact ⟨b, off, rfl, hlt, (hb.cell (p := ⟨b, off + k, none⟩) hlt).trans (hc k hk)⟩

set_option maxHeartbeats 2000000 in
theorem rfollow_arg (A : Option Addr) (L cap : Nat) (zs : List Int) (w : World) (hz : Ints w A (L + 1) zs) (h1 : 0 < L) (h2 : L < 64) (hp : pathB zs = false) :
    Calls Tryd.prog 29 #[.slice A (L + 1) cap] w fun e w' => e = RetFE ((0, 0), 2) ∧ Below w.heap.size w w' := by
  have Hpl := Lib.hid (Um.pathB_place zs L hz.1)
  have Hp := Lib.hid hp
  have Hz := Lib.hid hz
  clear hz hp
  unfold RetFE
  go_enter Tryd.func29, Tryd.ntmps29
  go_wp2_with fail
  go_loopw [5] (fun iv wr => ∃ k : Nat, k ≤ L + 1 ∧ iv = .int .i64 k ∧ Hid (∀ j, j < k → placeOk L j (zs.getD j 0)) ∧ Cs wr w.heap.size #[.int .i64 0, .int .i64 0] ∧ Below w.heap.size w wr) (fun iv _ => L + 1 - (intOf iv).toNat)
  case atStart => exact ⟨0, by omega, rfl, Lib.hid (fun j hj => absurd hj (by omega)), (by repeat (first | with_reducible assumption | (with_reducible refine Cs.new _ _ _ _ ?_; first | rfl | (simp; done)) | with_reducible refine Cs.alloc ?_ _ | with_reducible refine Cs.drewN ?_ _ | with_reducible refine Cs.drew ?_ | with_reducible refine Cs.set4 ?_ _ _ _ _ | (with_reducible refine Cs.other4 ?_ ?_ _ _ _ _; rotate_left; focus (first | assumption | omega | (simp; done) | (simp; omega))) | with_reducible refine Cs.set2 ?_ _ _ | (with_reducible refine Cs.other2 ?_ ?_ _ _; rotate_left; focus (first | assumption | omega | (simp; done) | (simp; omega))) | (with_reducible refine Cs.other ?_ ?_ _; rotate_left; focus (first | assumption | omega | (simp; done) | (simp; omega))) | with_reducible refine Cs.keep ?_ (by assumption) | assumption)), (by repeat (first | with_reducible exact Below.refl _ _ | with_reducible assumption | with_reducible refine balloc ?_ _ | with_reducible refine bdrewN ?_ _ | with_reducible refine Below.drew ?_ | (with_reducible refine bset ?_ ?_ _; rotate_left; focus (first | assumption | omega | (simp; done) | (simp; omega))) | with_reducible refine bstep ?_ (by assumption) | assumption))⟩
  case round =>
    obtain ⟨k, hk, rfl, Hk, B0, hbw⟩ := hrel
    by_cases hlt : k < L + 1
    · obtain ⟨b', off, rfl, hb', hx⟩ := Hz.out.at_ hbw hlt
      have Hx : Hid (placeOk L k (zs.getD k 0) → ∀ j, j < k + 1 → placeOk L j (zs.getD j 0)) := Lib.hid (fun h j hj => by
        by_cases e : j = k
        · rw [e]; exact h
        · exact Hk.out j (by omega))
      generalize zs.getD k 0 = x at *
      have cB0 := B0.c
      have fB0 := B0.f
      have lB0 := B0.lt
      have hc : (k = L ∧ 0 < L) ∨ k < L := by omega
      rcases hc with ⟨rfl, hpos⟩ | hkL
      · have hL0 : ¬ k = 0 := by omega
        go_wp2_with fail
        all_goals first
          | (go_roundw
             case rel => exact ⟨k + 1, by omega, by go_num, Lib.hid (Hx.out ⟨by omega, fun _ => by omega, fun _ _ => by omega, fun _ => by omega⟩), B0, hbw⟩
             case measure => simp [intOf])
          | exact bodyPost_ret (v := .tuple #[.agg #[.int .i64 0, .int .i64 0], .int .i64 2]) (by simp [results, Tryd.results29, go_sem, cB0, fB0, lB0]) rfl ⟨rfl, (by repeat (first | with_reducible exact Below.refl _ _ | with_reducible assumption | with_reducible refine balloc ?_ _ | with_reducible refine bdrewN ?_ _ | with_reducible refine Below.drew ?_ | (with_reducible refine bset ?_ ?_ _; rotate_left; focus (first | assumption | omega | (simp; done) | (simp; omega))) | with_reducible refine bstep ?_ (by assumption) | assumption))⟩
      · have hne : ¬ (k : Int) = (L : Int) := by omega
        have hL0 : ¬ L = 0 := by omega
        go_wp2_with fail
        all_goals first
          | (go_roundw
             case rel => exact ⟨k + 1, by omega, by go_num, Lib.hid (Hx.out ⟨by omega, fun _ => by omega, fun _ _ => by omega, fun _ => by omega⟩), B0, hbw⟩
             case measure => simp [intOf]; omega)
          | exact bodyPost_ret (v := .tuple #[.agg #[.int .i64 0, .int .i64 0], .int .i64 2]) (by simp [results, Tryd.results29, go_sem, cB0, fB0, lB0]) rfl ⟨rfl, (by repeat (first | with_reducible exact Below.refl _ _ | with_reducible assumption | with_reducible refine balloc ?_ _ | with_reducible refine bdrewN ?_ _ | with_reducible refine Below.drew ?_ | (with_reducible refine bset ?_ ?_ _; rotate_left; focus (first | assumption | omega | (simp; done) | (simp; omega))) | with_reducible refine bstep ?_ (by assumption) | assumption))⟩
    · exfalso
      have := (Hpl.out).2 (fun i hi => Hk.out i (by omega))
      rw [Hp.out] at this
      exact absurd this (by decide)

set_option maxHeartbeats 2000000 in
theorem rfollow_one (A : Option Addr) (cap : Nat) (x : Int) (w : World) (hz : Ints w A 1 [x]) :
    Calls Tryd.prog 29 #[.slice A 1 cap] w fun e w' => e = RetFE (if x < 1 then ((0, 0), 2) else if x ≤ 1000000000 then ((x, 1), 0) else ((0, 0), 4)) ∧ Below w.heap.size w w' := by
  generalize hr : (if x < 1 then (((0 : Int), (0 : Int)), (2 : Int)) else if x ≤ 1000000000 then ((x, 1), 0) else ((0, 0), 4)) = r
  have Hr := Lib.hid hr
  have Hz := Lib.hid hz
  clear hz hr
  unfold RetFE
  go_enter Tryd.func29, Tryd.ntmps29
  go_wp2_with fail
  go_loopw [5] (fun iv wr => ((iv = .int .i64 0) ∨ (iv = .int .i64 1 ∧ 1 ≤ x)) ∧ Cs wr w.heap.size #[.int .i64 0, .int .i64 0] ∧ Below w.heap.size w wr) (fun iv _ => 1 - (intOf iv).toNat)
  case atStart => exact ⟨Or.inl rfl, (by repeat (first | with_reducible assumption | (with_reducible refine Cs.new _ _ _ _ ?_; first | rfl | (simp; done)) | with_reducible refine Cs.alloc ?_ _ | with_reducible refine Cs.drewN ?_ _ | with_reducible refine Cs.drew ?_ | with_reducible refine Cs.set4 ?_ _ _ _ _ | (with_reducible refine Cs.other4 ?_ ?_ _ _ _ _; rotate_left; focus (first | assumption | omega | (simp; done) | (simp; omega))) | with_reducible refine Cs.set2 ?_ _ _ | (with_reducible refine Cs.other2 ?_ ?_ _ _; rotate_left; focus (first | assumption | omega | (simp; done) | (simp; omega))) | (with_reducible refine Cs.other ?_ ?_ _; rotate_left; focus (first | assumption | omega | (simp; done) | (simp; omega))) | with_reducible refine Cs.keep ?_ (by assumption) | assumption)), (by repeat (first | with_reducible exact Below.refl _ _ | with_reducible assumption | with_reducible refine balloc ?_ _ | with_reducible refine bdrewN ?_ _ | with_reducible refine Below.drew ?_ | (with_reducible refine bset ?_ ?_ _; rotate_left; focus (first | assumption | omega | (simp; done) | (simp; omega))) | with_reducible refine bstep ?_ (by assumption) | assumption))⟩
  case round =>
    obtain ⟨hi, B0, hbw⟩ := hrel
    obtain ⟨b', off, rfl, hb', hx⟩ := Hz.out.at_ hbw (show 0 < 1 by omega)
    have hx0 : wr.cell? ⟨b', off, none⟩ = some (.int .i64 x) := hx
    clear hx
    have cB0 := B0.c
    have fB0 := B0.f
    have lB0 := B0.lt
    rcases hi with rfl | ⟨rfl, h1⟩
    · by_cases hx1 : x < 1
      · obtain rfl := Hr.out.symm.trans (if_pos hx1)
        clear Hr
        go_wp2_with fail
        all_goals exact bodyPost_ret (v := .tuple #[.agg #[.int .i64 0, .int .i64 0], .int .i64 2]) (by simp [results, Tryd.results29, go_sem, cB0, fB0, lB0]) rfl ⟨rfl, (by repeat (first | with_reducible exact Below.refl _ _ | with_reducible assumption | with_reducible refine balloc ?_ _ | with_reducible refine bdrewN ?_ _ | with_reducible refine Below.drew ?_ | (with_reducible refine bset ?_ ?_ _; rotate_left; focus (first | assumption | omega | (simp; done) | (simp; omega))) | with_reducible refine bstep ?_ (by assumption) | assumption))⟩
      · have hx2 : 1 ≤ x := by omega
        have hx3 : 0 ≤ x := by omega
        clear hx1
        go_wp2_with fail
        go_roundw
        case rel => exact ⟨Or.inr ⟨rfl, hx2⟩, B0, hbw⟩
        case measure => simp [intOf]
    · by_cases hx1 : x ≤ 1000000000
      · obtain rfl := Hr.out.symm.trans ((if_neg (by omega)).trans (if_pos hx1))
        clear Hr
        go_wp2_with fail
        have B1 : Cs wr w.heap.size #[.int .i64 0, .int .i64 0] := B0
        clear cB0 fB0 lB0
        go_loopw [7] (fun iv wr2 => iv = .int .i64 (-1) ∧ Cs wr2 w.heap.size #[.int .i64 0, .int .i64 0] ∧ Cs wr2 wr.heap.size #[.int .i64 x, .int .i64 1] ∧ Below w.heap.size w wr2) (fun _ _ => 0)
        case atStart => exact ⟨rfl, (by repeat (first | with_reducible assumption | (with_reducible refine Cs.new _ _ _ _ ?_; first | rfl | (simp; done)) | with_reducible refine Cs.alloc ?_ _ | with_reducible refine Cs.drewN ?_ _ | with_reducible refine Cs.drew ?_ | with_reducible refine Cs.set4 ?_ _ _ _ _ | (with_reducible refine Cs.other4 ?_ ?_ _ _ _ _; rotate_left; focus (first | assumption | omega | (simp; done) | (simp; omega))) | with_reducible refine Cs.set2 ?_ _ _ | (with_reducible refine Cs.other2 ?_ ?_ _ _; rotate_left; focus (first | assumption | omega | (simp; done) | (simp; omega))) | (with_reducible refine Cs.other ?_ ?_ _; rotate_left; focus (first | assumption | omega | (simp; done) | (simp; omega))) | with_reducible refine Cs.keep ?_ (by assumption) | assumption)), (by repeat (first | with_reducible assumption | (with_reducible refine Cs.new _ _ _ _ ?_; first | rfl | (simp; done)) | with_reducible refine Cs.alloc ?_ _ | with_reducible refine Cs.drewN ?_ _ | with_reducible refine Cs.drew ?_ | with_reducible refine Cs.set4 ?_ _ _ _ _ | (with_reducible refine Cs.other4 ?_ ?_ _ _ _ _; rotate_left; focus (first | assumption | omega | (simp; done) | (simp; omega))) | with_reducible refine Cs.set2 ?_ _ _ | (with_reducible refine Cs.other2 ?_ ?_ _ _; rotate_left; focus (first | assumption | omega | (simp; done) | (simp; omega))) | (with_reducible refine Cs.other ?_ ?_ _; rotate_left; focus (first | assumption | omega | (simp; done) | (simp; omega))) | with_reducible refine Cs.keep ?_ (by assumption) | assumption)), (by repeat (first | with_reducible exact Below.refl _ _ | with_reducible assumption | with_reducible refine balloc ?_ _ | with_reducible refine bdrewN ?_ _ | with_reducible refine Below.drew ?_ | (with_reducible refine bset ?_ ?_ _; rotate_left; focus (first | assumption | omega | (simp; done) | (simp; omega))) | with_reducible refine bstep ?_ (by assumption) | assumption))⟩
        case round =>
          obtain ⟨rfl, C0, C1, hbw2⟩ := hrel
          have cC0 := C0.c
          have fC0 := C0.f
          have lC0 := C0.lt
          have cC1 := C1.c
          have fC1 := C1.f
          have lC1 := C1.lt
          go_wp2_with fail
          exact bodyPost_ret (v := .tuple #[.agg #[.int .i64 x, .int .i64 1], .int .i64 0]) (by simp [results, Tryd.results29, go_sem, cC0, fC0, lC0]) rfl ⟨rfl, (by repeat (first | with_reducible exact Below.refl _ _ | with_reducible assumption | with_reducible refine balloc ?_ _ | with_reducible refine bdrewN ?_ _ | with_reducible refine Below.drew ?_ | (with_reducible refine bset ?_ ?_ _; rotate_left; focus (first | assumption | omega | (simp; done) | (simp; omega))) | with_reducible refine bstep ?_ (by assumption) | assumption))⟩
      · obtain rfl := Hr.out.symm.trans ((if_neg (by omega)).trans (if_neg hx1))
        clear Hr
        go_wp2_with fail
        all_goals exact bodyPost_ret (v := .tuple #[.agg #[.int .i64 0, .int .i64 0], .int .i64 4]) (by simp [results, Tryd.results29, go_sem, cB0, fB0, lB0]) rfl ⟨rfl, (by repeat (first | with_reducible exact Below.refl _ _ | with_reducible assumption | with_reducible refine balloc ?_ _ | with_reducible refine bdrewN ?_ _ | with_reducible refine Below.drew ?_ | (with_reducible refine bset ?_ ?_ _; rotate_left; focus (first | assumption | omega | (simp; done) | (simp; omega))) | with_reducible refine bstep ?_ (by assumption) | assumption))⟩

set_option maxHeartbeats 4000000 in
theorem rfollow_any (A : Option Addr) (L cap : Nat) (zs : List Int) (w : World) (hz : Ints w A (L + 1) zs) (h1 : 0 < L) (h2 : L < 64) (hp : pathB zs = true) :
    Calls Tryd.prog 29 #[.slice A (L + 1) cap] w fun e w' => e = RetFE (if (Um.ev zs).1 ≤ 1000000000 ∧ (Um.ev zs).2 ≤ 1000000000 then (Um.ev zs, 0) else ((0, 0), 4)) ∧ Below w.heap.size w w' := by
  have Hpl := Lib.hid ((Um.pathB_place zs L hz.1).1 hp)
  have Hc := Lib.hid ((Um.pathB_iff zs).1 hp)
  have Hz := Lib.hid hz
  have Hl := Lib.hid hz.1
  have Hno : Hid (¬ fits zs → (if (Um.ev zs).1 ≤ 1000000000 ∧ (Um.ev zs).2 ≤ 1000000000 then (Um.ev zs, (0 : Int)) else ((0, 0), 4)) = ((0, 0), 4)) := Lib.hid (fun h => if_neg h)
  have Hyes : Hid (fits zs → (if (Um.ev zs).1 ≤ 1000000000 ∧ (Um.ev zs).2 ≤ 1000000000 then (Um.ev zs, (0 : Int)) else ((0, 0), 4)) = (ev zs, 0)) := Lib.hid (fun h => if_pos h)
  generalize (if (Um.ev zs).1 ≤ 1000000000 ∧ (Um.ev zs).2 ≤ 1000000000 then (Um.ev zs, (0 : Int)) else ((0, 0), 4)) = res at *
  clear hz hp
  unfold RetFE
  go_enter Tryd.func29, Tryd.ntmps29
  go_wp2_with fail
  go_loopw [5] (fun iv wr => ∃ k : Nat, k ≤ L + 1 ∧ iv = .int .i64 k ∧ Cs wr w.heap.size #[.int .i64 0, .int .i64 0] ∧ Below w.heap.size w wr) (fun iv _ => L + 1 - (intOf iv).toNat)
  case atStart => exact ⟨0, by omega, rfl, (by repeat (first | with_reducible assumption | (with_reducible refine Cs.new _ _ _ _ ?_; first | rfl | (simp; done)) | with_reducible refine Cs.alloc ?_ _ | with_reducible refine Cs.drewN ?_ _ | with_reducible refine Cs.drew ?_ | with_reducible refine Cs.set4 ?_ _ _ _ _ | (with_reducible refine Cs.other4 ?_ ?_ _ _ _ _; rotate_left; focus (first | assumption | omega | (simp; done) | (simp; omega))) | with_reducible refine Cs.set2 ?_ _ _ | (with_reducible refine Cs.other2 ?_ ?_ _ _; rotate_left; focus (first | assumption | omega | (simp; done) | (simp; omega))) | (with_reducible refine Cs.other ?_ ?_ _; rotate_left; focus (first | assumption | omega | (simp; done) | (simp; omega))) | with_reducible refine Cs.keep ?_ (by assumption) | assumption)), (by repeat (first | with_reducible exact Below.refl _ _ | with_reducible assumption | with_reducible refine balloc ?_ _ | with_reducible refine bdrewN ?_ _ | with_reducible refine Below.drew ?_ | (with_reducible refine bset ?_ ?_ _; rotate_left; focus (first | assumption | omega | (simp; done) | (simp; omega))) | with_reducible refine bstep ?_ (by assumption) | assumption))⟩
  case round =>
    obtain ⟨k, hk, rfl, B0, hbw⟩ := hrel
    by_cases hlt : k < L + 1
    · obtain ⟨b', off, rfl, hb', hx⟩ := Hz.out.at_ hbw hlt
      obtain ⟨p1, p2, p3, p4⟩ := Hpl.out k hlt
      generalize zs.getD k 0 = x at *
      have hc : k = L ∨ (0 < k ∧ k < L) ∨ (k < L ∧ ¬ 0 < k) := by omega
      rcases hc with rfl | ⟨hk0, hkL⟩ | ⟨hkL, hk0⟩
      · have q3 := p3 (by omega) rfl
        clear p1 p2 p3 p4
        go_wp2_with fail
        go_roundw
        case rel => exact ⟨k + 1, by omega, by go_num, B0, hbw⟩
        case measure => simp [intOf]
      · have q2 := p2 hk0
        have hne : ¬ (k : Int) = (L : Int) := by omega
        have hL0 : ¬ L = 0 := by omega
        clear p1 p2 p3 p4
        go_wp2_with fail
        go_roundw
        case rel => exact ⟨k + 1, by omega, by go_num, B0, hbw⟩
        case measure => simp [intOf]; omega
      · have hL0 : ¬ L = 0 := by omega
        clear p2 p3 p4
        go_wp2_with fail
        go_roundw
        case rel => exact ⟨k + 1, by omega, by go_num, B0, hbw⟩
        case measure => simp [intOf]; omega
    · obtain rfl : k = L + 1 := by omega
      have ek0 : ((L + 1 : Nat) : Int) = (L : Int) + 1 := by omega
      rw [ek0]
      clear ek0
      obtain ⟨wo, rfl⟩ : ∃ wo : World, wo = wr := ⟨_, rfl⟩
      obtain ⟨b', off, rfl, hb', hx⟩ := Hz.out.at_ hbw (show L < L + 1 by omega)
      have hL0 : ¬ L = 0 := by omega
      have Hover := Lib.hid (fun h => Um.over_num zs Hc.out L (by have := Hl.out; omega) h)
      have Hev : Hid (ev (zs.drop L) = (zs.getD L 0, 1)) := Lib.hid (by
        rw [Um.drop_ev zs L (by have := Hl.out; omega), List.drop_eq_nil_of_le (by have := Hl.out; omega)]
        simp [ev])
      obtain ⟨p1, p2, p3, p4⟩ := Hpl.out L (by omega)
      have q3 := p3 h1 rfl
      clear p1 p2 p3 p4
      generalize zs.getD L 0 = x at *
      have cB0 := B0.c
      have fB0 := B0.f
      have lB0 := B0.lt
      by_cases hx1 : x ≤ 1000000000
      case neg =>
        obtain rfl := Hno.out (Hover.out (by omega))
        clear Hno Hyes
        have hx2 : 1000000000 < x := by omega
        go_wp2_with fail
        exact bodyPost_ret (v := .tuple #[.agg #[.int .i64 0, .int .i64 0], .int .i64 4]) (by simp [results, Tryd.results29, go_sem, cB0, fB0, lB0]) rfl ⟨rfl, (by repeat (first | with_reducible exact Below.refl _ _ | with_reducible assumption | with_reducible refine balloc ?_ _ | with_reducible refine bdrewN ?_ _ | with_reducible refine Below.drew ?_ | (with_reducible refine bset ?_ ?_ _; rotate_left; focus (first | assumption | omega | (simp; done) | (simp; omega))) | with_reducible refine bstep ?_ (by assumption) | assumption))⟩
      case pos =>
      go_wp2_with fail
      have B1 : Cs (wo.alloc (.cells #[.int .i64 x, .int .i64 1] 23)) w.heap.size #[.int .i64 0, .int .i64 0] := (by repeat (first | with_reducible assumption | (with_reducible refine Cs.new _ _ _ _ ?_; first | rfl | (simp; done)) | with_reducible refine Cs.alloc ?_ _ | with_reducible refine Cs.drewN ?_ _ | with_reducible refine Cs.drew ?_ | with_reducible refine Cs.set4 ?_ _ _ _ _ | (with_reducible refine Cs.other4 ?_ ?_ _ _ _ _; rotate_left; focus (first | assumption | omega | (simp; done) | (simp; omega))) | with_reducible refine Cs.set2 ?_ _ _ | (with_reducible refine Cs.other2 ?_ ?_ _ _; rotate_left; focus (first | assumption | omega | (simp; done) | (simp; omega))) | (with_reducible refine Cs.other ?_ ?_ _; rotate_left; focus (first | assumption | omega | (simp; done) | (simp; omega))) | with_reducible refine Cs.keep ?_ (by assumption) | assumption))
      have B2 : Cs (wo.alloc (.cells #[.int .i64 x, .int .i64 1] 23)) wo.heap.size #[.int .i64 x, .int .i64 1] := (by repeat (first | with_reducible assumption | (with_reducible refine Cs.new _ _ _ _ ?_; first | rfl | (simp; done)) | with_reducible refine Cs.alloc ?_ _ | with_reducible refine Cs.drewN ?_ _ | with_reducible refine Cs.drew ?_ | with_reducible refine Cs.set4 ?_ _ _ _ _ | (with_reducible refine Cs.other4 ?_ ?_ _ _ _ _; rotate_left; focus (first | assumption | omega | (simp; done) | (simp; omega))) | with_reducible refine Cs.set2 ?_ _ _ | (with_reducible refine Cs.other2 ?_ ?_ _ _; rotate_left; focus (first | assumption | omega | (simp; done) | (simp; omega))) | (with_reducible refine Cs.other ?_ ?_ _; rotate_left; focus (first | assumption | omega | (simp; done) | (simp; omega))) | with_reducible refine Cs.keep ?_ (by assumption) | assumption))
      have hbw2 : Below w.heap.size w (wo.alloc (.cells #[.int .i64 x, .int .i64 1] 23)) := (by repeat (first | with_reducible exact Below.refl _ _ | with_reducible assumption | with_reducible refine balloc ?_ _ | with_reducible refine bdrewN ?_ _ | with_reducible refine Below.drew ?_ | (with_reducible refine bset ?_ ?_ _; rotate_left; focus (first | assumption | omega | (simp; done) | (simp; omega))) | with_reducible refine bstep ?_ (by assumption) | assumption))
      clear cB0 fB0 lB0
      go_loopw [7] (fun iv wr2 => ∃ (k : Nat) (p q : Int), k ≤ L ∧ iv = .int .i64 ((k : Int) - 1) ∧ Hid (ev (zs.drop k) = (p, q)) ∧ 0 ≤ p ∧ p ≤ 1000000000 ∧ 0 ≤ q ∧ q ≤ 1000000000 ∧ Cs wr2 w.heap.size #[.int .i64 0, .int .i64 0] ∧ Cs wr2 wo.heap.size #[.int .i64 p, .int .i64 q] ∧ Below w.heap.size w wr2) (fun iv _ => (intOf iv + 1).toNat)
      case atStart => exact ⟨L, x, 1, Nat.le_refl _, rfl, Hev, by omega, hx1, by omega, by omega, by first | exact B1 | exact B1.drew, by first | exact B2 | exact B2.drew, by first | exact hbw2 | exact hbw2.drew⟩
      case round =>
        clear B1 B2 hbw2 hx
        have lB0 := B0.lt
        obtain ⟨kk, p, q, hkk, rfl, Hpq, p1, p2, q1, q2, C0, C1, hbw2⟩ := hrel
        by_cases hk0 : 0 < kk
        · obtain ⟨k, rfl⟩ : ∃ k, kk = k + 1 := ⟨kk - 1, by omega⟩
          have ek : (((k + 1 : Nat) : Int) - 1) = (k : Int) := by omega
          rw [ek]
          clear ek
          obtain ⟨b2, off2, he, _, hx⟩ := Hz.out.at_ hbw2 (show k < L + 1 by omega)
          injection he with he
          injection he with he1 he2
          rw [← he1, ← he2] at hx
          have hd := Um.drop_ev zs k (by have := Hl.out; omega)
          rw [Hpq.out] at hd
          have Hd := Lib.hid hd
          have Hov := Lib.hid (fun h => Um.over_num zs Hc.out k (by have := Hl.out; omega) h)
          have Hov2 := Lib.hid (fun h => Um.over_frac zs Hc.out k (by have := Hl.out; omega) h)
          obtain ⟨y1, _, _, _⟩ := Hpl.out k (by omega)
          clear hd he1 he2
          generalize zs.getD k 0 = y at *
          have cC0 := C0.c
          have fC0 := C0.f
          have lC0 := C0.lt
          have cC1 := C1.c
          have fC1 := C1.f
          have lC1 := C1.lt
          by_cases hy1 : y ≤ 1000000000
          case neg =>
            obtain rfl := Hno.out (Hov.out (by omega))
            clear Hno Hyes
            have hy2 : 1000000000 < y := by omega
            go_wp2_with fail
            exact bodyPost_ret (v := .tuple #[.agg #[.int .i64 0, .int .i64 0], .int .i64 4]) (by simp [results, Tryd.results29, go_sem, cC0, fC0, lC0]) rfl ⟨rfl, (by repeat (first | with_reducible exact Below.refl _ _ | with_reducible assumption | with_reducible refine balloc ?_ _ | with_reducible refine bdrewN ?_ _ | with_reducible refine Below.drew ?_ | (with_reducible refine bset ?_ ?_ _; rotate_left; focus (first | assumption | omega | (simp; done) | (simp; omega))) | with_reducible refine bstep ?_ (by assumption) | assumption))⟩
          case pos =>
          have m1 : 0 ≤ y * p := Int.mul_nonneg (by omega) (by omega)
          have m2 : y * p ≤ 1000000000 * 1000000000 := Int.mul_le_mul hy1 p2 (by omega) (by omega)
          have f1 : IntKind.i64.wrap (y * p) = y * p := IntWalk.i64_in _ (by omega)
          have f2 : IntKind.i64.wrap (y * p + q) = y * p + q := IntWalk.i64_in _ (by omega)
          have m3 : 0 ≤ y * p + q := by omega
          have hgne : ¬ wo.heap.size = w.heap.size := by omega
          clear m1 m2
          by_cases ho : y * p + q ≤ 1000000000
          case neg =>
            obtain rfl := Hno.out (Hov2.out (by rw [Hd.out]; show 1000000000 < y * p + q; omega))
            clear Hno Hyes Hd Hov Hov2
            have hz2 : 1000000000 < y * p + q := by omega
            go_wp2_with fail
            go_region
            have D0 := C0.other2 (show w.heap.size ≠ wo.heap.size by omega) (.int .i64 (y * p + q)) (.int .i64 p)
            have D1 := C1.set2 (.int .i64 (y * p + q)) (.int .i64 p)
            have hbw3 := bset2 hbw2 (show w.heap.size ≤ wo.heap.size by omega) (.int .i64 (y * p + q)) (.int .i64 p)
            generalize ((wr.setCell ⟨wo.heap.size, 0, none⟩ (.int .i64 (y * p + q))).setCell ⟨wo.heap.size, 1, none⟩ (.int .i64 p)) = w3 at *
            have cD0 := D0.c
            have fD0 := D0.f
            have lD0 := D0.lt
            have cD1 := D1.c
            have fD1 := D1.f
            have lD1 := D1.lt
            go_wp2_with fail
            exact bodyPost_ret (v := .tuple #[.agg #[.int .i64 0, .int .i64 0], .int .i64 4]) (by simp [results, Tryd.results29, go_sem, cD0, fD0, lD0]) rfl ⟨rfl, (by repeat (first | with_reducible exact Below.refl _ _ | with_reducible assumption | with_reducible refine balloc ?_ _ | with_reducible refine bdrewN ?_ _ | with_reducible refine Below.drew ?_ | (with_reducible refine bset ?_ ?_ _; rotate_left; focus (first | assumption | omega | (simp; done) | (simp; omega))) | with_reducible refine bstep ?_ (by assumption) | assumption))⟩
          case pos =>
            have Hd2 : Hid (ev (zs.drop k) = (y * p + q, p)) := Lib.hid Hd.out
            clear Hov Hov2 Hd
            go_wp2_with fail
            go_region
            go_wp2_with fail
            go_roundw
            case rel =>
              refine ⟨k, y * p + q, p, by omega, by go_num, Hd2, m3, ho, p1, p2, ?_, ?_, ?_⟩
              · first | exact C0.other2 (by omega) _ _ | exact (C0.other2 (by omega) _ _).drew
              · first | exact C1.set2 _ _ | exact (C1.set2 _ _).drew
              · first | exact bset2 hbw2 (by omega) _ _ | exact (bset2 hbw2 (by omega) _ _).drew
            case measure => first | (simp [intOf]; done) | (simp [intOf]; omega)
        · obtain rfl : kk = 0 := by omega
          have hfit : fits zs := by
            have := Hpq.out
            rw [List.drop_zero] at this
            unfold fits
            rw [this]
            exact ⟨p2, q2⟩
          have hres : Hid (res = ((p, q), 0)) := Lib.hid (by
            rw [Hyes.out hfit]
            have := Hpq.out
            rw [List.drop_zero] at this
            rw [this])
          obtain rfl := hres.out
          clear hres Hno Hyes Hpq hfit
          have cC0 := C0.c
          have fC0 := C0.f
          have lC0 := C0.lt
          have cC1 := C1.c
          have fC1 := C1.f
          have lC1 := C1.lt
          go_wp2_with fail
          exact bodyPost_ret (v := .tuple #[.agg #[.int .i64 p, .int .i64 q], .int .i64 0]) (by simp [results, Tryd.results29, go_sem, cC0, fC0, lC0]) rfl ⟨rfl, (by repeat (first | with_reducible exact Below.refl _ _ | with_reducible assumption | with_reducible refine balloc ?_ _ | with_reducible refine bdrewN ?_ _ | with_reducible refine Below.drew ?_ | (with_reducible refine bset ?_ ?_ _; rotate_left; focus (first | assumption | omega | (simp; done) | (simp; omega))) | with_reducible refine bstep ?_ (by assumption) | assumption))⟩

end Go.Proofs.YtkjoamindolonaaDoor
