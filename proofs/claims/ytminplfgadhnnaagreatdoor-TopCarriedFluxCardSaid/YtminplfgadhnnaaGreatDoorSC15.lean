/- CF2 CF3 TA1 -/
import Derived.Test.YtminplfgadhnnaaGreatDoorSC14
import Derived.Deep.DeepCutAuto
import Derived.BigQuiet
import Derived.Test.YtminplfgadhnnaaGreatDoorCards
import Derived.Test.YtminplfgadhnnaaGreatDoorTie
import Derived.Test.YtminplfgadhnnaaGreatDoorTV05
import Derived.ProofKit
import Derived.OpenShut
import Derived.Deep.DeepHandedRow
import Derived.Deep.Slices
import Derived.Lib.LaidTab
import Derived.LaidSub
/- The walk of TopCarriedFlux: it answers true. -/
section
namespace Go.Proofs.YtminplfgadhnnaaGreatDoor
open Go.RowKit Go.Shelf
set_option linter.unusedSimpArgs false
set_option linter.unusedVariables false
attribute [local go_sem high] rat_eq
open Zm
open Um (frac spanB spanE pt inS)

theorem whole03_any (n : Int) (w : World) : Calls Tryz.prog 14 #[.int .i64 n] w fun e w' => e = .returned (.agg #[.int .i64 n, .int .i64 1]) ∧ Below w.heap.size w w' := by
  go_enter Tryz.func14, Tryz.ntmps14
  go_wp2_with fail
  exact bodyPost_ret (v := .agg #[.int .i64 n, .int .i64 1]) (by simp [results, Tryz.results14, go_sem]) rfl ⟨rfl, blA⟩

def S17 (b off k bt ot : Nat) (z1 z2 z3 z4 y : Int) (U : World) : Prop :=
  U.cell? ⟨b, off + k * 4, none⟩ = some (.int .i64 z1) ∧ U.cell? ⟨b, off + k * 4 + 1, none⟩ = some (.int .i64 z2) ∧ U.cell? ⟨b, off + k * 4 + 2, none⟩ = some (.int .i64 z3) ∧ U.cell? ⟨b, off + k * 4 + 3, none⟩ = some (.int .i64 z4) ∧ U.cell? ⟨bt, ot + k, none⟩ = some (.int .u8 y)

set_option maxRecDepth 100000 in
set_option maxHeartbeats 16000000 in
theorem carriedFlux_main (A1 : Option Addr) (n1 c1 : Nat) (A2 : Option Addr) (n2 c2 : Nat) (A3 : Option Addr) (n3 c3 : Nat) (A4 : Option Addr) (n4 c4 : Nat) (an : List Int) (ls : List (Int × Int)) (fs : List Bool) (ws : List Int) (A Z T : Option Addr) (m D q cap p E : Nat) (us tr : List Int) (zs : List Um.S4) (w : World) (h : Lmp w A1 n1 c1 A2 n2 c2 A3 n3 c3 A4 n4 c4 an ls fs ws) (hu : U8s w A m us) (hz : Spans w Z q zs) (ht : U8s w T p tr) (hc : chkZ an ls fs ws = 0) (hd : dbtZ an ls fs n4 = false) (e5 : m ≤ 100) (e6 : q ≤ 8) (e7 : p ≤ 20) (hfa : FirstAt w) (hW : GlobW w) :
    Calls Tryz.prog 3 #[.agg #[.slice A1 n1 c1, .slice A2 n2 c2, .slice A3 n3 c3, .slice A4 n4 c4], .slice A m D, .slice Z q cap, .slice T p E] w fun e w' => e = .returned (.bool true) ∧ Below w.heap.size w w' := by
  have kw := fun W h => top_works03_any W h
  have HW := Lib.hid hW
  have Hfa := Lib.hid hfa
  have hl4 := h.h4.1
  have k1 := fun (W : World) (hb : Below w.heap.size w W) => lamp03_any _ _ _ _ _ _ _ _ _ _ _ _ _ _ _ _ W (h.below hb)
  rw [show (decide (chkZ an ls fs ws = 0) && !dbtZ an ls fs n4) = true by rw [hc, hd]; rfl] at k1
  have ho := chk_lamp hc
  have d5 : ¬ (100 : Int) < (m : Int) := by omega
  have d6 : ¬ (8 : Int) < (q : Int) := by omega
  have d7 : ¬ (20 : Int) < (p : Int) := by omega
  have hD4 : dbtZ an ls fs ws.length = false := by rw [hl4]; exact hd
  have htr := trueL_row ho hD4 us
  have hbd := fun k (hk : k < ws.length) => (show -100000 ≤ (rowF ws.length (lntZ an ls fs us ws.length)).getD k 0 ∧ (rowF ws.length (lntZ an ls fs us ws.length)).getD k 0 ≤ 100000 by
    have := lnt_bd (us := us) ho hD4 hk
    rw [rowF_get _ hk]; omega)
  have kl := fun (W : World) (hb : Below w.heap.size w W) => zlantern_any _ _ _ _ _ _ _ _ _ _ _ _ _ _ _ _ A m D us W (h.below hb) ho hd (hu.below hb) (by omega)
  rw [hl4] at htr hbd
  generalize rowF n4 (lntZ an ls fs us n4) = x at *
  have ks := fun (W : World) (hb : Below w.heap.size w W) => zspan_ok _ _ _ _ _ _ _ _ _ _ _ _ _ _ _ _ (fun k => x.getD k 0) W (h.below hb) hc htr
  have kf := fun (W : World) (hb : Below w.heap.size w W) (X : Option Addr) (K : Nat) (hI : Ints W X n4 x) (hK : n4 ≤ K) => zflux_ok0 _ _ _ _ _ _ _ _ _ _ _ _ _ _ _ _ X n4 K x W (h.below hb) hc hI rfl hK htr (fun k hk => hbd k (by omega))
  rw [sumF_Z] at ks
  generalize sumZ ws x n4 = f at *
  have Hz := Lib.hid hz
  have Ht := Lib.hid ht
  clear h hu hz ht hc hd ho hW hfa htr hbd hD4 hl4
  go_enter Tryz.func3, Tryz.ntmps3
  go_wp2_with fail
  refine (k1 _ blA).mono ?_
  rintro e w1 ⟨rfl, hb1⟩
  replace B4 : Cs w1 (w.heap.size) #[.slice A1 n1 c1, .slice A2 n2 c2, .slice A3 n3 c3, .slice A4 n4 c4] := Cs.keep csA hb1
  replace hbw : Below w.heap.size w w1 := blA
  replace cB4 := B4.c
  replace fB4 := B4.f
  replace lB4 := B4.lt
  clear hb1
  clear k1 d5 d6 d7
  go_wp2_with fail
  refine (ks _ blA).mono ?_
  rintro _ w2 ⟨lo, hi, rfl, hlo, hhi, hlo0, hhi0, hb2⟩
  replace B4 : Cs w2 (w.heap.size) #[.slice A1 n1 c1, .slice A2 n2 c2, .slice A3 n3 c3, .slice A4 n4 c4] := Cs.keep csA hb2
  replace hbw : Below w.heap.size w w2 := blA
  replace cB4 := B4.c
  replace fB4 := B4.f
  replace lB4 := B4.lt
  clear hb2
  clear ks
  have hf1 : ¬ f < lo := by omega
  have hf2 : ¬ hi < f := by omega
  have HB4 := Lib.hid B4
  have hbw2 := hbw
  have hgw2 : w.heap.size < w2.heap.size := lB4
  clear B4 hbw
  go_wp2_with fail
  obtain ⟨W3, hW3⟩ : ∃ V, w2.alloc (.cells #[.int .i64 lo, .int .i64 hi] 32) = V := ⟨_, rfl⟩
  have Bs3 : Cs W3 w2.heap.size #[.int .i64 lo, .int .i64 hi] := by rw [← hW3]; exact csA
  have hb23 : Below w2.heap.size w2 W3 := by rw [← hW3]; exact blA
  have hbw3 : Below w.heap.size w W3 := hbw2.trans (hb23.mono hbw2.size)
  have B43 := HB4.out.keep hb23
  rw [hW3]
  clear hW3 cB4 fB4 lB4 HB4 hb23
  refine wp_region_seq (S := fun U => U.cell? ⟨w.heap.size, 0, none⟩ = some (.slice A1 n1 c1) ∧ U.cell? ⟨w.heap.size, 1, none⟩ = some (.slice A2 n2 c2) ∧ U.cell? ⟨w.heap.size, 2, none⟩ = some (.slice A3 n3 c3) ∧ U.cell? ⟨w.heap.size, 3, none⟩ = some (.slice A4 n4 c4)) [.t 0 1, .t 1 3, .t 2 7, .o 3 15, .o 4 31, .t 5 63, .t 6 127, .t 7 255, .t 8 511, .t 9 1023] (by kernel_rfl) (by kernel_rfl) (by as_aux_lemma => kernel_rfl) (by kernel_rfl) (fun c a d v w h => by cases d <;> exact h) ⟨B43.c 0, B43.c 1, B43.c 2, B43.c 3⟩ (fun _ => ?_)
  iterate 3 (refine seq_take (v := ?_) rfl (by rfl) ?_ ?_; rotate_left; focus (intro w9 hSw; obtain ⟨s1, s2, s3, s4⟩ := hSw; (go_simp; (try simp only [and_self, if_true, if_false]) <;> with_reducible rfl)); try simp only [Act.put, List.setIfInBounds_toArray, List.set_cons_zero, List.set_cons_succ])
  refine seq_one rfl (fun K9 hS9 => ?_)
  go_simp
  refine (kl _ hbw3.drew).mono ?_
  rintro e w4 ⟨g, K, rfl, hI4, hK, hb4⟩
  have hbw4 : Below w.heap.size w w4 := hbw3.drew.trans (hb4.mono hbw3.size)
  have Bs4 := Bs3.drew.keep hb4
  have B44 := B43.drew.keep hb4
  refine hS9.out _ _ ⟨B44.c 0, B44.c 1, B44.c 2, B44.c 3⟩ (fun _ => ?_)
  clear hS9 K9 hb4 kl B43 Bs3
  try simp only [Act.put, List.setIfInBounds_toArray, List.set_cons_zero, List.set_cons_succ]
  refine seq_one rfl (fun K9 hS9 => ?_)
  go_simp
  refine (kf _ hbw4 _ _ hI4 hK).mono ?_
  rintro e w5 ⟨rfl, hb5⟩
  have hbw5 : Below w.heap.size w w5 := hbw4.trans (hb5.mono hbw4.size)
  have Bs := Bs4.keep hb5
  have B45 := B44.keep hb5
  refine hS9.out _ _ ⟨B45.c 0, B45.c 1, B45.c 2, B45.c 3⟩ (fun _ => ?_)
  clear hS9 K9 hb5 kf hI4 hK hbw4 B44 Bs4
  try simp only [Act.put, List.setIfInBounds_toArray, List.set_cons_zero, List.set_cons_succ]
  iterate 5 (refine seq_take (v := ?_) rfl (by rfl) ?_ ?_; rotate_left; focus (intro w9 hSw; obtain ⟨s1, s2, s3, s4⟩ := hSw; (go_simp; (try simp only [and_self, if_true, if_false]) <;> with_reducible rfl)); try simp only [Act.put, List.setIfInBounds_toArray, List.set_cons_zero, List.set_cons_succ])
  refine seq_done ?_
  have cBs := Bs.c
  have fBs := Bs.f
  have lBs := Bs.lt
  clear B45
  by_cases hlo1 : lo < 1
  · go_wp2_with fail
    refine (kw _ (HW.out.below blA)).mono ?_
    rintro _ w6 ⟨rfl, hb6⟩
    go_wp2_with fail
    go_ret
    exact ⟨rfl, blA⟩
  have hlo2 : 1 ≤ lo := by omega
  go_wp2_with fail
  have HBs := Lib.hid Bs
  have hsw5 := hbw5.size
  generalize hg9 : w2.heap.size = g9 at *
  clear Bs cBs fBs lBs
  go_loopw [13, 14] (fun s13 s14 wr => ∃ (k : Nat) (W : World), k ≤ q ∧ s14 = .int .i64 (k : Nat) ∧ Hid (W = wr) ∧ Hid (∀ j, j < k → spanB (zs.getD j (0, 0, 0, 0)) = true) ∧ Hid (W.ownsRow w5.heap.size 43 4 s13 k ((trues zs (0 :: tr) k).flatMap enc4)) ∧ Below w5.heap.size w5 W) (fun _ s14 _ => q - (intOf s14).toNat)
  case atStart => exact ⟨0, _, Nat.zero_le _, rfl, Lib.hid rfl, Lib.hid (fun j hj => absurd hj (by omega)), Lib.hid ⟨rfl, Or.inl ⟨rfl, rfl⟩⟩, blA⟩
  case round =>
    obtain ⟨k, W, hk, rfl, HWx, Hsp, Hown, hbx⟩ := hrel
    obtain rfl := HWx.out
    clear HWx
    have hbw : Below w.heap.size w W := hbw5.trans (hbx.mono hsw5)
    have hsx := hbx.size
    by_cases hkq : k < q
    · have hkI : (k : Int) < (q : Int) := by omega
      obtain ⟨b', off, z1, z2, z3, z4, rfl, hget, hdrop, e0, e1, e2, e3⟩ := Hz.out.at_ hbw hkq
      have hzk : zs.getD k (0, 0, 0, 0) = (z1, z2, z3, z4) := by rw [List.getD_eq_getElem?_getD, hget]; rfl
      have Hzk := Lib.hid hzk
      have Hget := Lib.hid hget
      clear hdrop hzk hget
      have kc := fun W => rcheckSpan_any z1 z2 z3 z4 W
      cases hs4 : spanB (z1, z2, z3, z4) with
      | false =>
        rw [show spanE (z1, z2, z3, z4) = 2 by unfold spanE; rw [hs4]; rfl] at kc
        clear hs4
        go_wp2_with fail
        refine (kc _).mono ?_
        rintro _ w6 ⟨rfl, hb6⟩
        go_wp2_with fail
        refine (kw _ (HW.out.below blA)).mono ?_
        rintro _ w7 ⟨rfl, hb7⟩
        go_wp2_with fail
        go_ret
        exact ⟨rfl, blA⟩
      | true =>
        rw [show spanE (z1, z2, z3, z4) = 0 by unfold spanE; rw [hs4]; rfl] at kc
        have Hs4 := Lib.hid hs4
        have Hsp2 : Hid (∀ j, j < k + 1 → spanB (zs.getD j (0, 0, 0, 0)) = true) := Lib.hid (fun j hj => by
          by_cases e : j = k
          · rw [e, Hzk.out]; exact Hs4.out
          · exact Hsp.out j (by omega))
        go_wp2_with fail
        refine (kc _).mono ?_
        rintro _ w6 ⟨rfl, hb6⟩
        have hbw6 : Below w.heap.size w w6 := hbw.trans (hb6.mono hbw.size)
        have hbx6 : Below w5.heap.size w5 w6 := hbx.trans (hb6.mono hsx)
        obtain ⟨d0, d1, d2, d3⟩ := Hz.out.cells hbw6 hkq Hget.out
        clear kc e0 e1 e2 e3
        by_cases hkp : k < p
        · have hkpI : (k : Int) < (p : Int) := by omega
          obtain ⟨bt, ot, rfl, hlbt, cy, y0, y1⟩ := Ht.out.at_ hbw6 hkp
          have ki := fun W => inside_any z1 z2 z3 z4 (tr.getD k 0) W Hs4.out y0 y1
          have Hte : Hid (trueAt zs (0 :: tr) k = Um.inside (z1, z2, z3, z4) (tr.getD k 0)) := Lib.hid (by
            unfold trueAt
            rw [if_pos (by simp; have := Ht.out.1; omega), Hzk.out]
            rfl)
          have HS17 : Hid (∀ U, Below w6.heap.size w6 U → S17 b' off k bt ot z1 z2 z3 z4 (tr.getD k 0) U) := Lib.hid (fun U hU => by
            have hbU := hbw6.trans (hU.mono hbw6.size)
            obtain ⟨q0, q1, q2, q3⟩ := Hz.out.cells hbU hkq Hget.out
            obtain ⟨bt2, ot2, et, _, cy2, _⟩ := Ht.out.at_ hbU hkp
            injection et with et
            injection et with et1 et2
            subst et1 et2
            exact ⟨q0, q1, q2, q3, cy2⟩)
          generalize Um.inside (z1, z2, z3, z4) (tr.getD k 0) = X at *
          obtain ⟨p1, p2⟩ := X
          generalize tr.getD k 0 = y at *
          have hsx6 := hbx6.size
          go_wp2_with fail
          obtain ⟨W7, hW7⟩ : ∃ V, w6.alloc (.cells #[.int .i64 z1, .int .i64 z2] 41) = V := ⟨_, rfl⟩
          have hb67 : Below w6.heap.size w6 W7 := by rw [← hW7]; exact blA
          have Bx : Cs W7 w6.heap.size #[.int .i64 z1, .int .i64 z2] := by rw [← hW7]; exact csA
          rw [hW7]
          clear hW7 cy
          refine wp_region_seq (S := S17 b' off k bt ot z1 z2 z3 z4 y) [.t 0 1, .t 1 3, .t 2 7, .t 3 15, .t 4 31, .t 5 63, .t 6 127, .t 7 255, .o 8 511, .o 9 1023] (by kernel_rfl) (by kernel_rfl) (by as_aux_lemma => kernel_rfl) (by kernel_rfl) (fun c a d v w h => by cases d <;> exact h) (HS17.out _ hb67.drew) (fun _ => ?_)
          iterate 8 (refine seq_take (v := ?_) rfl (by rfl) ?_ ?_; rotate_left; focus (intro w9 hSw; obtain ⟨s1, s2, s3, s4, s5⟩ := hSw; (go_simp; (try simp only [hkI, hkpI, and_self, if_true, if_false]) <;> with_reducible rfl)); try simp only [Act.put, List.setIfInBounds_toArray, List.set_cons_zero, List.set_cons_succ])
          refine seq_one rfl (fun K9 hS9 => ?_)
          go_simp
          refine (ki _).mono ?_
          rintro e w8 ⟨rfl, hb8⟩
          have hb68 : Below w6.heap.size w6 w8 := hb67.drew.trans (hb8.mono hb67.size)
          have Bx8 := Bx.drew.keep hb8
          refine hS9.out _ _ (HS17.out _ hb68) (fun _ => ?_)
          clear hS9 K9 hb8 ki Bx hb67
          try simp only [Act.put, List.setIfInBounds_toArray, List.set_cons_zero, List.set_cons_succ]
          have cBx8 := Bx8.c
          have fBx8 := Bx8.f
          have lBx8 := Bx8.lt
          refine seq_one rfl (fun K9 hS9 => ?_)
          go_simp
          have hb69 := bset2 hb68 (Nat.le_refl _) (.int .i64 p1) (.int .i64 p2)
          have Bx9 := Bx8.set2 (.int .i64 p1) (.int .i64 p2)
          refine hS9.out _ _ (HS17.out _ hb69) (fun _ => ?_)
          clear hS9 K9 cBx8 fBx8 lBx8 Bx8 hb68 HS17
          try simp only [Act.put, List.setIfInBounds_toArray, List.set_cons_zero, List.set_cons_succ]
          refine seq_done ?_
          generalize ((w8.setCell ⟨w6.heap.size, 0, none⟩ (.int .i64 p1)).setCell ⟨w6.heap.size, 1, none⟩ (.int .i64 p2)) = w9 at *
          have hbW9 : Below W.heap.size W w9 := hb6.trans (hb69.mono hb6.size)
          have hbx9 : Below w5.heap.size w5 w9 := hbx6.trans (hb69.mono hsx6)
          have hs9 : w5.heap.size ≤ w9.heap.size := hbx9.size
          clear hb69 hb6 hbx6 hbw6 d0 d1 d2 d3
          have Htr : Hid ((trues zs (0 :: tr) (k + 1)).flatMap enc4 = (trues zs (0 :: tr) k).flatMap enc4 ++ enc4 (p1, p2, p1, p2)) := Lib.hid (by
            have e : pt (trueAt zs (0 :: tr) k) = (p1, p2, p1, p2) := by
              rw [Hte.out]; rfl
            rw [trues_succ, e, List.flatMap_append]
            simp)
          have hown9 := own_keep Hown.out (show Below W.heap.size W w9 from hbW9)
          have cBx := Bx9.c
          have fBx := Bx9.f
          have lBx := Bx9.lt
          clear Hown Hsp Hs4 Hzk Hget
          go_wp2_with (at_builtin; (refine list_own4 rfl _ _ rfl w5.heap.size k _ (trues zs (0 :: tr) k) rfl (own_keep hown9 blA) _ (p1, p2, p1, p2) rfl ?_ (by omega) ?_ ?_))
          · first | exact fun j u h => h | (intro j u h; simpa using h) | (intro j u h; rw [← h]; simp [enc4])
          · first | omega | (simp; omega)
          · intro gr cr wA hownA hbA
            rw [← Htr.out] at hownA
            have hbxA : Below w5.heap.size w5 wA := by
              refine Below.trans ?_ hbA
              exact blA
            clear hown9 hbA cBx fBx lBx Bx9 Htr
            go_wp2_with fail
            go_roundw
            case rel => exact ⟨k + 1, _, by omega, by go_num, Lib.hid rfl, Hsp2, Lib.hid hownA, hbxA⟩
            case measure => simp [intOf]; omega
        · have hkpI : ¬ (k : Int) < (p : Int) := by omega
          have hsx6 := hbx6.size
          have hbW9 : Below W.heap.size W (w6.alloc (.cells #[.int .i64 z1, .int .i64 z2] 41)) := blA
          have Bx9 : Cs (w6.alloc (.cells #[.int .i64 z1, .int .i64 z2] 41)) w6.heap.size #[.int .i64 z1, .int .i64 z2] := csA
          have hbx9 : Below w5.heap.size w5 (w6.alloc (.cells #[.int .i64 z1, .int .i64 z2] 41)) := blA
          have Htr : Hid ((trues zs (0 :: tr) (k + 1)).flatMap enc4 = (trues zs (0 :: tr) k).flatMap enc4 ++ enc4 (z1, z2, z1, z2)) := Lib.hid (by
            have e : pt (trueAt zs (0 :: tr) k) = (z1, z2, z1, z2) := by
              unfold trueAt; rw [if_neg (by simp; have := Ht.out.1; omega), Hzk.out]; rfl
            rw [trues_succ, e, List.flatMap_append]
            simp)
          have hown9 := own_keep Hown.out (show Below W.heap.size W (w6.alloc (.cells #[.int .i64 z1, .int .i64 z2] 41)) from hbW9)
          have cBx := Bx9.c
          have fBx := Bx9.f
          have lBx := Bx9.lt
          clear Hown Hsp Hs4 Hzk Hget
          go_wp2_with (at_builtin; (refine list_own4 rfl _ _ rfl w5.heap.size k _ (trues zs (0 :: tr) k) rfl (own_keep hown9 blA) _ (z1, z2, z1, z2) rfl ?_ (by omega) ?_ ?_))
          · first | exact fun j u h => h | (intro j u h; simpa using h) | (intro j u h; rw [← h]; simp [enc4])
          · first | omega | (simp; omega)
          · intro gr cr wA hownA hbA
            rw [← Htr.out] at hownA
            have hbxA : Below w5.heap.size w5 wA := by
              refine Below.trans ?_ hbA
              exact blA
            clear hown9 hbA cBx fBx lBx Bx9 Htr
            go_wp2_with fail
            go_roundw
            case rel => exact ⟨k + 1, _, by omega, by go_num, Lib.hid rfl, Hsp2, Lib.hid hownA, hbxA⟩
            case measure => simp [intOf]; omega
    · obtain rfl : q = k := by omega
      have hqI : ¬ (q : Int) < (q : Int) := by omega
      have hlz := Hz.out.1
      have hsp : ∀ z ∈ zs, spanB z = true := fun z hz => by
        obtain ⟨i, hi, rfl⟩ := List.getElem_of_mem hz
        have := Hsp.out i (by omega)
        rw [List.getD_eq_getElem?_getD, List.getElem?_eq_getElem hi] at this
        exact this
      obtain ⟨t, v, e, g, C⟩ := cf_of (bs := 0 :: tr) hlo2 hlo hhi (by omega) (by omega) hsp
      rw [hlz] at C
      obtain ⟨X, cx, rfl, HX0⟩ := own_spans (trues_len zs (0 :: tr) q) Hown.out
      have HX := Lib.hid HX0
      have Bs := HBs.out.keep hbx
      have hg9l := Bs.lt
      obtain ⟨t1, t2, t3, t4⟩ := t
      obtain ⟨v1, v2, v3, v4⟩ := v
      have kt := fun V (hb : Below W.heap.size W V) => C.kt Z q cap V (Hz.out.below (hbw.trans (hb.mono hbw.size))) (by omega)
      have kv := fun V (hb : Below W.heap.size W V) => C.kv X q cx V (HX.out.below hb) (by omega)
      have e04 := C.e04
      have g04 := C.g04
      have ok := Lib.hid C.ok
      generalize trues zs (0 :: tr) q = ts at *
      dsimp only at kt kv
      clear C HX0 hsp Hsp Hown hlz HBs hkq Ht Hz
      go_upto_region 19 with fail
      go_cut [16, 10] (fun s16 s10 wx => ∃ (gt : Nat) (V : World), s16 = .pointer (some ⟨gt, 0, none⟩) ∧ s10 = .int .i64 e ∧ Hid (V = wx) ∧ Cs V gt #[.int .i64 t1, .int .i64 t2, .int .i64 t3, .int .i64 t4] ∧ W.heap.size ≤ gt ∧ Below W.heap.size W V)
      case first =>
        clear kv kw
        refine wp_region_tree (S := fun U => U.cell? ⟨g9, 0, none⟩ = some (.int .i64 lo) ∧ U.cell? ⟨g9, 1, none⟩ = some (.int .i64 hi)) (.t 0 1 (.t 1 3 (.t 3 11 (.t 4 27 (.t 7 155 (.c 2 12 159 4251 (.c 5 12 191 4255 (.t 6 255 (.c 8 12 511 4351 (.t 9 1023 (.t 10 2047 (.t 11 4095 (.o 12 8191 (.o 13 16383 (.t 14 32767 .nil)))))) (.o 8 4607 (.t 9 5119 (.t 10 6143 (.t 11 8191 (.o 13 16383 (.t 14 32767 .nil)))))))) (.o 5 4287 (.t 6 4351 (.o 8 4607 (.t 9 5119 (.t 10 6143 (.t 11 8191 (.o 13 16383 (.t 14 32767 .nil))))))))) (.o 2 4255 (.o 5 4287 (.t 6 4351 (.o 8 4607 (.t 9 5119 (.t 10 6143 (.t 11 8191 (.o 13 16383 (.t 14 32767 .nil))))))))))))))) (by kernel_rfl) (by kernel_rfl) (by as_aux_lemma => kernel_rfl) (by kernel_rfl) (fun c a d v w h => by cases d <;> exact h) ⟨Bs.c 0, Bs.c 1⟩ (fun _ => ?_)
        have hx0 : Below W.heap.size W W.drew := blA
        have Bs0 : Cs W.drew g9 #[.int .i64 lo, .int .i64 hi] := csA
        generalize W.drew = V0 at *
        iterate 5 (refine tree_take (v := ?_) rfl (by rfl) ?_ ?_; rotate_left; focus (intro w9 hSw; obtain ⟨s1, s2⟩ := hSw; (go_simp; (try simp only [and_self, if_true, if_false]) <;> with_reducible rfl)); try simp only [Act.put, List.setIfInBounds_toArray, List.set_cons_zero, List.set_cons_succ])
        refine tree_two ?_ ?_
        · skip
          refine tree_one rfl (fun K9 hS9 => ?_)
          go_simp
          refine (whole03_any _ _).mono ?_
          rintro e9 V1 ⟨rfl, hy⟩
          have hx1 := hx0.trans (hy.mono hx0.size)
          have Bs1 := Bs0.keep hy
          refine hS9.out _ _ ⟨Bs1.c 0, Bs1.c 1⟩ (fun _ => ?_)
          clear hS9 K9 hx0 Bs0 hy
          try simp only [Act.put, List.setIfInBounds_toArray, List.set_cons_zero, List.set_cons_succ]
          refine tree_two ?_ ?_
          · skip
            refine tree_one rfl (fun K9 hS9 => ?_)
            go_simp
            refine (whole03_any _ _).mono ?_
            rintro e9 V2 ⟨rfl, hy⟩
            have hx2 := hx1.trans (hy.mono hx1.size)
            have Bs2 := Bs1.keep hy
            refine hS9.out _ _ ⟨Bs2.c 0, Bs2.c 1⟩ (fun _ => ?_)
            clear hS9 K9 hx1 Bs1 hy
            try simp only [Act.put, List.setIfInBounds_toArray, List.set_cons_zero, List.set_cons_succ]
            iterate 1 (refine tree_take (v := ?_) rfl (by rfl) ?_ ?_; rotate_left; focus (intro w9 hSw; obtain ⟨s1, s2⟩ := hSw; (go_simp; (try simp only [and_self, if_true, if_false]) <;> with_reducible rfl)); try simp only [Act.put, List.setIfInBounds_toArray, List.set_cons_zero, List.set_cons_succ])
            refine tree_two ?_ ?_
            · skip
              refine tree_one rfl (fun K9 hS9 => ?_)
              go_simp
              refine (kt _ hx2).mono ?_
              rintro e9 V3 ⟨rfl, hy⟩
              have hx3 := hx2.trans (hy.mono hx2.size)
              have Bs3 := Bs2.keep hy
              refine hS9.out _ _ ⟨Bs3.c 0, Bs3.c 1⟩ (fun _ => ?_)
              clear hS9 K9 hx2 Bs2 hy
              try simp only [Act.put, List.setIfInBounds_toArray, List.set_cons_zero, List.set_cons_succ]
              iterate 3 (refine tree_take (v := ?_) rfl (by rfl) ?_ ?_; rotate_left; focus (intro w9 hSw; obtain ⟨s1, s2⟩ := hSw; (go_simp; (try simp only [and_self, if_true, if_false]) <;> with_reducible rfl)); try simp only [Act.put, List.setIfInBounds_toArray, List.set_cons_zero, List.set_cons_succ])
              refine tree_one rfl (fun K9 hS9 => ?_)
              go_simp
              obtain ⟨V4, hV⟩ : ∃ U, V3.alloc (.cells #[.int .i64 0, .int .i64 0, .int .i64 0, .int .i64 0] 43) = U := ⟨_, rfl⟩
              have hx4 : Below W.heap.size W V4 := by rw [← hV]; exact blA
              have Bs4 : Cs V4 g9 #[.int .i64 lo, .int .i64 hi] := by rw [← hV]; exact Bs3.alloc _
              have Bt4 : Cs V4 V3.heap.size #[.int .i64 0, .int .i64 0, .int .i64 0, .int .i64 0] := by rw [← hV]; exact csA
              have hga := hx3.size
              rw [hV]
              clear hV
              generalize V3.heap.size = ga at *
              have hgs : g9 ≠ ga := by omega
              refine hS9.out _ _ ⟨Bs4.c 0, Bs4.c 1⟩ (fun _ => ?_)
              clear hS9 K9 hx3 Bs3
              try simp only [Act.put, List.setIfInBounds_toArray, List.set_cons_zero, List.set_cons_succ]
              refine tree_one rfl (fun K9 hS9 => ?_)
              have cBt := Bt4.c
              have fBt := Bt4.f
              have lBt := Bt4.lt
              go_simp
              have hx5 := bset4 hx4 hga (.int .i64 t1) (.int .i64 t2) (.int .i64 t3) (.int .i64 t4)
              have Bs5 := Bs4.other4 hgs (.int .i64 t1) (.int .i64 t2) (.int .i64 t3) (.int .i64 t4)
              have Bt5 := Bt4.set4 (.int .i64 t1) (.int .i64 t2) (.int .i64 t3) (.int .i64 t4)
              generalize ((((V4.setCell ⟨ga, 0, none⟩ (.int .i64 t1)).setCell ⟨ga, 1, none⟩ (.int .i64 t2)).setCell ⟨ga, 2, none⟩ (.int .i64 t3)).setCell ⟨ga, 3, none⟩ (.int .i64 t4)) = V5 at *
              clear cBt fBt lBt
              refine hS9.out _ _ ⟨Bs5.c 0, Bs5.c 1⟩ (fun _ => ?_)
              clear hS9 K9 hx4 Bs4 Bt4
              try simp only [Act.put, List.setIfInBounds_toArray, List.set_cons_zero, List.set_cons_succ]
              iterate 1 (refine tree_take (v := ?_) rfl (by rfl) ?_ ?_; rotate_left; focus (intro w9 hSw; obtain ⟨s1, s2⟩ := hSw; (go_simp; (try simp only [and_self, if_true, if_false]) <;> with_reducible rfl)); try simp only [Act.put, List.setIfInBounds_toArray, List.set_cons_zero, List.set_cons_succ])
              refine tree_done (fun U => U = V5) rfl ?_
              rintro _ rfl
              go_wp2_with fail
              go_meet
              exact ⟨ga, _, rfl, rfl, Lib.hid rfl, Bt5, hga, hx5⟩
            · skip
              refine tree_one rfl (fun K9 hS9 => ?_)
              go_simp
              obtain ⟨V3, hV⟩ : ∃ U, V2.alloc (.cells #[.int .i64 0, .int .i64 0, .int .i64 0, .int .i64 0] 43) = U := ⟨_, rfl⟩
              have hx3 : Below W.heap.size W V3 := by rw [← hV]; exact blA
              have Bs3 : Cs V3 g9 #[.int .i64 lo, .int .i64 hi] := by rw [← hV]; exact Bs2.alloc _
              have Bt3 : Cs V3 V2.heap.size #[.int .i64 0, .int .i64 0, .int .i64 0, .int .i64 0] := by rw [← hV]; exact csA
              have hga := hx2.size
              rw [hV]
              clear hV
              generalize V2.heap.size = ga at *
              have hgs : g9 ≠ ga := by omega
              refine hS9.out _ _ ⟨Bs3.c 0, Bs3.c 1⟩ (fun _ => ?_)
              clear hS9 K9 hx2 Bs2
              try simp only [Act.put, List.setIfInBounds_toArray, List.set_cons_zero, List.set_cons_succ]
              refine tree_one rfl (fun K9 hS9 => ?_)
              go_simp
              refine (kt _ hx3).mono ?_
              rintro e9 V4 ⟨rfl, hy⟩
              have hx4 := hx3.trans (hy.mono hx3.size)
              have Bs4 := Bs3.keep hy
              have Bt4 := Bt3.keep hy
              refine hS9.out _ _ ⟨Bs4.c 0, Bs4.c 1⟩ (fun _ => ?_)
              clear hS9 K9 hx3 Bs3 Bt3 hy
              try simp only [Act.put, List.setIfInBounds_toArray, List.set_cons_zero, List.set_cons_succ]
              iterate 3 (refine tree_take (v := ?_) rfl (by rfl) ?_ ?_; rotate_left; focus (intro w9 hSw; obtain ⟨s1, s2⟩ := hSw; (go_simp; (try simp only [and_self, if_true, if_false]) <;> with_reducible rfl)); try simp only [Act.put, List.setIfInBounds_toArray, List.set_cons_zero, List.set_cons_succ])
              refine tree_one rfl (fun K9 hS9 => ?_)
              have cBt := Bt4.c
              have fBt := Bt4.f
              have lBt := Bt4.lt
              go_simp
              have hx5 := bset4 hx4 hga (.int .i64 t1) (.int .i64 t2) (.int .i64 t3) (.int .i64 t4)
              have Bs5 := Bs4.other4 hgs (.int .i64 t1) (.int .i64 t2) (.int .i64 t3) (.int .i64 t4)
              have Bt5 := Bt4.set4 (.int .i64 t1) (.int .i64 t2) (.int .i64 t3) (.int .i64 t4)
              generalize ((((V4.setCell ⟨ga, 0, none⟩ (.int .i64 t1)).setCell ⟨ga, 1, none⟩ (.int .i64 t2)).setCell ⟨ga, 2, none⟩ (.int .i64 t3)).setCell ⟨ga, 3, none⟩ (.int .i64 t4)) = V5 at *
              clear cBt fBt lBt
              refine hS9.out _ _ ⟨Bs5.c 0, Bs5.c 1⟩ (fun _ => ?_)
              clear hS9 K9 hx4 Bs4 Bt4
              try simp only [Act.put, List.setIfInBounds_toArray, List.set_cons_zero, List.set_cons_succ]
              iterate 1 (refine tree_take (v := ?_) rfl (by rfl) ?_ ?_; rotate_left; focus (intro w9 hSw; obtain ⟨s1, s2⟩ := hSw; (go_simp; (try simp only [and_self, if_true, if_false]) <;> with_reducible rfl)); try simp only [Act.put, List.setIfInBounds_toArray, List.set_cons_zero, List.set_cons_succ])
              refine tree_done (fun U => U = V5) rfl ?_
              rintro _ rfl
              go_wp2_with fail
              go_meet
              exact ⟨ga, _, rfl, rfl, Lib.hid rfl, Bt5, hga, hx5⟩
          · skip
            refine tree_one rfl (fun K9 hS9 => ?_)
            go_simp
            obtain ⟨V2, hV⟩ : ∃ U, V1.alloc (.cells #[.int .i64 0, .int .i64 0, .int .i64 0, .int .i64 0] 43) = U := ⟨_, rfl⟩
            have hx2 : Below W.heap.size W V2 := by rw [← hV]; exact blA
            have Bs2 : Cs V2 g9 #[.int .i64 lo, .int .i64 hi] := by rw [← hV]; exact Bs1.alloc _
            have Bt2 : Cs V2 V1.heap.size #[.int .i64 0, .int .i64 0, .int .i64 0, .int .i64 0] := by rw [← hV]; exact csA
            have hga := hx1.size
            rw [hV]
            clear hV
            generalize V1.heap.size = ga at *
            have hgs : g9 ≠ ga := by omega
            refine hS9.out _ _ ⟨Bs2.c 0, Bs2.c 1⟩ (fun _ => ?_)
            clear hS9 K9 hx1 Bs1
            try simp only [Act.put, List.setIfInBounds_toArray, List.set_cons_zero, List.set_cons_succ]
            refine tree_one rfl (fun K9 hS9 => ?_)
            go_simp
            refine (whole03_any _ _).mono ?_
            rintro e9 V3 ⟨rfl, hy⟩
            have hx3 := hx2.trans (hy.mono hx2.size)
            have Bs3 := Bs2.keep hy
            have Bt3 := Bt2.keep hy
            refine hS9.out _ _ ⟨Bs3.c 0, Bs3.c 1⟩ (fun _ => ?_)
            clear hS9 K9 hx2 Bs2 Bt2 hy
            try simp only [Act.put, List.setIfInBounds_toArray, List.set_cons_zero, List.set_cons_succ]
            iterate 1 (refine tree_take (v := ?_) rfl (by rfl) ?_ ?_; rotate_left; focus (intro w9 hSw; obtain ⟨s1, s2⟩ := hSw; (go_simp; (try simp only [and_self, if_true, if_false]) <;> with_reducible rfl)); try simp only [Act.put, List.setIfInBounds_toArray, List.set_cons_zero, List.set_cons_succ])
            refine tree_one rfl (fun K9 hS9 => ?_)
            go_simp
            refine (kt _ hx3).mono ?_
            rintro e9 V4 ⟨rfl, hy⟩
            have hx4 := hx3.trans (hy.mono hx3.size)
            have Bs4 := Bs3.keep hy
            have Bt4 := Bt3.keep hy
            refine hS9.out _ _ ⟨Bs4.c 0, Bs4.c 1⟩ (fun _ => ?_)
            clear hS9 K9 hx3 Bs3 Bt3 hy
            try simp only [Act.put, List.setIfInBounds_toArray, List.set_cons_zero, List.set_cons_succ]
            iterate 3 (refine tree_take (v := ?_) rfl (by rfl) ?_ ?_; rotate_left; focus (intro w9 hSw; obtain ⟨s1, s2⟩ := hSw; (go_simp; (try simp only [and_self, if_true, if_false]) <;> with_reducible rfl)); try simp only [Act.put, List.setIfInBounds_toArray, List.set_cons_zero, List.set_cons_succ])
            refine tree_one rfl (fun K9 hS9 => ?_)
            have cBt := Bt4.c
            have fBt := Bt4.f
            have lBt := Bt4.lt
            go_simp
            have hx5 := bset4 hx4 hga (.int .i64 t1) (.int .i64 t2) (.int .i64 t3) (.int .i64 t4)
            have Bs5 := Bs4.other4 hgs (.int .i64 t1) (.int .i64 t2) (.int .i64 t3) (.int .i64 t4)
            have Bt5 := Bt4.set4 (.int .i64 t1) (.int .i64 t2) (.int .i64 t3) (.int .i64 t4)
            generalize ((((V4.setCell ⟨ga, 0, none⟩ (.int .i64 t1)).setCell ⟨ga, 1, none⟩ (.int .i64 t2)).setCell ⟨ga, 2, none⟩ (.int .i64 t3)).setCell ⟨ga, 3, none⟩ (.int .i64 t4)) = V5 at *
            clear cBt fBt lBt
            refine hS9.out _ _ ⟨Bs5.c 0, Bs5.c 1⟩ (fun _ => ?_)
            clear hS9 K9 hx4 Bs4 Bt4
            try simp only [Act.put, List.setIfInBounds_toArray, List.set_cons_zero, List.set_cons_succ]
            iterate 1 (refine tree_take (v := ?_) rfl (by rfl) ?_ ?_; rotate_left; focus (intro w9 hSw; obtain ⟨s1, s2⟩ := hSw; (go_simp; (try simp only [and_self, if_true, if_false]) <;> with_reducible rfl)); try simp only [Act.put, List.setIfInBounds_toArray, List.set_cons_zero, List.set_cons_succ])
            refine tree_done (fun U => U = V5) rfl ?_
            rintro _ rfl
            go_wp2_with fail
            go_meet
            exact ⟨ga, _, rfl, rfl, Lib.hid rfl, Bt5, hga, hx5⟩
        · skip
          refine tree_one rfl (fun K9 hS9 => ?_)
          go_simp
          obtain ⟨V1, hV⟩ : ∃ U, V0.alloc (.cells #[.int .i64 0, .int .i64 0, .int .i64 0, .int .i64 0] 43) = U := ⟨_, rfl⟩
          have hx1 : Below W.heap.size W V1 := by rw [← hV]; exact blA
          have Bs1 : Cs V1 g9 #[.int .i64 lo, .int .i64 hi] := by rw [← hV]; exact Bs0.alloc _
          have Bt1 : Cs V1 V0.heap.size #[.int .i64 0, .int .i64 0, .int .i64 0, .int .i64 0] := by rw [← hV]; exact csA
          have hga := hx0.size
          rw [hV]
          clear hV
          generalize V0.heap.size = ga at *
          have hgs : g9 ≠ ga := by omega
          refine hS9.out _ _ ⟨Bs1.c 0, Bs1.c 1⟩ (fun _ => ?_)
          clear hS9 K9 hx0 Bs0
          try simp only [Act.put, List.setIfInBounds_toArray, List.set_cons_zero, List.set_cons_succ]
          refine tree_one rfl (fun K9 hS9 => ?_)
          go_simp
          refine (whole03_any _ _).mono ?_
          rintro e9 V2 ⟨rfl, hy⟩
          have hx2 := hx1.trans (hy.mono hx1.size)
          have Bs2 := Bs1.keep hy
          have Bt2 := Bt1.keep hy
          refine hS9.out _ _ ⟨Bs2.c 0, Bs2.c 1⟩ (fun _ => ?_)
          clear hS9 K9 hx1 Bs1 Bt1 hy
          try simp only [Act.put, List.setIfInBounds_toArray, List.set_cons_zero, List.set_cons_succ]
          refine tree_one rfl (fun K9 hS9 => ?_)
          go_simp
          refine (whole03_any _ _).mono ?_
          rintro e9 V3 ⟨rfl, hy⟩
          have hx3 := hx2.trans (hy.mono hx2.size)
          have Bs3 := Bs2.keep hy
          have Bt3 := Bt2.keep hy
          refine hS9.out _ _ ⟨Bs3.c 0, Bs3.c 1⟩ (fun _ => ?_)
          clear hS9 K9 hx2 Bs2 Bt2 hy
          try simp only [Act.put, List.setIfInBounds_toArray, List.set_cons_zero, List.set_cons_succ]
          iterate 1 (refine tree_take (v := ?_) rfl (by rfl) ?_ ?_; rotate_left; focus (intro w9 hSw; obtain ⟨s1, s2⟩ := hSw; (go_simp; (try simp only [and_self, if_true, if_false]) <;> with_reducible rfl)); try simp only [Act.put, List.setIfInBounds_toArray, List.set_cons_zero, List.set_cons_succ])
          refine tree_one rfl (fun K9 hS9 => ?_)
          go_simp
          refine (kt _ hx3).mono ?_
          rintro e9 V4 ⟨rfl, hy⟩
          have hx4 := hx3.trans (hy.mono hx3.size)
          have Bs4 := Bs3.keep hy
          have Bt4 := Bt3.keep hy
          refine hS9.out _ _ ⟨Bs4.c 0, Bs4.c 1⟩ (fun _ => ?_)
          clear hS9 K9 hx3 Bs3 Bt3 hy
          try simp only [Act.put, List.setIfInBounds_toArray, List.set_cons_zero, List.set_cons_succ]
          iterate 3 (refine tree_take (v := ?_) rfl (by rfl) ?_ ?_; rotate_left; focus (intro w9 hSw; obtain ⟨s1, s2⟩ := hSw; (go_simp; (try simp only [and_self, if_true, if_false]) <;> with_reducible rfl)); try simp only [Act.put, List.setIfInBounds_toArray, List.set_cons_zero, List.set_cons_succ])
          refine tree_one rfl (fun K9 hS9 => ?_)
          have cBt := Bt4.c
          have fBt := Bt4.f
          have lBt := Bt4.lt
          go_simp
          have hx5 := bset4 hx4 hga (.int .i64 t1) (.int .i64 t2) (.int .i64 t3) (.int .i64 t4)
          have Bs5 := Bs4.other4 hgs (.int .i64 t1) (.int .i64 t2) (.int .i64 t3) (.int .i64 t4)
          have Bt5 := Bt4.set4 (.int .i64 t1) (.int .i64 t2) (.int .i64 t3) (.int .i64 t4)
          generalize ((((V4.setCell ⟨ga, 0, none⟩ (.int .i64 t1)).setCell ⟨ga, 1, none⟩ (.int .i64 t2)).setCell ⟨ga, 2, none⟩ (.int .i64 t3)).setCell ⟨ga, 3, none⟩ (.int .i64 t4)) = V5 at *
          clear cBt fBt lBt
          refine hS9.out _ _ ⟨Bs5.c 0, Bs5.c 1⟩ (fun _ => ?_)
          clear hS9 K9 hx4 Bs4 Bt4
          try simp only [Act.put, List.setIfInBounds_toArray, List.set_cons_zero, List.set_cons_succ]
          iterate 1 (refine tree_take (v := ?_) rfl (by rfl) ?_ ?_; rotate_left; focus (intro w9 hSw; obtain ⟨s1, s2⟩ := hSw; (go_simp; (try simp only [and_self, if_true, if_false]) <;> with_reducible rfl)); try simp only [Act.put, List.setIfInBounds_toArray, List.set_cons_zero, List.set_cons_succ])
          refine tree_done (fun U => U = V5) rfl ?_
          rintro _ rfl
          go_wp2_with fail
          go_meet
          exact ⟨ga, _, rfl, rfl, Lib.hid rfl, Bt5, hga, hx5⟩
      case rest =>
        obtain ⟨gt, V, rfl, rfl, HV, Bt, hgt, hbV⟩ := hcut
        obtain rfl := HV.out
        clear HV kt Bs
        have hbv : Below w.heap.size w V := hbw.trans (hbV.mono hbw.size)
        have hW5 : w5.heap.size ≤ W.heap.size := hbx.size
        have hwW := hbw.size
        have hgtl := Bt.lt
        replace kv := fun U (hb : Below V.heap.size V U) => kv U (hbV.trans (hb.mono hbV.size))
        replace hbw := hbv
        clear hbv hbx hbw5 hbV
        have hbr := Lib.hid (Below.refl V.heap.size V)
        have cBt := Bt.c
        have fBt := Bt.f
        have lBt := Bt.lt
        go_wp2_with fail
        refine (whole03_any _ _).mono ?_
        rintro _ w6 ⟨rfl, hb6⟩
        replace hbr := Lib.hid (hbr.out.trans (hb6.mono hbr.out.size))
        replace Bt : Cs w6 gt #[.int .i64 t1, .int .i64 t2, .int .i64 t3, .int .i64 t4] := Cs.keep csA hb6
        replace hbw : Below w.heap.size w w6 := blA
        replace cBt := Bt.c
        replace fBt := Bt.f
        replace lBt := Bt.lt
        clear hb6
        go_wp2_with fail
        refine (whole03_any _ _).mono ?_
        rintro _ w7 ⟨rfl, hb7⟩
        replace hbr := Lib.hid (hbr.out.trans (hb7.mono hbr.out.size))
        replace Bt : Cs w7 gt #[.int .i64 t1, .int .i64 t2, .int .i64 t3, .int .i64 t4] := Cs.keep csA hb7
        replace hbw : Below w.heap.size w w7 := blA
        replace cBt := Bt.c
        replace fBt := Bt.f
        replace lBt := Bt.lt
        clear hb7
        go_wp2_with fail
        refine (kv _ hbr.out).mono ?_
        rintro _ w8 ⟨rfl, hb8⟩
        replace hbr := Lib.hid (hbr.out.trans (hb8.mono hbr.out.size))
        replace Bt : Cs w8 gt #[.int .i64 t1, .int .i64 t2, .int .i64 t3, .int .i64 t4] := Cs.keep csA hb8
        replace hbw : Below w.heap.size w w8 := blA
        replace cBt := Bt.c
        replace fBt := Bt.f
        replace lBt := Bt.lt
        clear hb8
        clear kv
        rcases e04 with rfl | rfl
        · rcases g04 with rfl | rfl
          · obtain ⟨st, sv, v13, v24, hf, hin⟩ := ok.out rfl rfl
            obtain rfl : v1 = v3 := v13
            obtain rfl : v2 = v4 := v24
            have k5 := fun W => rcheckSpan_any t1 t2 t3 t4 W
            rw [show spanE (t1, t2, t3, t4) = 0 by unfold spanE; rw [st]; rfl] at k5
            have k6 := fun W => rcheckSpan_any v1 v2 v1 v2 W
            rw [show spanE (v1, v2, v1, v2) = 0 by unfold spanE; rw [sv]; rfl] at k6
            obtain ⟨r1, r2, u1, u2, u3, u4, hB, hcp, k7, k8⟩ := proof_let t1 t2 t3 t4 st
            obtain ⟨h1, h2, h3⟩ := (Um.spanB_iff _).1 st
            obtain ⟨f1, f2, f3, f4⟩ := Um.frac_bd (n := t1) (d := t2) h1
            obtain ⟨f5, f6, f7, f8⟩ := Um.frac_bd (n := t3) (d := t4) h2
            obtain ⟨f9, f10, f11, f12⟩ := Um.frac_bd (n := v1) (d := v2) hf
            have k10 := fun W => rIn_any v1 v2 t1 t2 t3 t4 W (by omega) (by omega) (by omega) (by omega) (by omega) (by omega) (by omega) (by omega) (by omega) (by omega) (by omega) (by omega)
            have q0 := (inB_iff v1 v2 (t1, t2, t3, t4)).1 hin
            rw [show inB v1 v2 (t1, t2, t3, t4) = true from hin] at k10
            obtain ⟨n1', n2', m1', m2'⟩ : 1 ≤ r1 ∧ r1 ≤ 1000000000 ∧ 1 ≤ r2 ∧ r2 ≤ 1000000000 := ⟨hB.n1, hB.n2, hB.m1, hB.m2⟩
            have k12 := fun W => rIn_any r1 r2 t1 t2 t3 t4 W (by omega) (by omega) (by omega) (by omega) (by omega) (by omega) (by omega) (by omega) (by omega) (by omega) (by omega) (by omega)
            rw [(inB_iff r1 r2 (t1, t2, t3, t4)).2 ⟨hB.lo, hB.hi⟩] at k12
            obtain ⟨y1, y2⟩ := hB.simp.min v1 v2 (by omega) (by omega) q0.1 q0.2
            clear st sv hf hin hB hcp h1 h2 h3 f1 f2 f3 f4 f5 f6 f7 f8 f9 f10 f11 f12 n1' n2' m1' m2' q0 ok k8
            go_wp2_with fail
            refine (k7 _ (Hfa.out.below blA)).mono ?_
            rintro _ w9 ⟨rfl, hb9⟩
            replace Bt : Cs w9 gt #[.int .i64 t1, .int .i64 t2, .int .i64 t3, .int .i64 t4] := Cs.keep csA hb9
            replace Bv : Cs w9 (w8.heap.size) #[.int .i64 v1, .int .i64 v2, .int .i64 v1, .int .i64 v2] := Cs.keep csA hb9
            replace hbw : Below w.heap.size w w9 := blA
            replace cBt := Bt.c
            replace fBt := Bt.f
            replace lBt := Bt.lt
            replace cBv := Bv.c
            replace fBv := Bv.f
            replace lBv := Bv.lt
            clear hb9
            go_wp2_with fail
            refine (k5 _).mono ?_
            rintro e w10 ⟨rfl, hb10⟩
            replace Bt : Cs w10 gt #[.int .i64 t1, .int .i64 t2, .int .i64 t3, .int .i64 t4] := Cs.keep csA hb10
            replace Bv : Cs w10 (w8.heap.size) #[.int .i64 v1, .int .i64 v2, .int .i64 v1, .int .i64 v2] := Cs.keep csA hb10
            replace Br : Cs w10 (w9.heap.size) #[.int .i64 r1, .int .i64 r2] := Cs.keep csA hb10
            replace hbw : Below w.heap.size w w10 := blA
            replace cBt := Bt.c
            replace fBt := Bt.f
            replace lBt := Bt.lt
            replace cBv := Bv.c
            replace fBv := Bv.f
            replace lBv := Bv.lt
            replace cBr := Br.c
            replace fBr := Br.f
            replace lBr := Br.lt
            clear hb10
            go_wp2_with fail
            refine (k6 _).mono ?_
            rintro e w11 ⟨rfl, hb11⟩
            replace Bt : Cs w11 gt #[.int .i64 t1, .int .i64 t2, .int .i64 t3, .int .i64 t4] := Cs.keep csA hb11
            replace Bv : Cs w11 (w8.heap.size) #[.int .i64 v1, .int .i64 v2, .int .i64 v1, .int .i64 v2] := Cs.keep csA hb11
            replace Br : Cs w11 (w9.heap.size) #[.int .i64 r1, .int .i64 r2] := Cs.keep csA hb11
            replace hbw : Below w.heap.size w w11 := blA
            replace cBt := Bt.c
            replace fBt := Bt.f
            replace lBt := Bt.lt
            replace cBv := Bv.c
            replace fBv := Bv.f
            replace lBv := Bv.lt
            replace cBr := Br.c
            replace fBr := Br.f
            replace lBr := Br.lt
            clear hb11
            go_wp2_with fail
            refine (k10 _).mono ?_
            rintro e w12 ⟨rfl, hb12⟩
            replace Bt : Cs w12 gt #[.int .i64 t1, .int .i64 t2, .int .i64 t3, .int .i64 t4] := Cs.keep csA hb12
            replace Bv : Cs w12 (w8.heap.size) #[.int .i64 v1, .int .i64 v2, .int .i64 v1, .int .i64 v2] := Cs.keep csA hb12
            replace Br : Cs w12 (w9.heap.size) #[.int .i64 r1, .int .i64 r2] := Cs.keep csA hb12
            replace hbw : Below w.heap.size w w12 := blA
            replace cBt := Bt.c
            replace fBt := Bt.f
            replace lBt := Bt.lt
            replace cBv := Bv.c
            replace fBv := Bv.f
            replace lBv := Bv.lt
            replace cBr := Br.c
            replace fBr := Br.f
            replace lBr := Br.lt
            clear hb12
            go_wp2_with fail
            refine (k12 _).mono ?_
            rintro e w13 ⟨rfl, hb13⟩
            replace Bt : Cs w13 gt #[.int .i64 t1, .int .i64 t2, .int .i64 t3, .int .i64 t4] := Cs.keep csA hb13
            replace Bv : Cs w13 (w8.heap.size) #[.int .i64 v1, .int .i64 v2, .int .i64 v1, .int .i64 v2] := Cs.keep csA hb13
            replace Br : Cs w13 (w9.heap.size) #[.int .i64 r1, .int .i64 r2] := Cs.keep csA hb13
            replace hbw : Below w.heap.size w w13 := blA
            replace cBt := Bt.c
            replace fBt := Bt.f
            replace lBt := Bt.lt
            replace cBv := Bv.c
            replace fBv := Bv.f
            replace lBv := Bv.lt
            replace cBr := Br.c
            replace fBr := Br.f
            replace lBr := Br.lt
            clear hb13
            go_wp2_with fail
            refine (kw _ (HW.out.below blA)).mono ?_
            rintro e w14 ⟨rfl, hb14⟩
            try clear cBt fBt lBt
            try clear Bt
            try clear cBv fBv lBv
            try clear Bv
            try clear cBr fBr lBr
            try clear Br
            replace hbw : Below w.heap.size w w14 := blA
            clear hb14
            go_wp2_with fail
            go_ret
            exact ⟨rfl, blA⟩
          · clear ok
            go_wp2_with fail
            refine (kw _ (HW.out.below blA)).mono ?_
            rintro _ w9 ⟨rfl, hb9⟩
            go_wp2_with fail
            go_ret
            exact ⟨rfl, blA⟩
        · rcases g04 with rfl | rfl
          · clear ok
            go_wp2_with fail
            refine (kw _ (HW.out.below blA)).mono ?_
            rintro _ w9 ⟨rfl, hb9⟩
            go_wp2_with fail
            go_ret
            exact ⟨rfl, blA⟩
          · clear ok
            go_wp2_with fail
            refine (kw _ (HW.out.below blA)).mono ?_
            rintro _ w9 ⟨rfl, hb9⟩
            go_wp2_with fail
            go_ret
            exact ⟨rfl, blA⟩
end Go.Proofs.YtminplfgadhnnaaGreatDoor
end

/- The walk of TopCarriedFlux, with its guards. -/
section
namespace Go.Proofs.YtminplfgadhnnaaGreatDoor
open Go.RowKit Go.Shelf
set_option linter.unusedSimpArgs false
set_option linter.unusedVariables false
open Zm
open Um (frac spanB spanE pt inS)

set_option maxRecDepth 100000 in
set_option maxHeartbeats 16000000 in
theorem carriedFlux_any (A1 : Option Addr) (n1 c1 : Nat) (A2 : Option Addr) (n2 c2 : Nat) (A3 : Option Addr) (n3 c3 : Nat) (A4 : Option Addr) (n4 c4 : Nat) (an : List Int) (ls : List (Int × Int)) (fs : List Bool) (ws : List Int) (A Z T : Option Addr) (m D q cap p E : Nat) (us tr : List Int) (zs : List Um.S4) (w : World) (h : Lmp w A1 n1 c1 A2 n2 c2 A3 n3 c3 A4 n4 c4 an ls fs ws) (hu : U8s w A m us) (hz : Spans w Z q zs) (ht : U8s w T p tr) (hm : m ≤ 9223372036854775807) (hq : q ≤ 9223372036854775807) (hp : p ≤ 9223372036854775807) (hfa : FirstAt w) (hW : GlobW w) :
    Calls Tryz.prog 3 #[.agg #[.slice A1 n1 c1, .slice A2 n2 c2, .slice A3 n3 c3, .slice A4 n4 c4], .slice A m D, .slice Z q cap, .slice T p E] w fun e w' => e = .returned (.bool true) ∧ Below w.heap.size w w' := by
  have kw := fun W h => top_works03_any W h
  have HW := Lib.hid hW
  have k1 := fun (W : World) (hb : Below w.heap.size w W) => lamp03_any _ _ _ _ _ _ _ _ _ _ _ _ _ _ _ _ W (h.below hb)
  cases hL : (decide (chkZ an ls fs ws = 0) && !dbtZ an ls fs n4) with
  | false =>
    rw [hL] at k1
    clear hL h hu hz ht hW hm hq hp hfa
    go_enter Tryz.func3, Tryz.ntmps3
    go_wp2_with fail
    refine (k1 _ blA).mono ?_
    rintro e w1 ⟨rfl, hb1⟩
    try clear cB3 fB3 lB3
    try clear B3
    replace hbw : Below w.heap.size w w1 := blA
    clear hb1
    go_wp2_with fail
    refine (kw _ (HW.out.below blA)).mono ?_
    rintro e w2 ⟨rfl, hb2⟩
    try clear cB3 fB3 lB3
    try clear B3
    replace hbw : Below w.heap.size w w2 := blA
    clear hb2
    go_wp2_with fail
    go_ret
    exact ⟨rfl, blA⟩
  | true =>
  rw [hL] at k1
  rw [Bool.and_eq_true, decide_eq_true_eq, Bool.not_eq_true'] at hL
  obtain ⟨hc, hd⟩ := hL
  by_cases e5 : m ≤ 100
  case neg =>
    have d5 : (100 : Int) < (m : Int) := by omega
    clear h hu hz ht hW hq hp hc hd hfa
    go_enter Tryz.func3, Tryz.ntmps3
    go_wp2_with fail
    refine (k1 _ blA).mono ?_
    rintro e w1 ⟨rfl, hb1⟩
    try clear cB3 fB3 lB3
    try clear B3
    replace hbw : Below w.heap.size w w1 := blA
    clear hb1
    go_wp2_with fail
    refine (kw _ (HW.out.below blA)).mono ?_
    rintro e w2 ⟨rfl, hb2⟩
    try clear cB3 fB3 lB3
    try clear B3
    replace hbw : Below w.heap.size w w2 := blA
    clear hb2
    go_wp2_with fail
    go_ret
    exact ⟨rfl, blA⟩
  have d5 : ¬ (100 : Int) < (m : Int) := by omega
  by_cases e6 : q ≤ 8
  case neg =>
    have d6 : (8 : Int) < (q : Int) := by omega
    clear h hu hz ht hW hm hp hc hd hfa
    go_enter Tryz.func3, Tryz.ntmps3
    go_wp2_with fail
    refine (k1 _ blA).mono ?_
    rintro e w1 ⟨rfl, hb1⟩
    try clear cB3 fB3 lB3
    try clear B3
    replace hbw : Below w.heap.size w w1 := blA
    clear hb1
    go_wp2_with fail
    refine (kw _ (HW.out.below blA)).mono ?_
    rintro e w2 ⟨rfl, hb2⟩
    try clear cB3 fB3 lB3
    try clear B3
    replace hbw : Below w.heap.size w w2 := blA
    clear hb2
    go_wp2_with fail
    go_ret
    exact ⟨rfl, blA⟩
  have d6 : ¬ (8 : Int) < (q : Int) := by omega
  by_cases e7 : p ≤ 20
  case neg =>
    have d7 : (20 : Int) < (p : Int) := by omega
    clear h hu hz ht hW hm hq hc hd hfa
    go_enter Tryz.func3, Tryz.ntmps3
    go_wp2_with fail
    refine (k1 _ blA).mono ?_
    rintro e w1 ⟨rfl, hb1⟩
    try clear cB3 fB3 lB3
    try clear B3
    replace hbw : Below w.heap.size w w1 := blA
    clear hb1
    go_wp2_with fail
    refine (kw _ (HW.out.below blA)).mono ?_
    rintro e w2 ⟨rfl, hb2⟩
    try clear cB3 fB3 lB3
    try clear B3
    replace hbw : Below w.heap.size w w2 := blA
    clear hb2
    go_wp2_with fail
    go_ret
    exact ⟨rfl, blA⟩
  exact carriedFlux_main _ _ _ _ _ _ _ _ _ _ _ _ _ _ _ _ A Z T m D q cap p E us tr zs w h hu hz ht hc hd e5 e6 e7 hfa hW
end Go.Proofs.YtminplfgadhnnaaGreatDoor
end

/- What every statement of the top of three stages leans on: what the two listed variables hold. -/
section
namespace Go.Proofs.YtminplfgadhnnaaGreatDoor
open Go.ChangeShapes Go.WideShapes Go.ChangeAt Go.RowKit
set_option linter.unusedSimpArgs false
set_option linter.unusedVariables false

def topZ : List Int := [0, 1, 56, 2, 57, 49, 28, 3, 61, 58, 42, 50, 38, 29, 17, 4, 62, 47, 59, 36, 45, 43, 51, 22, 53, 39, 33, 30, 24, 18, 12, 5, 63, 55, 48, 27, 60, 41, 37, 16, 46, 35, 44, 21, 52, 32, 23, 11, 54, 26, 40, 15, 34, 20, 31, 10, 25, 14, 19, 9, 13, 8, 7, 6]
def topTab : String := "math/bits.deBruijn64tab"
def topFst : String := "lampblack/unit.first"
theorem gTopTab : Tryz.prog.globalNamed topTab = some 1 := by kernel_rfl
theorem gTopTabType : (Tryz.prog.globals[1]?).map (·.type) = some 225 := by kernel_rfl
theorem gTopFst : Tryz.prog.globalNamed topFst = some 0 := by kernel_rfl
theorem gTopFstType : (Tryz.prog.globals[0]?).map (·.type) = some 95 := by kernel_rfl
theorem cellsTopTab : Tryz.prog.cellsOf 225 = 64 := by kernel_rfl
theorem cellsTopFst : Tryz.prog.cellsOf 95 = 4 := by kernel_rfl
theorem cellsTopU8 : Tryz.prog.cellsOf 5 = 1 := by kernel_rfl
theorem cellsTopI64 : Tryz.prog.cellsOf 2 = 1 := by kernel_rfl

def topLaid : List (String × DataW Unit) := [(topTab, Lib.tabData .u8 topZ), (topFst, Lib.tabData .i64 [1, 0, 0, 1])]
theorem topLaid_keep : (topLaid.filter fun x => x.1 == topFst) = [(topFst, Lib.tabData .i64 [1, 0, 0, 1])] := by kernel_rfl
theorem topTabIs {W : World} (h : laidMet Tryz.prog topLaid W) : Lib.TabIs Tryz.prog W topTab .u8 topZ :=
  Lib.tabIs_of_head (rest := [(topFst, Lib.tabData .i64 [1, 0, 0, 1])]) gTopTab gTopTabType Tryz.underlying225 Tryz.underlying5 cellsTopU8 cellsTopTab h
theorem topFstIs {W : World} (h : laidMet Tryz.prog topLaid W) : Lib.TabIs Tryz.prog W topFst .i64 [1, 0, 0, 1] := by
  have h2 := h.filter fun x => x.1 == topFst
  rw [topLaid_keep] at h2
  exact Lib.tabIs_of_head (rest := []) gTopFst gTopFstType Tryz.underlying95 Tryz.underlying2 cellsTopI64 cellsTopFst h2
/-- the list gives what the world must hold -/
theorem topGlob {W : World} (h : laidMet Tryz.prog topLaid W) : GlobW W := by
  have h1 := topTabIs h
  have h2 := topFstIs h
  intro k g p hg hp j hj
  match k with
  | 0 =>
    injection hg with hg; injection hp with hp
    subst hg hp
    have := World.var?_cell gTopFst h2 j
    rw [this, List.getElem?_toArray]
  | 1 =>
    injection hg with hg; injection hp with hp
    subst hg hp
    have := World.var?_cell gTopTab h1 j
    rw [this, List.getElem?_toArray]
    rfl
  | k + 2 => cases hg
theorem topFirst {W : World} (h : laidMet Tryz.prog topLaid W) : 0 < W.heap.size ∧ ∀ i, W.cell? ⟨0, i, none⟩ = (#[.int .i64 1, .int .i64 0, .int .i64 0, .int .i64 1] : Array Value)[i]? := by
  have hc : ∀ i, W.cell? ⟨0, i, none⟩ = (#[.int .i64 1, .int .i64 0, .int .i64 0, .int .i64 1] : Array Value)[i]? := fun i => by
    have := World.var?_cell gTopFst (topFstIs h) i
    rw [this]
    rfl
  refine ⟨?_, hc⟩
  rcases Nat.lt_or_ge 0 W.heap.size with h1 | h1
  · exact h1
  · exfalso
    have := hc 0
    simp [World.cell?, Array.getElem?_eq_none h1] at this

/-- a world for the witness: the variables hold what their initialisers lay -/
noncomputable def topWorld0 (os : Os) : World :=
  { World.holding Tryz.prog os ⟨#[], #[], []⟩ with heap := (World.holding Tryz.prog os ⟨#[], #[], []⟩).heap.modify 0 fun
      | .cells _ t frozen => .cells #[.int .i64 1, .int .i64 0, .int .i64 0, .int .i64 1] t frozen
      | o => o }
noncomputable def topWorld (os : Os) : World :=
  { topWorld0 os with heap := (topWorld0 os).heap.modify 1 fun
      | .cells _ t frozen => .cells (topZ.map fun z => Value.int .u8 z).toArray t frozen
      | o => o }
end Go.Proofs.YtminplfgadhnnaaGreatDoor
end
