/- PD1 -/
import Derived.Test.YtlbjnkopbabcnaaGreatDoorYP10
/- Walks of package metamer: what the curves see of a spectrum. -/
section
namespace Go.Proofs.YtlbjnkopbabcnaaGreatDoor
open Go.RowKit Go.Shelf
set_option linter.unusedSimpArgs false
set_option linter.unusedVariables false

/-- a row of numbers as a function -/
def zF (zs : List Int) (b : Nat) : Int := zs.getD b 0
/-- what a function of a curve and a band gives, whatever has been made since -/
def SeeAt (P : Program) (g : Nat) (fs lb : Array Value) (k : Nat) (p : Nat → Nat → Int) (w : World) : Prop :=
  ∀ (i b : Nat) (W : World), i < 3 → b < k → Below w.heap.size w W → Calls P g (fs ++ (#[.int .i64 (i : Nat), .int .i64 (b : Nat)] ++ lb)) W fun e W' => e = .returned (.int .i64 (p i b)) ∧ Below W.heap.size W W'
theorem SeeAt.below {P : Program} {g : Nat} {fs lb : Array Value} {k : Nat} {p : Nat → Nat → Int} {w w' : World} (h : SeeAt P g fs lb k p w) (hb : Below w.heap.size w w') : SeeAt P g fs lb k p w' :=
  fun i b W hi hk hW => h i b W hi hk (hb.trans (hW.mono hb.size))
/-- the three numbers, of which the first i are a band ahead -/
def accL (p : Nat → Nat → Int) (s : Nat → Int) (b i : Nat) : List Int := (List.range 3).map fun q => Mm.seen p s (if q < i then b + 1 else b) q
theorem accL_len (p : Nat → Nat → Int) (s : Nat → Int) (b i : Nat) : (accL p s b i).length = 3 := by simp [accL]
theorem accL_get (p : Nat → Nat → Int) (s : Nat → Int) (b i : Nat) {q : Nat} (hq : q < 3) : (accL p s b i).getD q 0 = Mm.seen p s (if q < i then b + 1 else b) q := by
  unfold accL
  rw [List.getD_eq_getElem?_getD, List.getElem?_map, List.getElem?_range hq]; rfl
theorem accL_set (p : Nat → Nat → Int) (s : Nat → Int) (b : Nat) {i : Nat} (hi : i < 3) : (accL p s b i).set i (Mm.seen p s b i + s b * p i b) = accL p s b (i + 1) := by
  apply List.ext_getElem (by simp [accL])
  intro q h1 h2
  have hq : q < 3 := by simpa [accL] using h1
  simp only [accL, List.getElem_set, List.getElem_map, List.getElem_range]
  by_cases e : i = q
  · subst e; rw [if_pos rfl, if_pos (by omega)]; rfl
  · rw [if_neg e]
    by_cases e2 : q < i
    · rw [if_pos e2, if_pos (by omega)]
    · rw [if_neg e2, if_neg (by omega)]
theorem accL_next (p : Nat → Nat → Int) (s : Nat → Int) (b : Nat) {i : Nat} (hi : 3 ≤ i) : accL p s b i = accL p s (b + 1) 0 := by
  unfold accL
  refine List.map_congr_left fun q hq => ?_
  rw [List.mem_range] at hq
  rw [if_pos (by omega), if_neg (by omega)]
theorem seen_bd {p : Nat → Nat → Int} {s : Nat → Int} {k b i : Nat} (hp : ∀ i b, i < 3 → b < k → -10000 ≤ p i b ∧ p i b ≤ 10000) (hs : ∀ b, b < k → -1000 ≤ s b ∧ s b ≤ 1000) (hi : i < 3) (hb : b ≤ k) (hk : k ≤ 8) :
    (-80000000 ≤ Mm.seen p s b i ∧ Mm.seen p s b i ≤ 80000000) ∧ (b < k → -10000000 ≤ s b * p i b ∧ s b * p i b ≤ 10000000) := by
  have key : ∀ q, q < k → -10000000 ≤ s q * p i q ∧ s q * p i q ≤ 10000000 := fun q hq => by
    obtain ⟨a1, a2⟩ := hp i q hi hq
    obtain ⟨c1, c2⟩ := hs q hq
    have h1 : (s q * p i q).natAbs ≤ 1000 * 10000 := by
      rw [Int.natAbs_mul]; exact Nat.mul_le_mul (by omega) (by omega)
    omega
  refine ⟨?_, fun h => key b h⟩
  obtain ⟨h1, h2⟩ := Mm.sm_abs (f := fun q => s q * p i q) (M := 10000000) (n := b) (fun q hq => key q (by omega))
  unfold Mm.seen
  omega

set_option maxRecDepth 100000 in
set_option maxHeartbeats 8000000 in
theorem see_any (E : Option Addr) (m ce : Nat) (L : Option Addr) (n cl : Nat) (A : Option Addr) (k c : Nat) (zs : List Int) (g : Nat) (fs lb : Array Value) (p : Nat → Nat → Int) (w : World) (eg : ∀ args w, (callFunc g args).run Tryz.prog w = .ok (.enter g args) w)
    (hz : Ints w A k zs) (hk : k ≤ 8) (hS : SeeAt Tryz.prog g fs lb k p w) (hp : ∀ i b, i < 3 → b < k → -10000 ≤ p i b ∧ p i b ≤ 10000) (hs : ∀ b, b < k → -1000 ≤ zF zs b ∧ zF zs b ≤ 1000) :
    Calls Tryz.prog 57 #[.agg #[.slice E m ce, .slice L n cl], .slice A k c, .func (.func g) fs lb] w fun e w' => e = .returned (.agg #[.int .i64 (Mm.seen p (zF zs) k 0), .int .i64 (Mm.seen p (zF zs) k 1), .int .i64 (Mm.seen p (zF zs) k 2)]) ∧ Below w.heap.size w w' := by
  have HS := Lib.hid hS
  have Hz := Lib.hid hz
  have Hb := Lib.hid (fun i b (hi : i < 3) (hb : b ≤ k) => seen_bd hp hs hi hb hk)
  clear hS hz hp hs
  go_enter Tryz.func57, Tryz.ntmps57
  have B1 : Cs (((w.alloc (.cells #[.slice E m ce, .slice L n cl] 120)).alloc (.cells #[.int .i64 0, .int .i64 0, .int .i64 0] 126)).alloc (.cells #[.int .i64 0, .int .i64 0, .int .i64 0] 126)) (w.heap.size + 1) #[.int .i64 0, .int .i64 0, .int .i64 0] := csA
  have B2 : Cs (((w.alloc (.cells #[.slice E m ce, .slice L n cl] 120)).alloc (.cells #[.int .i64 0, .int .i64 0, .int .i64 0] 126)).alloc (.cells #[.int .i64 0, .int .i64 0, .int .i64 0] 126)) (w.heap.size + 1 + 1) #[.int .i64 0, .int .i64 0, .int .i64 0] := csA
  have HB1 := Lib.hid B1
  have HB2 : Hid (Rx (((w.alloc (.cells #[.slice E m ce, .slice L n cl] 120)).alloc (.cells #[.int .i64 0, .int .i64 0, .int .i64 0] 126)).alloc (.cells #[.int .i64 0, .int .i64 0, .int .i64 0] 126)) (w.heap.size + 1 + 1) (accL p (zF zs) 0 0)) := Lib.hid ⟨B2.lt, fun q hq => by
    rw [accL_len] at hq
    rw [B2.c, accL_get _ _ _ _ hq]
    match q, hq with
    | 0, _ => rfl
    | 1, _ => rfl
    | 2, _ => rfl, B2.f⟩
  clear B1 B2
  go_wp2_with fail
  go_loopw [13] (fun s13 wx => ∃ (b : Nat) (W : World), b ≤ k ∧ s13 = .int .i64 (b : Nat) ∧ Hid (W = wx) ∧ Cs W (w.heap.size + 1) #[.int .i64 0, .int .i64 0, .int .i64 0] ∧ Hid (Rx W (w.heap.size + 1 + 1) (accL p (zF zs) b 0)) ∧ Below w.heap.size w W) (fun s13 _ => k - (intOf s13).toNat)
  case atStart => exact ⟨0, _, Nat.zero_le _, rfl, Lib.hid rfl, HB1.out, HB2, blA⟩
  case round =>
    clear HB1 HB2
    obtain ⟨b, W, hb, rfl, HW, B1, HX, hbw⟩ := hrel
    obtain rfl := HW.out
    clear HW
    by_cases hbk : b < k
    · have hbi : (b : Int) < (k : Int) := by omega
      obtain ⟨ab, ao, rfl, alt, c0⟩ := Hz.out.at0 hbw hbk
      obtain ⟨u, hu⟩ : ∃ u, zs.getD b 0 = u := ⟨_, rfl⟩
      rw [hu] at c0
      have Hu := Lib.hid hu
      clear hu
      go_wp2_with fail
      have HB1 := Lib.hid B1
      clear B1 c0
      go_loopw [18] (fun s18 wx => ∃ (i : Nat) (V : World), i ≤ 3 ∧ s18 = .int .i64 (i : Nat) ∧ Hid (V = wx) ∧ Cs V (w.heap.size + 1) #[.int .i64 0, .int .i64 0, .int .i64 0] ∧ Hid (Rx V (w.heap.size + 1 + 1) (accL p (zF zs) b i)) ∧ Below w.heap.size w V) (fun s18 _ => 3 - (intOf s18).toNat)
      case atStart => exact ⟨0, _, Nat.zero_le _, rfl, Lib.hid rfl, HB1.out, HX, blA⟩
      case round =>
        clear HB1 HX hbw
        obtain ⟨i, V, hi, rfl, HV, B1, HX, hbw⟩ := hrel
        obtain rfl := HV.out
        clear HV
        by_cases hi3 : i < 3
        · have hii : (i : Int) < 3 := by omega
          have hXi := HX.out.cell (k := i) (by rw [accL_len]; exact hi3)
          rw [accL_get _ _ _ _ hi3, if_neg (Nat.lt_irrefl i)] at hXi
          obtain ⟨a, ha⟩ : ∃ a, Mm.seen p (zF zs) b i = a := ⟨_, rfl⟩
          obtain ⟨pv, hpv⟩ : ∃ pv, p i b = pv := ⟨_, rfl⟩
          have hbd1 := (Hb.out i b hi3 (by omega)).1
          have hbd2 := (Hb.out i b hi3 (by omega)).2 hbk
          have hbd3 := (Hb.out i (b + 1) hi3 (by omega)).1
          have hset := accL_set p (zF zs) b hi3
          have hnx : Mm.seen p (zF zs) (b + 1) i = Mm.seen p (zF zs) b i + zF zs b * p i b := rfl
          have hzu : zF zs b = u := Hu.out
          have hcall := HS.out i b
          rw [hnx] at hbd3
          rw [hzu, hpv] at hbd2 hbd3 hset
          rw [ha] at hXi hbd1 hbd3 hset
          rw [hpv] at hcall
          obtain ⟨b1, b2⟩ := hbd1
          obtain ⟨b3, b4⟩ := hbd2
          obtain ⟨b5, b6⟩ := hbd3
          have Hset := Lib.hid hset
          have Hcall := Lib.hid (fun W => hcall W hi3 hbk)
          have hw1 : IntKind.i64.wrap (u * pv) = u * pv := IntWalk.i64_in _ (by omega)
          have hw2 : IntKind.i64.wrap (a + u * pv) = a + u * pv := IntWalk.i64_in _ (by omega)
          clear hset hnx hzu hcall ha hpv
          go_wp2_with fail
          refine wp_region_tree (S := fun _ => True) (.t 0 1 (.t 1 3 (.t 3 11 (.t 4 27 (.t 5 59 (.t 6 123 (.c 2 7 127 251 (.o 7 255 (.t 8 511 (.t 9 1023 (.t 10 2047 (.o 11 4095 .nil))))) (.t 8 507 (.o 2 511 (.t 9 1023 (.t 10 2047 (.o 11 4095 .nil)))))))))))) (by kernel_rfl) (by kernel_rfl) (by as_aux_lemma => kernel_rfl) (by kernel_rfl) (fun c a d v w h => by cases d <;> exact h) trivial (fun hHeld => ?_)
          clear hHeld
          have hX0 := HX.out.drew
          have hC0 : Cs V.drew (w.heap.size + 1) #[.int .i64 0, .int .i64 0, .int .i64 0] := csA
          have hb0 : Below w.heap.size w V.drew := blA
          replace hXi : V.drew.cell? ⟨w.heap.size + 1 + 1, i, none⟩ = some (.int .i64 a) := hXi
          clear HX B1 hbw
          generalize V.drew = V0 at *
          iterate 6 (refine tree_take (v := ?_) rfl (by rfl) ?_ ?_; rotate_left; focus (intro w9 hSw; (go_simp <;> with_reducible rfl)); try simp only [Act.put, List.setIfInBounds_toArray, List.set_cons_zero, List.set_cons_succ])
          refine tree_two ?_ ?_
          case' refine_1 =>
            refine tree_one rfl (fun K9 hS9 => ?_)
            go_simp
            refine hS9.out _ _ trivial (fun _ => ?_)
            clear hS9 K9
            try simp only [Act.put, List.setIfInBounds_toArray, List.set_cons_zero, List.set_cons_succ]
            refine tree_one rfl (fun K9 hS9 => ?_)
            go_simp
            refine (Hcall.out V0 hb0).mono ?_
            rintro e9 V1 ⟨rfl, hy⟩
            have hX1 := hX0.below hy
            have hC1 := hC0.keep hy
            have hb1 := hb0.trans (hy.mono hb0.size)
            have hXi1 : V1.cell? ⟨w.heap.size + 1 + 1, i, none⟩ = some (.int .i64 a) := (hy.cell (p := ⟨w.heap.size + 1 + 1, i, none⟩) hX0.lt).trans hXi
            refine hS9.out _ _ trivial (fun _ => ?_)
            clear hS9 K9 hX0 hC0 hb0 hy hXi
            try simp only [Act.put, List.setIfInBounds_toArray, List.set_cons_zero, List.set_cons_succ]
            iterate 1 (refine tree_take (v := ?_) rfl (by rfl) ?_ ?_; rotate_left; focus (intro w9 hSw; (go_simp <;> with_reducible rfl)); try simp only [Act.put, List.setIfInBounds_toArray, List.set_cons_zero, List.set_cons_succ])
          case' refine_2 =>
            refine tree_one rfl (fun K9 hS9 => ?_)
            go_simp
            refine (Hcall.out V0 hb0).mono ?_
            rintro e9 V1 ⟨rfl, hy⟩
            have hX1 := hX0.below hy
            have hC1 := hC0.keep hy
            have hb1 := hb0.trans (hy.mono hb0.size)
            have hXi1 : V1.cell? ⟨w.heap.size + 1 + 1, i, none⟩ = some (.int .i64 a) := (hy.cell (p := ⟨w.heap.size + 1 + 1, i, none⟩) hX0.lt).trans hXi
            refine hS9.out _ _ trivial (fun _ => ?_)
            clear hS9 K9 hX0 hC0 hb0 hy hXi
            try simp only [Act.put, List.setIfInBounds_toArray, List.set_cons_zero, List.set_cons_succ]
            iterate 1 (refine tree_take (v := ?_) rfl (by rfl) ?_ ?_; rotate_left; focus (intro w9 hSw; (go_simp <;> with_reducible rfl)); try simp only [Act.put, List.setIfInBounds_toArray, List.set_cons_zero, List.set_cons_succ])
            refine tree_one rfl (fun K9 hS9 => ?_)
            go_simp
            refine hS9.out _ _ trivial (fun _ => ?_)
            clear hS9 K9
            try simp only [Act.put, List.setIfInBounds_toArray, List.set_cons_zero, List.set_cons_succ]
          all_goals
            iterate 2 (refine tree_take (v := ?_) rfl (by rfl) ?_ ?_; rotate_left; focus (intro w9 hSw; (go_simp <;> with_reducible rfl)); try simp only [Act.put, List.setIfInBounds_toArray, List.set_cons_zero, List.set_cons_succ])
            have f1 := hX1.frozen i
            refine tree_one rfl (fun K9 hS9 => ?_)
            go_simp
            have hK : Rx (V1.setCell ⟨w.heap.size + 1 + 1, i, none⟩ (.int .i64 (a + u * pv))) (w.heap.size + 1 + 1) (accL p (zF zs) b (i + 1)) ∧ Cs (V1.setCell ⟨w.heap.size + 1 + 1, i, none⟩ (.int .i64 (a + u * pv))) (w.heap.size + 1) #[.int .i64 0, .int .i64 0, .int .i64 0] ∧ Below w.heap.size w (V1.setCell ⟨w.heap.size + 1 + 1, i, none⟩ (.int .i64 (a + u * pv))) :=
              ⟨by rw [← Hset.out]; exact hX1.set i _, hC1.other (p := ⟨w.heap.size + 1 + 1, i, none⟩) (by show w.heap.size + 1 ≠ w.heap.size + 1 + 1; omega) _, bset hb1 (p := ⟨w.heap.size + 1 + 1, i, none⟩) (by show w.heap.size ≤ w.heap.size + 1 + 1; omega) _⟩
            refine hS9.out _ _ trivial (fun _ => ?_)
            clear hS9 K9 f1 hXi1 hX1 hC1 hb1 Hset
            try simp only [Act.put, List.setIfInBounds_toArray, List.set_cons_zero, List.set_cons_succ]
            refine tree_done (fun U => Rx U (w.heap.size + 1 + 1) (accL p (zF zs) b (i + 1)) ∧ Cs U (w.heap.size + 1) #[.int .i64 0, .int .i64 0, .int .i64 0] ∧ Below w.heap.size w U) hK (fun U hU => ?_)
            clear hK
            obtain ⟨u1, u2, u3⟩ := hU
            have HU1 := Lib.hid u1
            clear u1
            go_wp2_with fail
            go_roundw
            case rel => exact ⟨i + 1, _, by omega, by go_num, Lib.hid rfl, u2, HU1, u3⟩
            case measure => simp [intOf]; omega
        · have hi3' : 3 ≤ i := by omega
          go_wp2_with fail
          go_roundw
          case rel => exact ⟨b + 1, _, by omega, by go_num, Lib.hid rfl, B1, Lib.hid (by rw [← accL_next _ _ _ hi3']; exact HX.out), hbw⟩
          case measure => simp [intOf]; omega
    · obtain rfl : b = k := by omega
      have hx0 := HX.out.cell (k := 0) (by rw [accL_len]; omega)
      have hx1 := HX.out.cell (k := 1) (by rw [accL_len]; omega)
      have hx2 := HX.out.cell (k := 2) (by rw [accL_len]; omega)
      rw [accL_get _ _ _ _ (by omega), if_neg (by omega)] at hx0 hx1 hx2
      obtain ⟨v0, hv0⟩ : ∃ v, Mm.seen p (zF zs) b 0 = v := ⟨_, rfl⟩
      obtain ⟨v1, hv1⟩ : ∃ v, Mm.seen p (zF zs) b 1 = v := ⟨_, rfl⟩
      obtain ⟨v2, hv2⟩ : ∃ v, Mm.seen p (zF zs) b 2 = v := ⟨_, rfl⟩
      rw [hv0] at hx0
      rw [hv1] at hx1
      rw [hv2] at hx2
      have HV0 := Lib.hid hv0
      have HV1 := Lib.hid hv1
      have HV2 := Lib.hid hv2
      clear hv0 hv1 hv2
      clear Hb HS HX
      have cB1 := B1.c
      have fB1 := B1.f
      have lB1 := B1.lt
      have D1 : Cs (((W.setCell ⟨w.heap.size + 1, 0, none⟩ (.int .i64 v0)).setCell ⟨w.heap.size + 1, 1, none⟩ (.int .i64 v1)).setCell ⟨w.heap.size + 1, 2, none⟩ (.int .i64 v2)) (w.heap.size + 1) #[.int .i64 v0, .int .i64 v1, .int .i64 v2] :=
        ((B1.set 0 _ (by simp)).set 1 _ (by simp)).set 2 _ (by simp)
      have hbF : Below w.heap.size w (((W.setCell ⟨w.heap.size + 1, 0, none⟩ (.int .i64 v0)).setCell ⟨w.heap.size + 1, 1, none⟩ (.int .i64 v1)).setCell ⟨w.heap.size + 1, 2, none⟩ (.int .i64 v2)) :=
        bset (bset (bset hbw (p := ⟨w.heap.size + 1, 0, none⟩) (by show w.heap.size ≤ w.heap.size + 1; omega) _) (p := ⟨w.heap.size + 1, 1, none⟩) (by show w.heap.size ≤ w.heap.size + 1; omega) _) (p := ⟨w.heap.size + 1, 2, none⟩) (by show w.heap.size ≤ w.heap.size + 1; omega) _
      have HD1 := Lib.hid D1
      have HbF := Lib.hid hbF
      clear D1 hbF
      go_wp2_with fail
      have D1 := HD1.out
      have cD1 := D1.c
      have fD1 := D1.f
      have lD1 := D1.lt
      exact bodyPost_ret (v := .agg #[.int .i64 v0, .int .i64 v1, .int .i64 v2]) (by simp [results, Tryz.results57, go_sem, cD1, fD1, lD1]) rfl ⟨by rw [HV0.out, HV1.out, HV2.out], HbF.out⟩

end Go.Proofs.YtlbjnkopbabcnaaGreatDoor
end
