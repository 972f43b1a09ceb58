/- PH7 -/
import Derived.Test.YtlbjnkopbabcnaaGreatDoorYP37
/- Walks of package atlas: codes, and what is seen. -/
section
namespace Go.Proofs.YtlbjnkopbabcnaaGreatDoor
open Go.RowKit Go.Shelf
set_option linter.unusedSimpArgs false
set_option linter.unusedVariables false

/-- a code in memory -/
def c4 (y : Nat → Int) : Array Value := #[.int .i64 (y 0), .int .i64 (y 1), .int .i64 (y 2), .int .i64 (y 3)]
theorem c4_get (y : Nat → Int) {i : Nat} (hi : i < 4) : (c4 y)[i]? = some (.int .i64 (y i)) := by
  match i, hi with
  | 0, _ => rfl
  | 1, _ => rfl
  | 2, _ => rfl
  | 3, _ => rfl
theorem c4_set {y y' : Nat → Int} {i : Nat} {v : Int} (hi : i < 4) (h : ∀ j, j < 4 → y' j = if j = i then v else y j) : (c4 y).setIfInBounds i (.int .i64 v) = c4 y' := by
  unfold c4
  rw [h 0 (by omega), h 1 (by omega), h 2 (by omega), h 3 (by omega)]
  match i, hi with
  | 0, _ => rfl
  | 1, _ => rfl
  | 2, _ => rfl
  | 3, _ => rfl
theorem c4_congr {y y' : Nat → Int} (h : ∀ j, j < 4 → y' j = y j) : c4 y' = c4 y := by
  unfold c4
  rw [h 0 (by omega), h 1 (by omega), h 2 (by omega), h 3 (by omega)]
def tnF (x : Nat → Int) (i j : Nat) : Int := if j < i then -(x j) else x j

/-- what turned hands back -/
def CodePost (y : Nat → Int) (w : World) (e : Ending) (w' : World) : Prop := e = .returned (.agg (c4 y)) ∧ Below w.heap.size w w'
set_option maxRecDepth 100000 in
set_option maxHeartbeats 4000000 in
theorem turned_ok (x : Nat → Int) (w : World) (hx : ∀ j, j < 4 → -1 ≤ x j ∧ x j ≤ 1) :
    Calls Tryz.prog 161 #[.agg (c4 x)] w (CodePost (fun j => -(x j)) w) := by
  have Hx := Lib.hid hx
  clear hx
  go_enter Tryz.func161, Tryz.ntmps161
  obtain ⟨W0, hW0⟩ : ∃ W0, (w.alloc (.cells (c4 x) 165)).alloc (.cells (c4 fun _ => 0) 165) = W0 := ⟨_, rfl⟩
  have HA : Hid (Cs W0 w.heap.size (c4 (tnF x 0))) := Lib.hid (by
    rw [← hW0, c4_congr (y := x) (y' := tnF x 0) (fun j _ => by unfold tnF; rw [if_neg (by omega)])]
    exact (Cs.new w _ (c4 x) _ rfl).alloc _)
  have HR : Hid (Cs W0 (w.heap.size + 1) (c4 fun _ => 0)) := Lib.hid (by rw [← hW0]; exact csA)
  have HW0 := Lib.hid hW0
  have hlt : w.heap.size + 1 < W0.heap.size := HR.out.lt
  have hb0 : Below w.heap.size w W0 := by rw [← hW0]; exact balloc (balloc (Below.refl _ _) _) _
  clear hW0
  go_wp2_with fail
  go_loopw [4] (fun s4 wx => ∃ (i : Nat) (W : World), i ≤ 4 ∧ s4 = .int .i64 (i : Nat) ∧ Hid (W = wx) ∧ Hid (Cs W w.heap.size (c4 (tnF x i))) ∧ Hid (Cs W (w.heap.size + 1) (c4 fun _ => 0)) ∧ Hid (Below w.heap.size w W)) (fun s4 _ => 4 - (intOf s4).toNat)
  case atStart => exact ⟨0, W0, Nat.zero_le _, rfl, HW0.out ▸ Lib.hid rfl, HA, HR, Lib.hid hb0⟩
  case round =>
    clear HA HR
    obtain ⟨i, W, hi, rfl, HW, HA, HR, HB⟩ := hrel
    obtain rfl := HW.out
    clear HW
    by_cases hi4 : i < 4
    · have hii : (i : Int) < 4 := by omega
      have cA := (HA.out.c i).trans (c4_get (tnF x i) hi4)
      have fA := HA.out.f i
      have lA := HA.out.lt
      have hb := Hx.out i hi4
      rw [show tnF x i i = x i by unfold tnF; rw [if_neg (by omega)]] at cA
      have H1 : Hid (Cs (W.setCell ⟨w.heap.size, i, none⟩ (.int .i64 (-(x i)))) w.heap.size (c4 (tnF x (i + 1)))) := Lib.hid (by
        have := HA.out.set i (.int .i64 (-(x i))) (by show i < 4; exact hi4)
        rw [c4_set (y' := tnF x (i + 1)) hi4 (fun j hj => by
          unfold tnF
          by_cases e : j = i
          · subst e; rw [if_pos (by omega), if_pos rfl]
          · rw [if_neg e]
            by_cases q : j < i
            · rw [if_pos (by omega), if_pos q]
            · rw [if_neg (by omega), if_neg q])] at this
        exact this)
      have H2 : Hid (Cs (W.setCell ⟨w.heap.size, i, none⟩ (.int .i64 (-(x i)))) (w.heap.size + 1) (c4 fun _ => 0)) := Lib.hid (HR.out.other (p := ⟨w.heap.size, i, none⟩) (by show w.heap.size + 1 ≠ w.heap.size; omega) _)
      have H3 : Hid (Below w.heap.size w (W.setCell ⟨w.heap.size, i, none⟩ (.int .i64 (-(x i))))) := Lib.hid (below_set HB.out (p := ⟨w.heap.size, i, none⟩) (Nat.le_refl _) _)
      generalize x i = v at *
      have hw : IntKind.i64.wrap (-v) = -v := IntWalk.i64_in _ (by omega)
      clear HA HR HB
      go_wp2_with fail
      go_roundw
      case rel => exact ⟨i + 1, _, by omega, by go_num, Lib.hid rfl, H1, H2, H3⟩
      case measure => simp [intOf]; omega
    · have hii : ¬ (i : Int) < 4 := by omega
      obtain rfl : i = 4 := by omega
      have d : ∀ j, j < 4 → W.cell? ⟨w.heap.size, j, none⟩ = some (.int .i64 (-(x j))) := fun j hj => by
        have := (HA.out.c j).trans (c4_get (tnF x 4) hj)
        rw [show tnF x 4 j = -(x j) by unfold tnF; rw [if_pos hj]] at this
        exact this
      have d0 := d 0 (by omega)
      have d1 := d 1 (by omega)
      have d2 := d 2 (by omega)
      have d3 := d 3 (by omega)
      have r0 := (HR.out.c 0).trans (c4_get (fun _ => 0) (show 0 < 4 by omega))
      have r1 := (HR.out.c 1).trans (c4_get (fun _ => 0) (show 1 < 4 by omega))
      have r2 := (HR.out.c 2).trans (c4_get (fun _ => 0) (show 2 < 4 by omega))
      have r3 := (HR.out.c 3).trans (c4_get (fun _ => 0) (show 3 < 4 by omega))
      have fR := HR.out.f
      have lR := HR.out.lt
      have D1 := (show Cs W (w.heap.size + 1) #[.int .i64 0, .int .i64 0, .int .i64 0, .int .i64 0] from HR.out).set4 (.int .i64 (-(x 0))) (.int .i64 (-(x 1))) (.int .i64 (-(x 2))) (.int .i64 (-(x 3)))
      have HD1 := Lib.hid D1
      clear d D1
      go_wp2_with fail
      have cD1 := HD1.out.c
      have fD1 := HD1.out.f
      have lD1 := HD1.out.lt
      exact bodyPost_ret (v := .agg #[.int .i64 (-(x 0)), .int .i64 (-(x 1)), .int .i64 (-(x 2)), .int .i64 (-(x 3))]) (by simp [results, Tryz.results161, go_sem, cD1, fD1, lD1]) rfl
        ⟨rfl, below_set (below_set (below_set (below_set HB.out (p := ⟨w.heap.size + 1, 0, none⟩) (by show w.heap.size ≤ w.heap.size + 1; omega) _) (p := ⟨w.heap.size + 1, 1, none⟩) (by show w.heap.size ≤ w.heap.size + 1; omega) _) (p := ⟨w.heap.size + 1, 2, none⟩) (by show w.heap.size ≤ w.heap.size + 1; omega) _) (p := ⟨w.heap.size + 1, 3, none⟩) (by show w.heap.size ≤ w.heap.size + 1; omega) _⟩

theorem cell4 {w : World} {p : Addr} {q : Nat} {x a b c d : Value} (hp : p.block ≠ q) (h : w.cell? p = some x) : ((((w.setCell ⟨q, 0, none⟩ a).setCell ⟨q, 1, none⟩ b).setCell ⟨q, 2, none⟩ c).setCell ⟨q, 3, none⟩ d).cell? p = some x := by
  have ne : ∀ o, (⟨q, o, none⟩ : Addr) ≠ p := fun o e => hp (by rw [← e])
  rw [World.cell?_setCell_other _ _ _ _ (ne 3), World.cell?_setCell_other _ _ _ _ (ne 2), World.cell?_setCell_other _ _ _ _ (ne 1), World.cell?_setCell_other _ _ _ _ (ne 0)]
  exact h
/-- what a page has of a chip -/
theorem Page.code {w : World} {P k : Nat} {R : Option Addr} {m cr : Nat} {rs : List (RowR Int)} (h : Page w P k R m cr rs) {cn r : Nat} (hc : cn < 39) (hr : r < 4) : w.cell? ⟨P, 2 + cn * 4 + r, none⟩ = some (.int .i64 (gC rs k m 0 (cn * 4 + r))) := by
  obtain ⟨arr, h1, h2⟩ := h
  have := (h1.c (2 + (cn * 4 + r))).trans (h2.c (cn * 4 + r) (by omega))
  rw [← Nat.add_assoc] at this
  exact this
/-- what is seen of a case in a comparison -/
def seV (rs : List (RowR Int)) (m cn : Nat) (s : Int) (r : Nat) : Int := if r < m then s * rcI rs r cn else 0
theorem gC_at (rs : List (RowR Int)) {k m cn r : Nat} (hc : cn < k) (hr : r < 4) : gC rs k m 0 (cn * 4 + r) = if r < m then rcI rs r cn else 0 := by
  unfold gC
  rw [show (cn * 4 + r) % 4 = r by omega, show (cn * 4 + r) / 4 = cn by omega]
  by_cases q : r < m
  · rw [if_pos (.inl ⟨q, hc⟩), if_pos q]
  · rw [if_neg (by omega), if_neg q]

set_option maxRecDepth 100000 in
set_option maxHeartbeats 4000000 in
theorem seen1_ok (P k : Nat) (R : Option Addr) (m cr : Nat) (rs : List (RowR Int)) (cn : Nat) (w : World) (hp : Page w P k R m cr rs) (hc : cn < k) (hk : k ≤ 39) :
    Calls Tryz.prog 86 #[.pointer (some ⟨P, 0, none⟩), .agg #[.int .i64 (cn : Nat), .int .i64 1]] w (CodePost (seV rs m cn 1) w) := by
  obtain ⟨y, hy⟩ : ∃ y : Nat → Int, (fun r => gC rs k m 0 (cn * 4 + r)) = y := ⟨_, rfl⟩
  have hyr : ∀ r, gC rs k m 0 (cn * 4 + r) = y r := fun r => congrFun hy r
  have hcy : c4 (seV rs m cn 1) = c4 y := c4_congr (fun r hr => by rw [← hyr r, gC_at rs hc hr]; unfold seV; split <;> simp)
  have Hcy := Lib.hid hcy
  go_enter Tryz.func86, Tryz.ntmps86
  obtain ⟨W0, hW0⟩ : ∃ W0, (w.alloc (.cells #[.int .i64 (cn : Nat), .int .i64 1] 88)).alloc (.cells #[.int .i64 0, .int .i64 0, .int .i64 0, .int .i64 0] 165) = W0 := ⟨_, rfl⟩
  have HC : Hid (Cs W0 w.heap.size #[.int .i64 (cn : Nat), .int .i64 1]) := Lib.hid (by rw [← hW0]; exact csA)
  have HR : Hid (Cs W0 (w.heap.size + 1) #[.int .i64 0, .int .i64 0, .int .i64 0, .int .i64 0]) := Lib.hid (by rw [← hW0]; exact csA)
  have HW0 := Lib.hid hW0
  have hb0 : Below w.heap.size w W0 := by rw [← hW0]; exact balloc (balloc (Below.refl _ _) _) _
  have HPW := Lib.hid (hp.keep hb0)
  clear hW0
  have hS0 : (fun U : World => U.cell? ⟨w.heap.size, 0, none⟩ = some (.int .i64 (cn : Nat)) ∧ U.cell? ⟨P, 2 + cn * 4, none⟩ = some (.int .i64 (y 0)) ∧ U.cell? ⟨P, 2 + cn * 4 + 1, none⟩ = some (.int .i64 (y 1)) ∧ U.cell? ⟨P, 2 + cn * 4 + 2, none⟩ = some (.int .i64 (y 2)) ∧ U.cell? ⟨P, 2 + cn * 4 + 3, none⟩ = some (.int .i64 (y 3))) W0.drew := ⟨HC.out.c 0, by have := HPW.out.code (cn := cn) (r := 0) (by omega) (by omega); rw [hyr] at this; exact this, by have := HPW.out.code (cn := cn) (r := 1) (by omega) (by omega); rw [hyr] at this; exact this, by have := HPW.out.code (cn := cn) (r := 2) (by omega) (by omega); rw [hyr] at this; exact this, by have := HPW.out.code (cn := cn) (r := 3) (by omega) (by omega); rw [hyr] at this; exact this⟩
  have hP : P < w.heap.size := by obtain ⟨arr, h1, -⟩ := hp; exact h1.lt
  have hcn : (cn : Int) < 39 := by omega
  have hcn0 : (0 : Int) ≤ (cn : Int) := by omega
  clear hp HPW hy hyr hcy
  have HS0 := Lib.hid hS0
  clear hS0
  go_wp2_with fail
  rw [HW0.out]
  refine wp_region_tree (S := fun U : World => U.cell? ⟨w.heap.size, 0, none⟩ = some (.int .i64 (cn : Nat)) ∧ U.cell? ⟨P, 2 + cn * 4, none⟩ = some (.int .i64 (y 0)) ∧ U.cell? ⟨P, 2 + cn * 4 + 1, none⟩ = some (.int .i64 (y 1)) ∧ U.cell? ⟨P, 2 + cn * 4 + 2, none⟩ = some (.int .i64 (y 2)) ∧ U.cell? ⟨P, 2 + cn * 4 + 3, none⟩ = some (.int .i64 (y 3))) (.t 0 1 (.t 1 3 (.t 2 7 (.t 3 15 (.t 4 31 (.t 5 63 (.t 6 127 (.o 7 255 .nil)))))))) (by kernel_rfl) (by kernel_rfl) (by as_aux_lemma => kernel_rfl) (by kernel_rfl) (fun c a d v w h => by cases d <;> exact h) HS0.out (fun hHeld => ?_)
  clear hHeld
  iterate 7 (refine tree_take (v := ?_) rfl (by rfl) ?_ ?_; rotate_left; (focus (intro w9 hSw; obtain ⟨s1, s2, s3, s4, s5⟩ := hSw; (go_simp <;> with_reducible rfl))); try simp only [Act.put, List.setIfInBounds_toArray, List.set_cons_zero, List.set_cons_succ])
  have HV0 : Hid (Below w.heap.size w W0.drew) := Lib.hid (Below.drew hb0)
  have HR5 := Lib.hid (HR.out.drew)
  generalize W0.drew = V0 at *
  have r0 := HR5.out.c 0
  have r1 := HR5.out.c 1
  have r2 := HR5.out.c 2
  have r3 := HR5.out.c 3
  have fR := HR5.out.f
  have lR := HR5.out.lt
  have HD1 := Lib.hid (HR5.out.set4 (.int .i64 (y 0)) (.int .i64 (y 1)) (.int .i64 (y 2)) (.int .i64 (y 3)))
  refine tree_one rfl (fun K9 hS9 => ?_)
  go_simp
  have hS2 := HS0.out
  refine hS9.out _ _ ⟨cell4 (by show w.heap.size ≠ w.heap.size + 1; omega) hS2.1, cell4 (by show P ≠ w.heap.size + 1; omega) hS2.2.1, cell4 (by show P ≠ w.heap.size + 1; omega) hS2.2.2.1, cell4 (by show P ≠ w.heap.size + 1; omega) hS2.2.2.2.1, cell4 (by show P ≠ w.heap.size + 1; omega) hS2.2.2.2.2⟩ (fun _ => ?_)
  clear hS9 K9 r0 r1 r2 r3 fR lR hS2
  try simp only [Act.put, List.setIfInBounds_toArray, List.set_cons_zero, List.set_cons_succ]
  have HB9 : Hid (Below w.heap.size w ((((V0.setCell ⟨w.heap.size + 1, 0, none⟩ (.int .i64 (y 0))).setCell ⟨w.heap.size + 1, 1, none⟩ (.int .i64 (y 1))).setCell ⟨w.heap.size + 1, 2, none⟩ (.int .i64 (y 2))).setCell ⟨w.heap.size + 1, 3, none⟩ (.int .i64 (y 3)))) := Lib.hid (below_set (below_set (below_set (below_set HV0.out (p := ⟨w.heap.size + 1, 0, none⟩) (by show w.heap.size ≤ w.heap.size + 1; omega) _) (p := ⟨w.heap.size + 1, 1, none⟩) (by show w.heap.size ≤ w.heap.size + 1; omega) _) (p := ⟨w.heap.size + 1, 2, none⟩) (by show w.heap.size ≤ w.heap.size + 1; omega) _) (p := ⟨w.heap.size + 1, 3, none⟩) (by show w.heap.size ≤ w.heap.size + 1; omega) _)
  refine tree_done (fun U => (((V0.setCell ⟨w.heap.size + 1, 0, none⟩ (.int .i64 (y 0))).setCell ⟨w.heap.size + 1, 1, none⟩ (.int .i64 (y 1))).setCell ⟨w.heap.size + 1, 2, none⟩ (.int .i64 (y 2))).setCell ⟨w.heap.size + 1, 3, none⟩ (.int .i64 (y 3)) = U) rfl (fun U hU => ?_)
  subst hU
  have cD1 := HD1.out.c
  have fD1 := HD1.out.f
  have lD1 := HD1.out.lt
  go_wp2_with fail
  exact bodyPost_ret (v := .agg #[.int .i64 (y 0), .int .i64 (y 1), .int .i64 (y 2), .int .i64 (y 3)]) (by simp [results, Tryz.results86, go_sem, cD1, fD1, lD1]) rfl ⟨by rw [Hcy.out]; rfl, HB9.out⟩
set_option maxRecDepth 100000 in
set_option maxHeartbeats 4000000 in
theorem seenM_ok (P k : Nat) (R : Option Addr) (m cr : Nat) (rs : List (RowR Int)) (cn : Nat) (w : World) (hp : Page w P k R m cr rs) (hc : cn < k) (hk : k ≤ 39) (hr : ∀ r, r < m → -1 ≤ rcI rs r cn ∧ rcI rs r cn ≤ 1) :
    Calls Tryz.prog 86 #[.pointer (some ⟨P, 0, none⟩), .agg #[.int .i64 (cn : Nat), .int .i64 (-1)]] w (CodePost (seV rs m cn (-1)) w) := by
  obtain ⟨y, hy⟩ : ∃ y : Nat → Int, (fun r => gC rs k m 0 (cn * 4 + r)) = y := ⟨_, rfl⟩
  have hyr : ∀ r, gC rs k m 0 (cn * 4 + r) = y r := fun r => congrFun hy r
  have hcy : c4 (seV rs m cn (-1)) = c4 (fun r => -(y r)) := c4_congr (fun r hr => by rw [← hyr r, gC_at rs hc hr]; unfold seV; split <;> simp)
  have Hcy := Lib.hid hcy
  have hyb : ∀ j, j < 4 → -1 ≤ y j ∧ y j ≤ 1 := fun j hj => by
    rw [← hyr j, gC_at rs hc hj]
    split
    · rename_i q; exact hr j q
    · omega
  have HT := Lib.hid (fun (V : World) => turned_ok y V hyb)
  clear hyb hr
  go_enter Tryz.func86, Tryz.ntmps86
  obtain ⟨W0, hW0⟩ : ∃ W0, (w.alloc (.cells #[.int .i64 (cn : Nat), .int .i64 (-1)] 88)).alloc (.cells #[.int .i64 0, .int .i64 0, .int .i64 0, .int .i64 0] 165) = W0 := ⟨_, rfl⟩
  have HC : Hid (Cs W0 w.heap.size #[.int .i64 (cn : Nat), .int .i64 (-1)]) := Lib.hid (by rw [← hW0]; exact csA)
  have HR : Hid (Cs W0 (w.heap.size + 1) #[.int .i64 0, .int .i64 0, .int .i64 0, .int .i64 0]) := Lib.hid (by rw [← hW0]; exact csA)
  have HW0 := Lib.hid hW0
  have hb0 : Below w.heap.size w W0 := by rw [← hW0]; exact balloc (balloc (Below.refl _ _) _) _
  have HPW := Lib.hid (hp.keep hb0)
  clear hW0
  have hS0 : (fun U : World => U.cell? ⟨w.heap.size, 0, none⟩ = some (.int .i64 (cn : Nat)) ∧ U.cell? ⟨P, 2 + cn * 4, none⟩ = some (.int .i64 (y 0)) ∧ U.cell? ⟨P, 2 + cn * 4 + 1, none⟩ = some (.int .i64 (y 1)) ∧ U.cell? ⟨P, 2 + cn * 4 + 2, none⟩ = some (.int .i64 (y 2)) ∧ U.cell? ⟨P, 2 + cn * 4 + 3, none⟩ = some (.int .i64 (y 3))) W0.drew := ⟨HC.out.c 0, by have := HPW.out.code (cn := cn) (r := 0) (by omega) (by omega); rw [hyr] at this; exact this, by have := HPW.out.code (cn := cn) (r := 1) (by omega) (by omega); rw [hyr] at this; exact this, by have := HPW.out.code (cn := cn) (r := 2) (by omega) (by omega); rw [hyr] at this; exact this, by have := HPW.out.code (cn := cn) (r := 3) (by omega) (by omega); rw [hyr] at this; exact this⟩
  have hP : P < w.heap.size := by obtain ⟨arr, h1, -⟩ := hp; exact h1.lt
  have hcn : (cn : Int) < 39 := by omega
  have hcn0 : (0 : Int) ≤ (cn : Int) := by omega
  clear hp HPW hy hyr hcy
  have HS0 := Lib.hid hS0
  clear hS0
  go_wp2_with fail
  rw [HW0.out]
  refine wp_region_tree (S := fun U : World => U.cell? ⟨w.heap.size, 0, none⟩ = some (.int .i64 (cn : Nat)) ∧ U.cell? ⟨P, 2 + cn * 4, none⟩ = some (.int .i64 (y 0)) ∧ U.cell? ⟨P, 2 + cn * 4 + 1, none⟩ = some (.int .i64 (y 1)) ∧ U.cell? ⟨P, 2 + cn * 4 + 2, none⟩ = some (.int .i64 (y 2)) ∧ U.cell? ⟨P, 2 + cn * 4 + 3, none⟩ = some (.int .i64 (y 3))) (.t 0 1 (.t 1 3 (.t 2 7 (.t 3 15 (.t 4 31 (.t 5 63 (.t 6 127 (.o 7 255 (.o 8 511 .nil))))))))) (by kernel_rfl) (by kernel_rfl) (by as_aux_lemma => kernel_rfl) (by kernel_rfl) (fun c a d v w h => by cases d <;> exact h) HS0.out (fun hHeld => ?_)
  clear hHeld
  iterate 7 (refine tree_take (v := ?_) rfl (by rfl) ?_ ?_; rotate_left; (focus (intro w9 hSw; obtain ⟨s1, s2, s3, s4, s5⟩ := hSw; (go_simp <;> with_reducible rfl))); try simp only [Act.put, List.setIfInBounds_toArray, List.set_cons_zero, List.set_cons_succ])
  have HV0 : Hid (Below w.heap.size w W0.drew) := Lib.hid (Below.drew hb0)
  have HR4 := Lib.hid (HR.out.drew)
  have hPW : P < W0.drew.heap.size := Nat.lt_of_lt_of_le hP HV0.out.size
  have hCW : w.heap.size < W0.drew.heap.size := HC.out.drew.lt
  generalize W0.drew = V0 at *
  refine tree_one rfl (fun K9 hS9 => ?_)
  go_simp
  refine (HT.out V0).mono ?_
  rintro e9 V1 ⟨he, hy⟩
  rw [show c4 (fun j => -(y j)) = #[.int .i64 (-(y 0)), .int .i64 (-(y 1)), .int .i64 (-(y 2)), .int .i64 (-(y 3))] from rfl] at he
  subst he
  have hS1 := HS0.out
  have HS1 := Lib.hid (show (fun U : World => U.cell? ⟨w.heap.size, 0, none⟩ = some (.int .i64 (cn : Nat)) ∧ U.cell? ⟨P, 2 + cn * 4, none⟩ = some (.int .i64 (y 0)) ∧ U.cell? ⟨P, 2 + cn * 4 + 1, none⟩ = some (.int .i64 (y 1)) ∧ U.cell? ⟨P, 2 + cn * 4 + 2, none⟩ = some (.int .i64 (y 2)) ∧ U.cell? ⟨P, 2 + cn * 4 + 3, none⟩ = some (.int .i64 (y 3))) V1 from ⟨(hy.cell (p := ⟨w.heap.size, 0, none⟩) hCW).trans hS1.1, (hy.cell (p := ⟨P, 2 + cn * 4, none⟩) hPW).trans hS1.2.1, (hy.cell (p := ⟨P, 2 + cn * 4 + 1, none⟩) hPW).trans hS1.2.2.1, (hy.cell (p := ⟨P, 2 + cn * 4 + 2, none⟩) hPW).trans hS1.2.2.2.1, (hy.cell (p := ⟨P, 2 + cn * 4 + 3, none⟩) hPW).trans hS1.2.2.2.2⟩)
  refine hS9.out _ _ HS1.out (fun _ => ?_)
  have HR5 := Lib.hid (HR4.out.keep hy)
  have HV1 := Lib.hid (HV0.out.trans (hy.mono HV0.out.size))
  clear hS9 K9 hS1 hy HS0 HR4
  try simp only [Act.put, List.setIfInBounds_toArray, List.set_cons_zero, List.set_cons_succ]
  have r0 := HR5.out.c 0
  have r1 := HR5.out.c 1
  have r2 := HR5.out.c 2
  have r3 := HR5.out.c 3
  have fR := HR5.out.f
  have lR := HR5.out.lt
  have HD1 := Lib.hid (HR5.out.set4 (.int .i64 (-(y 0))) (.int .i64 (-(y 1))) (.int .i64 (-(y 2))) (.int .i64 (-(y 3))))
  refine tree_one rfl (fun K9 hS9 => ?_)
  go_simp
  have hS2 := HS1.out
  refine hS9.out _ _ ⟨cell4 (by show w.heap.size ≠ w.heap.size + 1; omega) hS2.1, cell4 (by show P ≠ w.heap.size + 1; omega) hS2.2.1, cell4 (by show P ≠ w.heap.size + 1; omega) hS2.2.2.1, cell4 (by show P ≠ w.heap.size + 1; omega) hS2.2.2.2.1, cell4 (by show P ≠ w.heap.size + 1; omega) hS2.2.2.2.2⟩ (fun _ => ?_)
  clear hS9 K9 r0 r1 r2 r3 fR lR hS2
  try simp only [Act.put, List.setIfInBounds_toArray, List.set_cons_zero, List.set_cons_succ]
  have HB9 : Hid (Below w.heap.size w ((((V1.setCell ⟨w.heap.size + 1, 0, none⟩ (.int .i64 (-(y 0)))).setCell ⟨w.heap.size + 1, 1, none⟩ (.int .i64 (-(y 1)))).setCell ⟨w.heap.size + 1, 2, none⟩ (.int .i64 (-(y 2)))).setCell ⟨w.heap.size + 1, 3, none⟩ (.int .i64 (-(y 3))))) := Lib.hid (below_set (below_set (below_set (below_set HV1.out (p := ⟨w.heap.size + 1, 0, none⟩) (by show w.heap.size ≤ w.heap.size + 1; omega) _) (p := ⟨w.heap.size + 1, 1, none⟩) (by show w.heap.size ≤ w.heap.size + 1; omega) _) (p := ⟨w.heap.size + 1, 2, none⟩) (by show w.heap.size ≤ w.heap.size + 1; omega) _) (p := ⟨w.heap.size + 1, 3, none⟩) (by show w.heap.size ≤ w.heap.size + 1; omega) _)
  refine tree_done (fun U => (((V1.setCell ⟨w.heap.size + 1, 0, none⟩ (.int .i64 (-(y 0)))).setCell ⟨w.heap.size + 1, 1, none⟩ (.int .i64 (-(y 1)))).setCell ⟨w.heap.size + 1, 2, none⟩ (.int .i64 (-(y 2)))).setCell ⟨w.heap.size + 1, 3, none⟩ (.int .i64 (-(y 3))) = U) rfl (fun U hU => ?_)
  subst hU
  have cD1 := HD1.out.c
  have fD1 := HD1.out.f
  have lD1 := HD1.out.lt
  go_wp2_with fail
  exact bodyPost_ret (v := .agg #[.int .i64 (-(y 0)), .int .i64 (-(y 1)), .int .i64 (-(y 2)), .int .i64 (-(y 3))]) (by simp [results, Tryz.results86, go_sem, cD1, fD1, lD1]) rfl ⟨by rw [Hcy.out]; rfl, HB9.out⟩

set_option maxRecDepth 100000 in
set_option maxHeartbeats 4000000 in
theorem seen0_ok (P : Nat) (w : World) (hP : P < w.heap.size) :
    Calls Tryz.prog 86 #[.pointer (some ⟨P, 0, none⟩), .agg #[.int .i64 0, .int .i64 0]] w (CodePost (fun _ => 0) w) := by
  go_enter Tryz.func86, Tryz.ntmps86
  obtain ⟨W0, hW0⟩ : ∃ W0, (w.alloc (.cells #[.int .i64 0, .int .i64 0] 88)).alloc (.cells #[.int .i64 0, .int .i64 0, .int .i64 0, .int .i64 0] 165) = W0 := ⟨_, rfl⟩
  have HR : Hid (Cs W0 (w.heap.size + 1) #[.int .i64 0, .int .i64 0, .int .i64 0, .int .i64 0]) := Lib.hid (by rw [← hW0]; exact csA)
  have HW0 := Lib.hid hW0
  have hb0 : Below w.heap.size w W0 := by rw [← hW0]; exact balloc (balloc (Below.refl _ _) _) _
  have HB := Lib.hid hb0
  clear hW0 hb0
  go_wp2_with fail
  rw [HW0.out]
  have cD1 := HR.out.c
  have fD1 := HR.out.f
  have lD1 := HR.out.lt
  exact bodyPost_ret (v := .agg #[.int .i64 0, .int .i64 0, .int .i64 0, .int .i64 0]) (by simp [results, Tryz.results86, go_sem, cD1, fD1, lD1]) rfl ⟨rfl, HB.out⟩

/-- an append of a part of a block -/
theorem list_appM {T e : TypeId} {z : Value} {s by_ : Nat} (hT : ElemT T e z s by_) {ops : Array Oper} {rest : List Oper} {o : Oper} {a : Act} {w : World} {Q : Exit → Act → World → Prop}
    (hg : o.guard = none) (sl x : Operand) (hop : o.op = Op.call { callee := Callee.builtin Builtin.append, args := #[sl, x], argTypes := #[T, T] })
    (B n : Nat) (v : Value) (xs : List Value) (hs : a.eval sl = v) (hown : w.ownsRow B e s v n xs)
    (b k : Nat) (news : List Value) (hx : a.eval x = .slice (some ⟨b, 0, none⟩) k k) (hl : news.length = k * s) (hy : ∀ j u, news[j]? = some u → w.cell? ⟨b, j, none⟩ = some u) (h1 : ∀ u ∈ news, u.oneCell' = true) (hk10 : k ≤ 10) (hn : n ≤ 5000) (hB : B ≤ w.heap.size)
    (hK : ∀ v' w', w'.ownsRow B e s v' (n + k) (xs ++ news) → w.grownBy w' v.ownBlock → wpList Tryz.prog ops Q rest (a.put o.dst v') w') :
    wpList Tryz.prog ops Q (o :: rest) a w := by
  obtain ⟨hu, hinf, hzc, hs0, hby⟩ := hT
  obtain ⟨i0, hi0, hzz⟩ := Option.map_eq_some_iff.1 hinf
  simp only [Prod.mk.injEq] at hzz
  obtain ⟨hz0, hz1, hz2⟩ := hzz
  have hnews : ∀ j u, news[j]? = some u → w.cell? ((⟨b, 0, none⟩ : Addr).add j) = some u := by
    intro j u hj
    rw [Go.WideShapes.add_plain, Nat.zero_add]
    exact hy j u hj
  have hbb : (n + k) * by_ ≤ 6000 * 32 := Nat.mul_le_mul (by omega) hby
  obtain ⟨v', w', hr, ho, hgr, hnil⟩ := run_append_own (P := Tryz.prog) w B T o.type e i0 z s by_ hu hi0 hz0 hz1 hz2 hzc hs0 v n _ hown ⟨b, 0, none⟩ k k news hl hnews h1 (by unfold maxLen; omega) (by omega) hB
  refine wpList_plain hg fun K hK' => ?_
  unfold Oper.wp execOp
  simp only [hop, resolve, invoke, builtin, Sem.run_bind, Sem.run_pure, Result.andThen_ok, List.map_toArray, List.map_cons, List.map_nil, hs, hx, hr]
  exact hK' _ _ (hK v' w' ho hgr)

/-- what is seen of a case -/
def seeL (rs : List (RowR Int)) (m : Nat) (c s : Int) : List Int := (List.range m).map fun r => s * rcI rs r c.toNat
def SeePost (rs : List (RowR Int)) (m : Nat) (c s : Int) (w : World) (e : Ending) (w' : World) : Prop := ∃ A c', e = .returned (.tuple #[.slice A m c', .int .i64 0]) ∧ Ints w' A m (seeL rs m c s) ∧ Below w.heap.size w w'
theorem prs_one {w : World} {g : Nat} {x y : Int} (h : Cs w g #[.int .i64 x, .int .i64 y]) : Prs w (some ⟨g, 0, none⟩) 1 [(x, y)] :=
  ⟨rfl, fun _ => ⟨g, 0, rfl, h.lt, fun i a b hi => by
    match i, hi with
    | 0, hi => simp at hi; obtain ⟨rfl, rfl⟩ := hi; exact ⟨h.c 0, h.c 1⟩
    | i + 1, hi => simp at hi⟩⟩
/-- what a page sees of a case -/
theorem pageSeen_ok (P k : Nat) (R : Option Addr) (m cr : Nat) (rs : List (RowR Int)) (c s : Int) (w : World) (hp : Page w P k R m cr rs) (hP : PlanOk k m rs) (hc : IsCs k c s) :
    Calls Tryz.prog 86 #[.pointer (some ⟨P, 0, none⟩), .agg #[.int .i64 c, .int .i64 s]] w (CodePost (seV rs m c.toNat s) w) := by
  have hk1 := hP.k1
  rcases hc with ⟨rfl, rfl⟩ | ⟨h1, h2, h3⟩
  · have e : c4 (seV rs m (0 : Int).toNat 0) = c4 (fun _ => 0) := c4_congr (fun j _ => by unfold seV; split <;> simp)
    have := seen0_ok P w (by obtain ⟨arr, h1, -⟩ := hp; exact h1.lt)
    unfold CodePost at this ⊢
    rw [e]
    exact this
  · obtain ⟨cn, rfl⟩ : ∃ cn : Nat, c = (cn : Int) := ⟨c.toNat, by omega⟩
    rw [Int.toNat_natCast]
    rcases h3 with rfl | rfl
    · exact seenM_ok P k R m cr rs cn w hp (by omega) hP.k39 (fun r hr => hP.rng r hr cn (by omega))
    · exact seen1_ok P k R m cr rs cn w hp (by omega) hP.k39

set_option maxRecDepth 100000 in
set_option maxHeartbeats 4000000 in
theorem see_ok (k : Nat) (R : Option Addr) (m cr : Nat) (rs : List (RowR Int)) (c s : Int) (w : World) (h : RowsI w R m rs) (hP : PlanOk k m rs) (hc : IsCs k c s) :
    Calls Tryz.prog 38 #[.agg #[.int .i64 (k : Nat), .slice R m cr], .agg #[.int .i64 c, .int .i64 s]] w (SeePost rs m c s w) := by
  have kp := fun (V : World) (A : Option Addr) (hV : Below w.heap.size w V) (hC : Prs V A 1 [(c, s)]) => newPage_ok k R m cr rs A 1 1 [(c, s)] V (h.below hV) hP hC (by omega) (fun x hx => by simp at hx; subst hx; exact hc)
  have kse := fun (V : World) (P : Nat) (hp : Page V P k R m cr rs) => pageSeen_ok P k R m cr rs c s V hp hP hc
  have hm4 := hP.m4
  have hL : ∀ j u, ((seeL rs m c s).map (Value.int .i64))[j]? = some u → j < m ∧ u = .int .i64 (seV rs m c.toNat s j) := fun j u hj => by
    unfold seeL at hj
    rw [List.getElem?_map, List.getElem?_map] at hj
    have hjm : j < m := by
      rcases Nat.lt_or_ge j m with q | q
      · exact q
      · rw [List.getElem?_eq_none (by simpa using q)] at hj; simp at hj
    rw [List.getElem?_range hjm] at hj
    simp at hj
    exact ⟨hjm, by rw [← hj]; unfold seV; rw [if_pos hjm]⟩
  obtain ⟨y, hy⟩ : ∃ y, seV rs m c.toNat s = y := ⟨_, rfl⟩
  rw [hy] at kse hL
  have HL := Lib.hid hL
  have hlL : (seeL rs m c s).length = m := by simp [seeL]
  have HlL := Lib.hid hlL
  clear h hP hc hy hL hlL
  go_enter Tryz.func38, Tryz.ntmps38
  go_wp2_with fail
  refine (kp _ _ blA (prs_one csA)).mono ?_
  rintro e w1 ⟨P, rfl, hPg, hge, hb1⟩
  have B0 : Cs w1 w.heap.size #[.int .i64 (k : Nat), .slice R m cr] := Cs.keep csA hb1
  have B1 : Cs w1 (w.heap.size + 1) #[.int .i64 c, .int .i64 s] := Cs.keep csA hb1
  have hbw : Below w.heap.size w w1 := blA
  have cB0 := B0.c
  have cB1 := B1.c
  clear hb1 kp
  go_wp2_with fail
  refine (kse w1 P hPg).mono ?_
  rintro e w2 ⟨he, hb2⟩
  rw [show c4 y = #[.int .i64 (y 0), .int .i64 (y 1), .int .i64 (y 2), .int .i64 (y 3)] from rfl] at he
  subst he
  replace B0 := B0.keep hb2
  have hbw2 : Below w.heap.size w w2 := hbw.trans (hb2.mono hbw.size)
  clear cB0 cB1 B1 hb2 kse hPg hge hbw
  have cB0 := B0.c
  have lB0 := B0.lt
  go_upto_region 5 with fail
  obtain ⟨W4, hW4⟩ : ∃ W4, w2.alloc (.cells #[.int .i64 (y 0), .int .i64 (y 1), .int .i64 (y 2), .int .i64 (y 3)] 165) = W4 := ⟨_, rfl⟩
  have BC : Cs W4 w2.heap.size (c4 y) := by rw [← hW4]; exact Cs.new w2 _ (c4 y) _ rfl
  have B4 : Cs W4 w.heap.size #[.int .i64 (k : Nat), .slice R m cr] := by rw [← hW4]; exact B0.alloc _
  have hb4 : Below w.heap.size w W4 := by rw [← hW4]; exact balloc hbw2 _
  rw [hW4]
  clear hW4 cB0 lB0 B0 hbw2
  have cB0 := B4.c
  have lB0 := B4.lt
  have HOe := World.ownsRow_lit (base := W4.heap.size) (size := 1) (e := 3) W4 #[] 0 (Nat.le_refl _) (by unfold maxLen; omega) rfl
  have hmi : (0 : Int) ≤ (m : Int) := by omega
  have hm4i : (m : Int) ≤ 4 := by omega
  have Hb4 := Lib.hid hb4
  have HBC := Lib.hid BC
  have hwl := hb4.size
  clear hb4 BC
  go_wp2_with (at_builtin; refine list_appM elInt rfl _ _ rfl W4.heap.size 0 _ [] (by rfl) HOe w2.heap.size m ((seeL rs m c s).map (Value.int .i64)) (by rfl) (by simp [HlL.out]) (fun j u hj => by obtain ⟨h1, h2⟩ := HL.out j u hj; subst h2; exact ((HBC.out.alloc _).c j).trans (c4_get y (by omega))) (by intro u hu; obtain ⟨z, -, rfl⟩ := List.mem_map.1 hu; rfl) (by omega) (by omega) (by simp) ?_; intro v6 w6 hO6 hb6)
  rw [Nat.zero_add, List.nil_append] at hO6
  obtain ⟨A6, c6, rfl, hI6, -⟩ := own_ints HlL.out hO6
  have HI6 := Lib.hid hI6
  have HB6 := Lib.hid (Hb4.out.trans (((balloc (Below.refl _ W4) _).trans (below_grewB hb6 (fun g e => (HOe.lt g e).1) (by simp))).mono hwl))
  clear hO6 hb6 hI6 HOe
  go_wp2_with fail
  exact bodyPost_ret (v := .tuple #[.slice A6 m c6, .int .i64 0]) (by simp [results, Tryz.results38, go_sem]) rfl ⟨A6, c6, rfl, HI6.out, HB6.out⟩
end Go.Proofs.YtlbjnkopbabcnaaGreatDoor
end
