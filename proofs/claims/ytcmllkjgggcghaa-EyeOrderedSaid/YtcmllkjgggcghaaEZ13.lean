/- EF1 EF2 EF3 -/
import Derived.Test.YtcmllkjgggcghaaEZ12
import Derived.Test.YtcmllkjgggcghaaEZ10
import Derived.Test.YtcmllkjgggcghaaEZ07
import Derived.BigQuiet
import Derived.Laws.IdiomCopy
import Derived.Test.YtcmllkjgggcghaaEZ11
/- Walks of package eye: Best, whatever is handed in. -/
section
namespace Go.Proofs.Ytcmllkjgggcghaa
open Go.RowKit Go.Shelf
set_option linter.unusedSimpArgs false
set_option linter.unusedVariables false

theorem RetLRE.nil {w w' : World} {er : Int} {e : Ending} (h : e = .returned (.tuple #[.slice none 0 0, .agg #[.int .i64 0, .int .i64 0], .int .i64 er])) (hb : Below w.heap.size w w') : RetLRE [] (0, 0) er w e w' :=
  ⟨none, 0, 0, h, Ints.nil _ _, hb⟩

set_option maxHeartbeats 1000000 in
theorem best_bad (A : Option Addr) (n c : Nat) (zs : List Pl) (most : Int) (w : World) (hz : Plates w A n zs) (hn : n ≤ 9223372036854775807) (ht : testE zs ≠ 0) :
    Calls Try.prog 20 #[.slice A n c, .int .i64 most] w (RetLRE [] (0, 0) (testE zs) w) := by
  have kn := fun (W : World) (hb : Below w.heap.size w W) => newTest_bad A n c zs W (hz.below hb) hn ht
  have h0 : (testE zs == 0) = false := by simp [ht]
  have h1 : (testE zs != 0) = true := by simp [ht]
  generalize testE zs = e at *
  clear ht hz
  go_enter Try.func20, Try.ntmps20
  go_wp2_with fail
  go_step3
  go_wp2_with fail
  refine (kn _ blA).mono ?_
  rintro _ w1 ⟨rfl, hb1⟩
  replace B0 : Cs w1 (w.heap.size) #[.int .i64 0, .int .i64 0] := Cs.keep csA hb1
  replace hbw : Below w.heap.size w w1 := blA
  replace cB0 := B0.c
  replace fB0 := B0.f
  replace lB0 := B0.lt
  clear hb1
  clear kn
  go_wp2_with fail
  have B1 : Cs _ w.heap.size #[.int .i64 0, .int .i64 0] := B0.set2 (.int .i64 0) (.int .i64 0)
  have cB1 := B1.c
  have hbF := bset2 hbw (Nat.le_refl w.heap.size) (.int .i64 0) (.int .i64 0)
  try rw [Exit.noGoto_ret]
  exact bodyPost_ret (v := .tuple #[.slice none 0 0, .agg #[.int .i64 0, .int .i64 0], .int .i64 e]) (by simp [results, Try.results20, go_sem, cB0, fB0, lB0, cB1]) rfl (RetLRE.nil rfl hbF)

set_option maxHeartbeats 1000000 in
theorem best_neg (A : Option Addr) (n c : Nat) (zs : List Pl) (most : Int) (w : World) (hz : Plates w A n zs) (hn : n ≤ 9223372036854775807) (ht : testE zs = 0) (hm : most < 0) :
    Calls Try.prog 20 #[.slice A n c, .int .i64 most] w (RetLRE [] (0, 0) 3 w) := by
  have kn := fun (W : World) (hb : Below w.heap.size w W) => newTest_ok A n c zs W (hz.below hb) hn ht
  clear ht hz
  go_enter Try.func20, Try.ntmps20
  go_wp2_with fail
  go_step3
  go_wp2_with fail
  refine (kn _ blA).mono ?_
  rintro _ w1 ⟨g, rfl, hgw, Bg, hb1⟩
  replace B0 : Cs w1 (w.heap.size) #[.int .i64 0, .int .i64 0] := Cs.keep csA hb1
  replace hbw : Below w.heap.size w w1 := blA
  replace cB0 := B0.c
  replace fB0 := B0.f
  replace lB0 := B0.lt
  clear hb1
  clear kn
  go_wp2_with fail
  have B1 : Cs _ w.heap.size #[.int .i64 0, .int .i64 0] := B0.set2 (.int .i64 0) (.int .i64 0)
  have cB1 := B1.c
  have hbF := bset2 hbw (Nat.le_refl w.heap.size) (.int .i64 0) (.int .i64 0)
  try rw [Exit.noGoto_ret]
  exact bodyPost_ret (v := .tuple #[.slice none 0 0, .agg #[.int .i64 0, .int .i64 0], .int .i64 3]) (by simp [results, Try.results20, go_sem, cB0, fB0, lB0, cB1]) rfl (RetLRE.nil rfl hbF)

/-- what Best answers -/
def RetBest (zs : List Pl) (n : Nat) (most : Int) (w : World) (e : Ending) (w' : World) : Prop :=
  if testE zs ≠ 0 then RetLRE [] (0, 0) (testE zs) w e w' else if most < 0 then RetLRE [] (0, 0) 3 w e w' else ∃ t, IsBest (ocG zs n) (ocE zs n) (manyT zs) most t ∧ RetLRE (regL zs n t (manyT zs)) t 0 w e w'

theorem best_any (A : Option Addr) (n c : Nat) (zs : List Pl) (most : Int) (w : World) (hz : Plates w A n zs) (hn : n ≤ 9223372036854775807) (hm : most ≤ 9223372036854775807) :
    Calls Try.prog 20 #[.slice A n c, .int .i64 most] w (RetBest zs n most w) := by
  by_cases ht : testE zs = 0
  · have hl := hz.1
    obtain ⟨t1, t2, _⟩ := testE_ok ht
    by_cases h0 : most < 0
    · rw [show RetBest zs n most w = RetLRE [] (0, 0) 3 w by funext e w'; simp [RetBest, ht, h0]]
      exact best_neg A n c zs most w hz hn ht h0
    · rw [show RetBest zs n most w = fun e w' => ∃ t, IsBest (ocG zs n) (ocE zs n) (manyT zs) most t ∧ RetLRE (regL zs n t (manyT zs)) t 0 w e w' by funext e w'; simp [RetBest, ht, h0]]
      exact best_ok A n c zs most w hz (by omega) ht (by omega) hm
  · rw [show RetBest zs n most w = RetLRE [] (0, 0) (testE zs) w by funext e w'; simp [RetBest, ht]]
    exact best_bad A n c zs most w hz hn ht

end Go.Proofs.Ytcmllkjgggcghaa
end

/- Walks of package eye: Odds. -/
section
namespace Go.Proofs.Ytcmllkjgggcghaa
open Go.RowKit Go.Shelf
set_option linter.unusedSimpArgs false
set_option linter.unusedVariables false

/-- the odds and the error that are handed back -/
def RetOE (r : (Int × Int) × Int) : Ending := .returned (.tuple #[.agg #[.int .i64 r.1.1, .int .i64 r.1.2], .int .i64 r.2])

/-- given answers as digits -/
def gfun (ds : List Int) (i : Nat) : Nat := (ds.getD i 0).toNat

/-- answers that the plates have -/
def fitB (zs : List Pl) (ds : List Int) : Bool := (List.range zs.length).all fun i => decide (0 ≤ ds.getD i 0) && decide (ds.getD i 0 < ((plAt zs i).gn : Nat))

/-- what Odds answers -/
def oddsP (zs : List Pl) (n : Nat) (ds : List Int) : (Int × Int) × Int :=
  if testE zs ≠ 0 then ((0, 0), testE zs) else if ds.length ≠ zs.length then ((0, 0), 15) else if fitB zs ds then ((oddG zs (gfun ds) n, oddE zs (gfun ds) n), 0) else ((0, 0), 3)

set_option maxHeartbeats 1000000 in
theorem eodds_bad (A B : Option Addr) (n c N C : Nat) (zs : List Pl) (w : World) (hz : Plates w A n zs) (hn : n ≤ 9223372036854775807) (ht : testE zs ≠ 0) :
    Calls Try.prog 36 #[.slice A n c, .slice B N C] w fun e w' => e = RetOE ((0, 0), testE zs) ∧ Below w.heap.size w w' := by
  have kn := fun (W : World) (hb : Below w.heap.size w W) => newTest_bad A n c zs W (hz.below hb) hn ht
  have h0 : (testE zs == 0) = false := by simp [ht]
  have h1 : (testE zs != 0) = true := by simp [ht]
  unfold RetOE
  generalize testE zs = e at *
  clear ht hz
  go_enter Try.func36, Try.ntmps36
  go_wp2_with fail
  refine (kn _ blA).mono ?_
  rintro _ w1 ⟨rfl, hb1⟩
  replace B0 : Cs w1 (w.heap.size) #[.int .i64 0, .int .i64 0] := Cs.keep csA hb1
  replace hbw : Below w.heap.size w w1 := blA
  replace cB0 := B0.c
  replace fB0 := B0.f
  replace lB0 := B0.lt
  clear hb1
  clear kn
  go_wp2_with fail
  have B1 : Cs _ w.heap.size #[.int .i64 0, .int .i64 0] := B0.set2 (.int .i64 0) (.int .i64 0)
  have cB1 := B1.c
  have hbF := bset2 hbw (Nat.le_refl w.heap.size) (.int .i64 0) (.int .i64 0)
  exact bodyPost_ret (v := .tuple #[.agg #[.int .i64 0, .int .i64 0], .int .i64 e]) (by simp [results, Try.results36, go_sem, cB0, fB0, lB0, cB1]) rfl ⟨rfl, hbF⟩

set_option maxHeartbeats 1000000 in
theorem eodds_len (A B : Option Addr) (n c N C : Nat) (zs : List Pl) (w : World) (hz : Plates w A n zs) (hn : n ≤ 9223372036854775807) (ht : testE zs = 0) (hN : N ≠ n) :
    Calls Try.prog 36 #[.slice A n c, .slice B N C] w fun e w' => e = RetOE ((0, 0), 15) ∧ Below w.heap.size w w' := by
  have kn := fun (W : World) (hb : Below w.heap.size w W) => newTest_ok A n c zs W (hz.below hb) hn ht
  have h0 : ((N : Int) == (n : Int)) = false := by simp; omega
  have h1 : ((N : Int) != (n : Int)) = true := by simp; omega
  unfold RetOE
  clear ht hz
  go_enter Try.func36, Try.ntmps36
  go_wp2_with fail
  refine (kn _ blA).mono ?_
  rintro _ w1 ⟨g, rfl, hgw, Bg, hb1⟩
  replace B0 : Cs w1 (w.heap.size) #[.int .i64 0, .int .i64 0] := Cs.keep csA hb1
  replace hbw : Below w.heap.size w w1 := blA
  replace cB0 := B0.c
  replace fB0 := B0.f
  replace lB0 := B0.lt
  clear hb1
  clear kn
  go_wp2_with fail
  have B1 : Cs _ w.heap.size #[.int .i64 0, .int .i64 0] := B0.set2 (.int .i64 0) (.int .i64 0)
  have cB1 := B1.c
  have hbF := bset2 hbw (Nat.le_refl w.heap.size) (.int .i64 0) (.int .i64 0)
  exact bodyPost_ret (v := .tuple #[.agg #[.int .i64 0, .int .i64 0], .int .i64 15]) (by simp [results, Try.results36, go_sem, cB0, fB0, lB0, cB1]) rfl ⟨rfl, hbF⟩

theorem bsetCells {w : World} {g : Nat} (hg : w.heap.size ≤ g) : ∀ (vs : List Value) (o : Nat) (W : World), Below w.heap.size w W → Below w.heap.size w (W.setCells g o vs)
  | [], _, _, h => h
  | v :: r, o, W, h => bsetCells hg r (o + 1) _ (bset h (p := ⟨g, o, none⟩) hg v)
theorem size_setCells (g : Nat) : ∀ (vs : List Value) (o : Nat) (W : World), (W.setCells g o vs).heap.size = W.heap.size
  | [], _, _ => rfl
  | v :: r, o, W => (size_setCells g r (o + 1) _).trans (by simp [World.setCell])
theorem turns_setCells {O : Nat → Prop} {g : Nat} (hg : O g) : ∀ (vs : List Value) (o : Nat) (W : World), Turns O W (W.setCells g o vs)
  | [], _, _ => Turns.refl _ _
  | v :: r, o, W => (Turns.setCell (p := ⟨g, o, none⟩) v hg).trans (turns_setCells hg r (o + 1) _)

/-- an array of answers, as whole numbers -/
def ansI (d : Nat → Int) : Array Value := #[.int .i64 (d 0), .int .i64 (d 1), .int .i64 (d 2), .int .i64 (d 3), .int .i64 (d 4), .int .i64 (d 5)]
theorem ansI_get (d : Nat → Int) : ∀ k, k < 6 → (ansI d)[k]? = some (.int .i64 (d k))
  | 0, _ => rfl | 1, _ => rfl | 2, _ => rfl | 3, _ => rfl | 4, _ => rfl | 5, _ => rfl
  | _ + 6, h => absurd h (by omega)
theorem ansI_out (d : Nat → Int) (k : Nat) (h : 6 ≤ k) : (ansI d)[k]? = none := by simp [ansI, h]
theorem ansI_ans {d : Nat → Int} {f : Nat → Nat} (h : ∀ i, i < 6 → d i = (f i : Nat)) : ansI d = ans f := by
  simp only [ansI, ans, h 0 (by omega), h 1 (by omega), h 2 (by omega), h 3 (by omega), h 4 (by omega), h 5 (by omega)]

theorem fit_gfun {zs : List Pl} {n : Nat} {ds : List Int} (hl : zs.length = n) (h : ∀ i, i < n → 0 ≤ ds.getD i 0 ∧ ds.getD i 0 < ((plAt zs i).gn : Nat)) : Fit zs (gfun ds) :=
  fit_of_lt hl fun i hi => by have := h i hi; unfold gfun; omega

theorem fitB_iff {zs : List Pl} {n : Nat} {ds : List Int} (hl : zs.length = n) : fitB zs ds = true ↔ ∀ i, i < n → 0 ≤ ds.getD i 0 ∧ ds.getD i 0 < ((plAt zs i).gn : Nat) := by
  unfold fitB
  rw [hl]
  simp only [List.all_eq_true, List.mem_range, Bool.and_eq_true, decide_eq_true_eq]

set_option maxRecDepth 10000 in
set_option maxHeartbeats 2000000 in
theorem eodds_ok (A B : Option Addr) (n c C : Nat) (zs : List Pl) (ds : List Int) (w : World) (hz : Plates w A n zs) (hn : n ≤ 9223372036854775807) (ht : testE zs = 0) (hd : Ints w B n ds) :
    Calls Try.prog 36 #[.slice A n c, .slice B n C] w fun e w' => e = RetOE (if fitB zs ds then ((oddG zs (gfun ds) n, oddE zs (gfun ds) n), 0) else ((0, 0), 3)) ∧ Below w.heap.size w w' := by
  have kn := fun (W : World) (hb : Below w.heap.size w W) => newTest_ok A n c zs W (hz.below hb) hn ht
  obtain ⟨t1, t2, hg⟩ := testE_ok ht
  have hl := hz.1
  have n1 : 1 ≤ n := by omega
  have n6 : n ≤ 6 := by omega
  obtain ⟨bb, oo, rfl, hbb, hcc⟩ := hd.2 (by omega)
  have hdl := hd.1
  have hcopy : ∀ (W : World) (b8 : Nat) (ty : TypeId), Below w.heap.size w W → Cs W b8 (ansI fun _ => 0) → (Builtin.copy_ #[23, 23] ty #[.slice (some ⟨b8, 0, none⟩) 6 6, .slice (some ⟨bb, oo, none⟩) n C]).run Try.prog W = .ok (.int .i64 (n : Nat)) (W.setCells b8 0 (ds.map (Value.int .i64))) := by
    intro W b8 ty hb hB
    have := run_copy_cells (P := Try.prog) W 23 23 ty 3 b8 0 6 6 ⟨bb, oo, none⟩ n C (ds.map (Value.int .i64)) (by kernel_rfl) (by kernel_rfl) (by rw [List.length_map, hdl]; exact (Nat.min_eq_left n6).symm) (by
      intro j v hj
      rw [List.getElem?_map] at hj
      obtain ⟨x, hx, rfl⟩ := Option.map_eq_some_iff.1 hj
      have hjn : j < n := by rw [← hdl]; exact (List.getElem?_eq_some_iff.1 hx).1
      have h1 := (hb.cell (p := ⟨bb, oo + j, none⟩) hbb).trans (hcc j hjn)
      rw [List.getD_eq_getElem?_getD, hx] at h1
      rw [show (⟨bb, oo, none⟩ : Addr).add j = ⟨bb, oo + j, none⟩ by unfold Addr.add; split <;> simp_all]
      exact h1) (by
      intro j hj
      have hj6 : j < 6 := by simp [hdl] at hj; omega
      rw [Nat.zero_add, hB.c j, ansI_get _ j hj6]; rfl) (fun j hj => hB.f _) (by
      intro v hv
      obtain ⟨x, _, rfl⟩ := List.mem_map.1 hv
      rfl)
    rw [this]
    simp [hdl, goInt]
  have hafter : ∀ (W : World) (b8 : Nat), Cs W b8 (ansI fun _ => 0) → Cs (W.setCells b8 0 (ds.map (Value.int .i64))) b8 (ansI fun i => ds.getD i 0) := by
    intro W b8 hB
    refine ⟨by rw [size_setCells]; exact hB.lt, fun i => ?_, fun i => by rw [World.frozen?_setCells]; exact hB.f i⟩
    rcases Nat.lt_or_ge i n with hi | hi
    · have := World.cell?_setCells_in b8 (ds.map (Value.int .i64)) 0 W (fun j hj => by
        have hj6 : j < 6 := by simp [hdl] at hj; omega
        rw [Nat.zero_add, hB.c j, ansI_get _ j hj6]; rfl) i (by simp [hdl]; exact hi)
      rw [Nat.zero_add] at this
      rw [this, ansI_get _ i (by omega), List.getElem_map, List.getD_eq_getElem?_getD, List.getElem?_eq_getElem (by omega)]
      rfl
    · rw [World.cell?_setCells_out b8 _ 0 W ⟨b8, i, none⟩ (fun _ _ => .inr (by simp [hdl]; exact hi)), hB.c i]
      rcases Nat.lt_or_ge i 6 with h6 | h6
      · rw [ansI_get _ i h6, ansI_get _ i h6, List.getD_eq_getElem?_getD, List.getElem?_eq_none (by omega)]
        rfl
      · rw [ansI_out _ i h6, ansI_out _ i h6]
  have ko := fun (W : World) (g : Nat) (hb : Below w.heap.size w W) (hf : Fit zs (gfun ds)) (hB : Cs W g #[.slice A n c, .int .i64 (manyT zs : Nat)]) => odds_any A n c (manyT zs) g zs (gfun ds) W (hz.below hb) n6 hg hf hB
  have Hz := Lib.hid hz
  have Hg := Lib.hid hg
  have Hfb := Lib.hid (fitB_iff (ds := ds) hl)
  have Hfg := Lib.hid (fit_gfun (ds := ds) hl)
  obtain ⟨R, hR⟩ : ∃ R : (Int × Int) × Int, (if fitB zs ds then ((oddG zs (gfun ds) n, oddE zs (gfun ds) n), 0) else ((0, 0), 3)) = R := ⟨_, rfl⟩
  rw [hR]
  have HR := Lib.hid hR
  have Hcopy := Lib.hid hcopy
  have Hafter := Lib.hid hafter
  have Hko := Lib.hid ko
  unfold RetOE
  clear hz hg ht hd hcc hR hcopy hafter ko t1 t2
  go_enter Try.func36, Try.ntmps36
  go_wp2_with fail
  refine (kn _ blA).mono ?_
  rintro _ w1 ⟨g, rfl, hgw, Bg, hb1⟩
  replace B0 : Cs w1 (w.heap.size) #[.int .i64 0, .int .i64 0] := Cs.keep csA hb1
  replace hbw : Below w.heap.size w w1 := blA
  replace cB0 := B0.c
  replace fB0 := B0.f
  replace lB0 := B0.lt
  clear hb1
  clear kn
  have hgw2 : w.heap.size + 1 ≤ g := by simpa using hgw
  have hglt := Bg.lt
  have hbA := balloc hbw (.cells #[.int .i64 0, .int .i64 0, .int .i64 0, .int .i64 0, .int .i64 0, .int .i64 0] 101)
  have BA : Cs (w1.alloc (.cells #[.int .i64 0, .int .i64 0, .int .i64 0, .int .i64 0, .int .i64 0, .int .i64 0] 101)) w1.heap.size (ansI fun _ => 0) := Cs.new w1 _ _ _ rfl
  have hco := fun ty => Hcopy.out _ _ ty hbA BA
  have B8 := Hafter.out _ _ BA
  have hbC := bsetCells (g := w1.heap.size) hbw.size (ds.map (Value.int .i64)) 0 _ hbA
  have T8 := turns_setCells (O := fun i => i = w1.heap.size) (g := w1.heap.size) rfl (ds.map (Value.int .i64)) 0 (w1.alloc (.cells #[.int .i64 0, .int .i64 0, .int .i64 0, .int .i64 0, .int .i64 0, .int .i64 0] 101))
  have Bg8 := (Bg.alloc (.cells #[.int .i64 0, .int .i64 0, .int .i64 0, .int .i64 0, .int .i64 0, .int .i64 0] 101)).turns T8 (by omega)
  have h0lt := B0.lt
  have B08 := (B0.alloc (.cells #[.int .i64 0, .int .i64 0, .int .i64 0, .int .i64 0, .int .i64 0, .int .i64 0] 101)).turns T8 (by omega)
  have HB8 := Lib.hid B8
  have HbC := Lib.hid hbC
  have HBg8 := Lib.hid Bg8
  have HB08 := Lib.hid B08
  clear hgw BA hbA B8 hbC Bg8 B08 T8 Bg
  go_upto_region 8 with fail
  generalize (w1.alloc (.cells #[.int .i64 0, .int .i64 0, .int .i64 0, .int .i64 0, .int .i64 0, .int .i64 0] 101)).setCells w1.heap.size 0 (ds.map (Value.int .i64)) = W8 at *
  have hs1 : w.heap.size ≤ w1.heap.size := hbw.size
  clear hco hbw B0 cB0 fB0 lB0
  obtain ⟨d, hd⟩ : ∃ d : Nat → Int, (fun i => ds.getD i 0) = d := ⟨_, rfl⟩
  have hd' : ∀ i, ds.getD i 0 = d i := fun i => congrFun hd i
  have HB8' : Hid (Cs W8 w1.heap.size (ansI d)) := Lib.hid (by rw [← hd]; exact HB8.out)
  have Hd := Lib.hid hd'
  clear hd hd' HB8
  generalize w1.heap.size = b8 at *
  have h0b : w.heap.size ≠ b8 := by omega
  go_wp2_with fail
  go_loopw [31] (fun s31 wx => ∃ (k : Nat) (W : World), k ≤ n ∧ s31 = .int .i64 (k : Nat) ∧ Hid (W = wx) ∧ Hid (∀ i, i < k → 0 ≤ d i ∧ d i < ((plAt zs i).gn : Nat)) ∧ Cs W b8 (ansI d) ∧ Cs W w.heap.size #[.int .i64 0, .int .i64 0] ∧ Cs W g #[.slice A n c, .int .i64 (manyT zs : Nat)] ∧ Below w.heap.size w W) (fun s31 _ => n - (intOf s31).toNat)
  case atStart => exact ⟨0, _, Nat.zero_le _, rfl, Lib.hid rfl, Lib.hid (fun i hi => absurd hi (by omega)), HB8'.out, HB08.out, HBg8.out, HbC.out⟩
  case round =>
    clear HB8' HB08 HBg8 HbC
    obtain ⟨k, W, hk, rfl, HW, Hpre, B8, B0, Bg, hbw⟩ := hrel
    obtain rfl := HW.out
    clear HW
    by_cases hkn : k < n
    · have hkI : (k : Int) < (n : Int) := by omega
      obtain ⟨b, off, p, rfl, hget, c0, c1⟩ := Hz.out.at_ hbw hkn
      have hmem := List.mem_of_getElem? hget
      have g4 := (Hg.out p hmem).g4
      have hpa := plAt_eq hget
      have i0 : (0 : Int) ≤ (k : Int) := by omega
      have i6 : (k : Int) < 6 := by omega
      have hgn : (p.gn : Int) ≤ 4 := by omega
      have ca : ∀ o : Obj, (W.alloc o).cell? ⟨b8, k, none⟩ = some (.int .i64 (d k)) := fun o => by rw [(B8.alloc o).c k, ansI_get _ k (by omega)]
      have hb8l := B8.lt
      have Hpre2 : Hid ((0 ≤ d k ∧ d k < (p.gn : Nat)) → ∀ i, i < k + 1 → 0 ≤ d i ∧ d i < ((plAt zs i).gn : Nat)) := Lib.hid (fun h i hi => by
        by_cases e : i = k
        · subst e; rw [hpa]; exact h
        · exact Hpre.out i (by omega))
      have Hbad : Hid (¬ (0 ≤ d k ∧ d k < (p.gn : Nat)) → R = ((0, 0), 3)) := Lib.hid (fun h => by
        rw [← HR.out, if_neg]
        rw [Hfb.out]
        intro h2
        have := h2 k hkn
        rw [Hd.out, hpa] at this
        exact h this)
      clear hget hmem hpa Hpre
      obtain ⟨gA, gn, gc, gs, eA, en, ec, es⟩ := p
      dsimp only at *
      by_cases q1 : d k < 0
      · replace Hbad : Hid (R = ((0, 0), 3)) := Lib.hid (Hbad.out (by omega))
        clear Hpre2 Hfb Hfg Hko
        have cB0 := B0.c
        have fB0 := B0.f
        have lB0 := B0.lt
        go_wp2_with fail
        go_quiet (fail)
        go_wp2_with fail
        have F0 := ((B0.alloc (.cells #[.slice gA gn gc, .slice eA en ec] 73)).drewN nq).set2 (.int .i64 0) (.int .i64 0)
        have cF := F0.c
        have hbF := bset2 (bdrewN (balloc hbw (.cells #[.slice gA gn gc, .slice eA en ec] 73)) nq) (Nat.le_refl w.heap.size) (.int .i64 0) (.int .i64 0)
        exact bodyPost_ret (v := .tuple #[.agg #[.int .i64 0, .int .i64 0], .int .i64 3]) (by simp [results, Try.results36, go_sem, cF]) rfl ⟨by rw [Hbad.out], hbF⟩
      · by_cases q2 : d k < (gn : Int)
        · replace Hpre2 := Lib.hid (Hpre2.out ⟨by omega, q2⟩)
          clear Hbad
          go_wp2_with fail
          go_quiet (fail)
          go_wp2_with fail
          go_roundw
          case rel => exact ⟨k + 1, _, by omega, by go_num, Lib.hid rfl, Hpre2, csA, csA, csA, blA⟩
          case measure => simp [intOf]; omega
        · replace Hbad : Hid (R = ((0, 0), 3)) := Lib.hid (Hbad.out (fun h => q2 h.2))
          clear Hpre2 Hfb Hfg Hko
          have cB0 := B0.c
          have fB0 := B0.f
          have lB0 := B0.lt
          go_wp2_with fail
          go_quiet (fail)
          go_wp2_with fail
          have F0 := ((B0.alloc (.cells #[.slice gA gn gc, .slice eA en ec] 73)).drewN nq).set2 (.int .i64 0) (.int .i64 0)
          have cF := F0.c
          have hbF := bset2 (bdrewN (balloc hbw (.cells #[.slice gA gn gc, .slice eA en ec] 73)) nq) (Nat.le_refl w.heap.size) (.int .i64 0) (.int .i64 0)
          exact bodyPost_ret (v := .tuple #[.agg #[.int .i64 0, .int .i64 0], .int .i64 3]) (by simp [results, Try.results36, go_sem, cF]) rfl ⟨by rw [Hbad.out], hbF⟩
    · obtain rfl : k = n := by omega
      have hall : ∀ i, i < k → 0 ≤ ds.getD i 0 ∧ ds.getD i 0 < ((plAt zs i).gn : Nat) := fun i hi => by rw [Hd.out]; exact Hpre.out i hi
      have HR2 : Hid (R = ((oddG zs (gfun ds) k, oddE zs (gfun ds) k), 0)) := Lib.hid (by rw [← HR.out, if_pos (Hfb.out.2 hall)])
      have e1 : ansI d = ans (gfun ds) := ansI_ans (fun i hi => by
        rcases Nat.lt_or_ge i k with h | h
        · have := (hall i h).1
          rw [Hd.out] at this
          unfold gfun
          rw [Hd.out]; omega
        · unfold gfun
          rw [← Hd.out, List.getD_eq_getElem?_getD, List.getElem?_eq_none (by omega)]; rfl)
      rw [e1] at B8
      have ko := Hko.out W g hbw (Hfg.out hall) Bg
      have e2 : ans (gfun ds) = #[.int .i64 (gfun ds 0 : Nat), .int .i64 (gfun ds 1 : Nat), .int .i64 (gfun ds 2 : Nat), .int .i64 (gfun ds 3 : Nat), .int .i64 (gfun ds 4 : Nat), .int .i64 (gfun ds 5 : Nat)] := rfl
      rw [e2] at B8 ko
      clear e1 e2 Hpre hall Hfb Hfg Hko
      generalize oddG zs (gfun ds) k = x at *
      generalize oddE zs (gfun ds) k = y at *
      have cB8 := B8.c
      have fB8 := B8.f
      have lB8 := B8.lt
      go_wp2_with fail
      refine ko.mono ?_
      rintro _ w9 ⟨rfl, hb9⟩
      have D0 : Cs w9 w.heap.size #[.int .i64 0, .int .i64 0] := Cs.keep csA hb9
      have hbw9 : Below w.heap.size w w9 := blA
      clear ko
      have cD0 := D0.c
      have fD0 := D0.f
      have lD0 := D0.lt
      go_wp2_with fail
      have F0 := D0.set2 (.int .i64 x) (.int .i64 y)
      have cF := F0.c
      have hbF := bset2 hbw9 (Nat.le_refl w.heap.size) (.int .i64 x) (.int .i64 y)
      exact bodyPost_ret (v := .tuple #[.agg #[.int .i64 x, .int .i64 y], .int .i64 0]) (by simp [results, Try.results36, go_sem, cF]) rfl ⟨by rw [HR2.out], hbF⟩

theorem eodds_any (A B : Option Addr) (n c N C : Nat) (zs : List Pl) (ds : List Int) (w : World) (hz : Plates w A n zs) (hn : n ≤ 9223372036854775807) (hd : Ints w B N ds) :
    Calls Try.prog 36 #[.slice A n c, .slice B N C] w fun e w' => e = RetOE (oddsP zs n ds) ∧ Below w.heap.size w w' := by
  by_cases ht : testE zs = 0
  · by_cases hN : N = n
    · subst hN
      rw [show oddsP zs N ds = if fitB zs ds then ((oddG zs (gfun ds) N, oddE zs (gfun ds) N), 0) else ((0, 0), 3) by simp [oddsP, ht, hd.1, hz.1]]
      exact eodds_ok A B N c C zs ds w hz hn ht hd
    · rw [show oddsP zs n ds = ((0, 0), 15) by simp [oddsP, ht, hd.1, hz.1, hN]]
      exact eodds_len A B n c N C zs w hz hn ht hN
  · rw [show oddsP zs n ds = ((0, 0), testE zs) by simp [oddsP, ht]]
    exact eodds_bad A B n c N C zs w hz hn ht

end Go.Proofs.Ytcmllkjgggcghaa
end

/- Walks of package eye: sets of outcomes; a list that is copied. -/
section
namespace Go.Proofs.Ytcmllkjgggcghaa
open Go.RowKit Go.Shelf
set_option linter.unusedSimpArgs false
set_option linter.unusedVariables false

theorem riseB_lt : ∀ (l : Int) (ks : List Int), riseB l ks = true → ∀ i, i < ks.length → l < ks.getD i 0
  | _, [], _, i, h => by simp at h
  | l, x :: xs, h, 0, _ => by simp [riseB] at h; simpa using h.1
  | l, x :: xs, h, i + 1, hi => by
    simp [riseB] at h
    have := riseB_lt x xs h.2 i (by simpa using hi)
    simp at this ⊢; omega
theorem riseB_inc : ∀ (l : Int) (ks : List Int), riseB l ks = true → ∀ i j, i < j → j < ks.length → ks.getD i 0 < ks.getD j 0
  | _, [], _, i, j, _, h => by simp at h
  | l, x :: xs, h, 0, j + 1, _, hj => by
    simp [riseB] at h
    have := riseB_lt x xs h.2 j (by simpa using hj)
    simpa using this
  | l, x :: xs, h, i + 1, j + 1, hij, hj => by
    simp [riseB] at h
    have := riseB_inc x xs h.2 i j (by omega) (by simpa using hj)
    simpa using this
theorem riseB_of : ∀ (l : Int) (ks : List Int), (∀ i, i < ks.length → l < ks.getD i 0) → (∀ i, i + 1 < ks.length → ks.getD i 0 < ks.getD (i + 1) 0) → riseB l ks = true
  | _, [], _, _ => rfl
  | l, x :: xs, h, h2 => by
    simp only [riseB, Bool.and_eq_true, decide_eq_true_eq]
    refine ⟨by simpa using h 0 (by simp), riseB_of x xs (fun i hi => ?_) (fun i hi => by simpa using h2 (i + 1) (by simpa using hi))⟩
    induction i with
    | zero => simpa using h2 0 (by simpa using hi)
    | succ i ih =>
      have a := ih (by omega)
      have b := h2 (i + 1) (by simpa using hi)
      simp at a b ⊢; omega

/-- a valid set -/
structure SetOk (m : Nat) (ks : List Int) : Prop where
  len : ks.length ≤ m
  rng : ∀ i, i < ks.length → 0 ≤ ks.getD i 0 ∧ ks.getD i 0 < (m : Int)
  inc : ∀ i j, i < j → j < ks.length → ks.getD i 0 < ks.getD j 0

theorem setE_ok {m : Nat} {ks : List Int} (h : setE m ks = 0) : SetOk m ks := by
  unfold setE at h
  by_cases h1 : m < ks.length
  · rw [if_pos h1] at h; omega
  · rw [if_neg h1] at h
    by_cases h2 : ks.any (outK m) = true
    · rw [if_pos h2] at h; omega
    · rw [if_neg h2] at h
      by_cases h3 : riseB (-1) ks = true
      · refine ⟨by omega, fun i hi => ?_, riseB_inc _ _ h3⟩
        have h4 : outK m (ks.getD i 0) = false := by
          cases h5 : outK m (ks.getD i 0) with
          | false => rfl
          | true =>
            exfalso
            apply h2
            refine List.any_eq_true.2 ⟨ks.getD i 0, ?_, h5⟩
            rw [List.getD_eq_getElem?_getD, List.getElem?_eq_getElem hi]
            exact List.getElem_mem hi
        unfold outK at h4
        simp only [Bool.or_eq_false_iff, decide_eq_false_iff_not] at h4
        omega
      · rw [if_neg h3] at h; omega

/-- where one stands in a set that rises: what is ahead is less than k, what is left is not -/
structure StandsAt (ks : List Int) (j k : Nat) : Prop where
  le : j ≤ ks.length
  lo : ∀ i, i < j → ks.getD i 0 < (k : Int)
  hi : ∀ i, j ≤ i → i < ks.length → (k : Int) ≤ ks.getD i 0

theorem StandsAt.start {m : Nat} {ks : List Int} (h : SetOk m ks) : StandsAt ks 0 0 := ⟨Nat.zero_le _, fun i hi => by omega, fun i _ hi => (h.rng i hi).1⟩
theorem StandsAt.hit {m : Nat} {ks : List Int} {j k : Nat} (hs : SetOk m ks) (h : StandsAt ks j k) (hj : j < ks.length) (he : ks.getD j 0 = (k : Int)) : StandsAt ks (j + 1) (k + 1) := by
  refine ⟨hj, fun i hi => ?_, fun i hi hl => ?_⟩
  · by_cases e : i = j
    · subst e; omega
    · have := h.lo i (by omega); omega
  · have := hs.inc j i (by omega) hl; omega
theorem StandsAt.miss {m : Nat} {ks : List Int} {j k : Nat} (hs : SetOk m ks) (h : StandsAt ks j k) (he : j < ks.length → ks.getD j 0 ≠ (k : Int)) : StandsAt ks j (k + 1) := by
  refine ⟨h.le, fun i hi => by have := h.lo i hi; omega, fun i hi hl => ?_⟩
  have h1 := h.hi i hi hl
  by_cases e : i = j
  · subst e; have := he hl; omega
  · have := hs.inc j i (by omega) hl
    have := h.hi j (Nat.le_refl _) (by omega)
    omega
theorem StandsAt.mem {m : Nat} {ks : List Int} {j k : Nat} (hs : SetOk m ks) (h : StandsAt ks j k) : ks.contains (k : Int) = true ↔ j < ks.length ∧ ks.getD j 0 = (k : Int) := by
  rw [List.contains_iff_mem]
  constructor
  · intro hm
    obtain ⟨i, hi, he⟩ := List.mem_iff_getElem.1 hm
    have hg : ks.getD i 0 = (k : Int) := by rw [List.getD_eq_getElem?_getD, List.getElem?_eq_getElem hi]; exact he
    rcases Nat.lt_trichotomy i j with h1 | h1 | h1
    · have := h.lo i h1; omega
    · subst h1; exact ⟨hi, hg⟩
    · have h2 := h.hi j (Nat.le_refl _) (by omega)
      have := hs.inc j i h1 hi
      omega
  · rintro ⟨h1, h2⟩
    rw [← h2, List.getD_eq_getElem?_getD, List.getElem?_eq_getElem h1]
    exact List.getElem_mem h1

theorem make_ints2 (n : Nat) (hn : n ≤ 5000) (w : World) :
    (Instr.makeSlice 23 (.int .i64 (n : Int)) (.int .i64 (n : Int))).run Try.prog w = .ok (.slice (some ⟨w.heap.size, 0, none⟩) n n) (w.alloc (.cells (madeCells #[.int .i64 0] (n * 1)) 3)) := by
  obtain ⟨i, hi, hzz⟩ := Option.map_eq_some_iff.1 intT_info
  simp only [Prod.mk.injEq] at hzz
  obtain ⟨hz, hs, hb⟩ := hzz
  have hr := run_make (P := Try.prog) w 23 3 i (.int .i64 0) (by kernel_rfl) hi hz .i64 .i64 n n (by omega) (Int.le_refl _) (by rw [hb]; omega) (by omega)
  simp only [Int.toNat_natCast, hs] at hr
  exact hr

/-- a list copied into a row of its length -/
theorem copyI {W : World} {B : Option Addr} {N C : Nat} {ks : List Int} (hk : Ints W B N ks) {g : Nat} {f : Nat → Nat} (hr : Row W g N f) :
    ∃ W', (∀ ty, (Builtin.copy_ #[23, 23] ty #[.slice (some ⟨g, 0, none⟩) N N, .slice B N C]).run Try.prog W = .ok (.int .i64 (N : Nat)) W') ∧ Ints W' (some ⟨g, 0, none⟩) N ks ∧ Turns (fun i => i = g) W W' := by
  have hl := hk.1
  by_cases h0 : N = 0
  · subst h0
    refine ⟨W, fun ty => ?_, ⟨hl, fun h => absurd h (by omega)⟩, Turns.refl _ _⟩
    have := run_copy_none (P := Try.prog) W 23 23 ty 3 (some ⟨g, 0, none⟩) B 0 0 0 C (by kernel_rfl) (by kernel_rfl) rfl
    rw [this]; rfl
  · obtain ⟨bb, oo, rfl, hbb, hcc⟩ := hk.2 (by omega)
    refine ⟨W.setCells g 0 (ks.map (Value.int .i64)), fun ty => ?_, ⟨hl, fun _ => ⟨g, 0, rfl, by rw [size_setCells]; exact hr.lt, fun i hi => ?_⟩⟩, turns_setCells (O := fun i => i = g) rfl _ _ _⟩
    · have := run_copy_cells (P := Try.prog) W 23 23 ty 3 g 0 N N ⟨bb, oo, none⟩ N C (ks.map (Value.int .i64)) (by kernel_rfl) (by kernel_rfl) (by rw [List.length_map, hl]; exact (Nat.min_self N).symm) (by
        intro j v hj
        rw [List.getElem?_map] at hj
        obtain ⟨x, hx, rfl⟩ := Option.map_eq_some_iff.1 hj
        have hjn : j < N := by rw [← hl]; exact (List.getElem?_eq_some_iff.1 hx).1
        have h1 := hcc j hjn
        rw [List.getD_eq_getElem?_getD, hx] at h1
        rw [show (⟨bb, oo, none⟩ : Addr).add j = ⟨bb, oo + j, none⟩ by unfold Addr.add; split <;> simp_all]
        exact h1) (by
        intro j hj
        rw [Nat.zero_add, hr.c j (by simpa [hl] using hj)]; rfl) (fun j hj => hr.free _) (by
        intro v hv
        obtain ⟨x, _, rfl⟩ := List.mem_map.1 hv
        rfl)
      rw [this]
      simp [hl, goInt]
    · have := World.cell?_setCells_in g (ks.map (Value.int .i64)) 0 W (fun j hj => by
        rw [Nat.zero_add, hr.c j (by simpa [hl] using hj)]; rfl) i (by simp [hl]; exact hi)
      rw [this, List.getElem_map, List.getD_eq_getElem?_getD, List.getElem?_eq_getElem (by omega)]
      rfl

end Go.Proofs.Ytcmllkjgggcghaa
end
