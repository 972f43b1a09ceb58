/- BR5 BR6 BA6 BR7 -/
import Derived.Test.YtlbjnkopbabcnaaGreatDoorYB05
import Derived.Lib.SliceRun
/- Walks of the reference of layer 2: Test, with its errors; Merge. -/
section
namespace Go.Proofs.YtlbjnkopbabcnaaGreatDoor
open Go.RowKit Go.Shelf
set_option linter.unusedSimpArgs false
set_option linter.unusedVariables false
open Bm (Pr cex runL OkP rowL tab b2i ordB pickB unord bfP fstBad runB)

set_option maxHeartbeats 4000000 in
theorem rtest_any (l : Int) (A : Option Addr) (c C : Nat) (zs : List (Int × Int)) (best : Int) (w : World) (hz : Prs w A c zs) (hc : c ≤ 9223372036854775807) :
    Calls Tryz.prog 208 #[.int .i64 l, .slice A c C, .int .i64 best] w (RetLE (testE l zs best).1 (testE l zs best).2 w) := by
  have k1 := fun (W : World) (hb' : Below w.heap.size w W) => rcheckP_any l A c C zs W (hz.below hb') hc
  by_cases h0 : chkP l zs = 0
  · obtain ⟨n, p, rfl, h2, h12, rfl, hp, hl⟩ := chk_ok h0
    by_cases hb : best < 1 ∨ (n : Int) < best
    · have e : testE n (cst p) best = ([], 3) := by unfold testE; rw [if_neg (by simpa using h0), if_pos hb]
      rw [e]
      rw [h0] at k1
      clear e hz h0
      by_cases b1 : best < 1
      · clear hb
        go_enter Tryz.func208, Tryz.ntmps208
        go_wp2_with fail
        refine (k1 _ blA).mono ?_
        rintro _ w1 ⟨rfl, hb1⟩
        clear k1
        go_wp2_with fail
        go_ret2
        exact RetLE.no blA rfl
      · have b2 : (n : Int) < best := by omega
        have b3 : decide (best < 1) = false := by simpa using b1
        clear hb
        go_enter Tryz.func208, Tryz.ntmps208
        go_wp2_with fail
        refine (k1 _ blA).mono ?_
        rintro _ w1 ⟨rfl, hb1⟩
        clear k1
        go_wp2_with fail
        go_ret2
        exact RetLE.no blA rfl
    · obtain ⟨m, rfl⟩ : ∃ m : Nat, best = (m : Int) := ⟨best.toNat, by omega⟩
      have e : testE n (cst p) m = firstS n (fun k => badT n m (runB p (tab n k))) := by
        unfold testE; rw [if_neg (by simpa using h0), if_neg hb, natP_cst, Int.toNat_natCast, Int.toNat_natCast]
      rw [e]
      exact rtest_ok A n c m C p w hz (by have := hz.1; rw [cst_len] at this; omega) h2 h12 hp (by omega) (by omega)
  · have e : testE l zs best = ([], chkP l zs) := by unfold testE; rw [if_pos h0]
    rw [e]
    generalize chkP l zs = q at *
    have x1 : (q != 0) = true := by simpa using h0
    have x2 : (q == 0) = false := by simpa using h0
    clear e hz
    go_enter Tryz.func208, Tryz.ntmps208
    go_wp2_with fail
    refine (k1 _ blA).mono ?_
    rintro _ w1 ⟨rfl, hb1⟩
    replace hbw : Below w.heap.size w w1 := blA
    clear hb1
    go_wp2_with fail
    refine (k1 _ hbw).mono ?_
    rintro _ w2 ⟨rfl, hb2⟩
    clear k1
    go_wp2_with fail
    go_ret2
    exact RetLE.no blA rfl

/-- two places are in one part -/
def ins (f : Nat) (i k : Nat) : Bool := decide (i < f) == decide (k < f)
/-- a row of two parts in order is not put in order -/
def badM (n f : Nat) (p : List Pr) (k : Nat) : Bool := !unord n (ins f) (tab n k) && unord n (fun _ _ => true) (runB p (tab n k))
/-- the row that Merge names, or the error -/
def mergeE (l : Int) (zs : List (Int × Int)) (first : Int) : List Int × Int :=
  if chkP l zs ≠ 0 then ([], chkP l zs) else if first < 1 ∨ l - 1 < first then ([], 3) else firstS l.toNat (badM l.toNat first.toNat (natP zs))

theorem ins_ord {n k f : Nat} (hf : f ≤ n) : (ordB ((rowL n k).take f) && ordB ((rowL n k).drop f)) = !unord n (ins f) (tab n k) := by
  have hl := Bm.rowL_len n k
  have h1 : (ordB ((rowL n k).take f) && ordB ((rowL n k).drop f)) = false ↔ unord n (ins f) (tab n k) = true := by
    rw [Bool.and_eq_false_iff, Bm.ordB_un, Bm.ordB_un, Bm.unord_iff]
    have e1 : ((rowL n k).take f).length = f := by rw [List.length_take]; omega
    have e2 : ((rowL n k).drop f).length = n - f := by rw [List.length_drop]; omega
    rw [e1, e2]
    have g1 : ∀ i, i < f → ((rowL n k).take f).getD i 0 = b2i (tab n k i) := fun i hi => by
      rw [List.getD_eq_getElem?_getD, List.getElem?_take_of_lt hi, ← List.getD_eq_getElem?_getD, Bm.rowL_get (by omega)]
    have g2 : ∀ i, i < n - f → ((rowL n k).drop f).getD i 0 = b2i (tab n k (f + i)) := fun i hi => by
      rw [List.getD_eq_getElem?_getD, List.getElem?_drop, ← List.getD_eq_getElem?_getD, Bm.rowL_get (by omega)]
    have g3 : ∀ i j, b2i (tab n k i) < b2i (tab n k j) → tab n k j = true ∧ tab n k i = false := fun i j h => by
      revert h; cases tab n k i <;> cases tab n k j <;> simp [b2i]
    constructor
    · rintro (⟨a, b, h1, h2, -, h4⟩ | ⟨a, b, h1, h2, -, h4⟩)
      · have h4 : ((rowL n k).take f).getD b 0 < ((rowL n k).take f).getD a 0 := h4
        rw [g1 a h1, g1 b (by omega)] at h4
        obtain ⟨q1, q2⟩ := g3 _ _ h4
        exact ⟨a, b, by omega, h2, by simp [ins, h1, show b < f by omega], q1, q2⟩
      · have h4 : ((rowL n k).drop f).getD b 0 < ((rowL n k).drop f).getD a 0 := h4
        rw [g2 a h1, g2 b (by omega)] at h4
        obtain ⟨q1, q2⟩ := g3 _ _ h4
        exact ⟨f + a, f + b, by omega, by omega, by simp [ins]; omega, q1, q2⟩
    · rintro ⟨a, b, h1, h2, h3, q1, q2⟩
      by_cases ha : a < f
      · refine .inl ⟨a, b, ha, h2, rfl, ?_⟩
        show ((rowL n k).take f).getD b 0 < ((rowL n k).take f).getD a 0
        rw [g1 a ha, g1 b (by omega), q1, q2]; decide
      · have hb : ¬ b < f := by
          intro hb
          simp [ins, ha, hb] at h3
        refine .inr ⟨a - f, b - f, by omega, by omega, rfl, ?_⟩
        show ((rowL n k).drop f).getD (b - f) 0 < ((rowL n k).drop f).getD (a - f) 0
        rw [g2 _ (by omega), g2 _ (by omega), show f + (a - f) = a by omega, show f + (b - f) = b by omega, q1, q2]; decide
  revert h1
  cases (ordB ((rowL n k).take f) && ordB ((rowL n k).drop f)) <;> cases unord n (ins f) (tab n k) <;> simp

theorem Ints.pre {w : World} {b o n : Nat} {zs : List Int} (h : Ints w (some ⟨b, o, none⟩) n zs) (f : Nat) (hf : f ≤ n) : Ints w (some ⟨b, o, none⟩) f (zs.take f) := by
  refine ⟨by rw [List.length_take]; have := h.1; omega, fun hp => ?_⟩
  obtain ⟨b', o', e, hlt, hc⟩ := h.2 (by omega)
  injection e with e
  injection e with e1 e2
  subst e1 e2
  refine ⟨b, o, rfl, hlt, fun i hi => ?_⟩
  rw [hc i (by omega), List.getD_eq_getElem?_getD, List.getD_eq_getElem?_getD, List.getElem?_take_of_lt hi]
theorem Ints.suf {w : World} {b o n : Nat} {zs : List Int} (h : Ints w (some ⟨b, o, none⟩) n zs) (f : Nat) (hf : f ≤ n) : Ints w (some ⟨b, o + f, none⟩) (n - f) (zs.drop f) := by
  refine ⟨by rw [List.length_drop]; have := h.1; omega, fun hp => ?_⟩
  obtain ⟨b', o', e, hlt, hc⟩ := h.2 (by omega)
  injection e with e
  injection e with e1 e2
  subst e1 e2
  refine ⟨b, o + f, rfl, hlt, fun i hi => ?_⟩
  rw [Nat.add_assoc, hc (f + i) (by omega), List.getD_eq_getElem?_getD, List.getD_eq_getElem?_getD, List.getElem?_drop]

end Go.Proofs.YtlbjnkopbabcnaaGreatDoor
end

/- Walks of the reference of layer 2: Exchanges, Useless, Trim. -/
section
namespace Go.Proofs.YtlbjnkopbabcnaaGreatDoor
open Go.RowKit Go.Shelf
set_option linter.unusedSimpArgs false
set_option linter.unusedVariables false
open Bm (Pr cex runL OkP rowL tab b2i runB usd exch uslL trmL stp)

theorem Prs.pre {w : World} {b o n : Nat} {zs : List (Int × Int)} (h : Prs w (some ⟨b, o, none⟩) n zs) (f : Nat) (hf : f ≤ n) : Prs w (some ⟨b, o, none⟩) f (zs.take f) := by
  refine ⟨by rw [List.length_take]; have := h.1; omega, fun hp => ?_⟩
  obtain ⟨b', o', e, hlt, hc⟩ := h.2 (by omega)
  injection e with e
  injection e with e1 e2
  subst e1 e2
  refine ⟨b, o, rfl, hlt, fun i x y hi => ?_⟩
  have hif : i < f := by
    have := (List.getElem?_eq_some_iff.1 hi).1
    rw [List.length_take] at this; omega
  exact hc i x y (by rwa [List.getElem?_take_of_lt hif] at hi)
theorem cst_take (p : List Pr) (f : Nat) : (cst p).take f = cst (p.take f) := by simp [cst]
theorem exch_row {n k : Nat} {pre : List Pr} {x : Pr} (hp : OkP n pre) (hx : x.1 < x.2 ∧ x.2 < n) : decide ((runL pre (rowL n k)).getD x.1 0 < (runL pre (rowL n k)).getD x.2 0) = exch pre x n k := by
  rw [Bm.runL_row hp hx.2, Bm.runL_row hp (show x.1 < n by omega)]
  unfold exch b2i
  cases runB pre (tab n k) x.1 <;> cases runB pre (tab n k) x.2 <;> rfl
theorem usd_true {n k : Nat} {pre : List Pr} {x : Pr} (hk : k < 2 ^ n) (h : exch pre x n k = true) : usd n pre x = true := by
  unfold usd; exact List.any_eq_true.2 ⟨k, by simpa using hk, h⟩
theorem usd_none {n : Nat} {pre : List Pr} {x : Pr} (h : ∀ k, k < 2 ^ n → exch pre x n k = false) : usd n pre x = false := by
  unfold usd; rw [List.any_eq_false]
  intro k hk
  simp [h k (by simpa using hk)]

/-- a list of pairs and an error are returned -/
def RetPE (l : List (Int × Int)) (er : Int) (w : World) (e : Ending) (w' : World) : Prop :=
  ∃ A n c, e = .returned (.tuple #[.slice A n c, .int .i64 er]) ∧ Prs w' A n l ∧ (n ≤ 1000 ∧ n ≤ c) ∧ Below w.heap.size w w'
theorem RetPE.no {er : Int} {w w' : World} (hb : Below w.heap.size w w') {er' : Int} (h : er' = er) : RetPE [] er w (.returned (.tuple #[.slice none 0 0, .int .i64 er'])) w' :=
  ⟨none, 0, 0, by rw [h], Prs.nil _ _, ⟨by omega, by omega⟩, hb⟩
def useE (l : Int) (zs : List (Int × Int)) : List Int × Int := if chkP l zs ≠ 0 then ([], chkP l zs) else ((uslL l.toNat [] 0 (natP zs)).map fun x => ((x : Nat) : Int), 0)
def trimE (l : Int) (zs : List (Int × Int)) : List (Int × Int) × Int := if chkP l zs ≠ 0 then ([], chkP l zs) else (cst (trmL l.toNat [] (natP zs)), 0)

/-- the first pairs' useless ones, and the others -/
theorem usl_snoc (n : Nat) : ∀ (p pre : List Pr) (i : Nat) (x : Pr), uslL n pre i (p ++ [x]) = uslL n pre i p ++ if usd n (pre ++ p) x then [] else [i + p.length]
  | [], pre, i, x => by
    unfold uslL
    rw [List.nil_append, stp, stp, stp, List.append_nil]
    cases usd n pre x <;> rfl
  | y :: p, pre, i, x => by
    have ih := usl_snoc n p (pre ++ [y]) (i + 1) x
    unfold uslL at ih ⊢
    rw [List.cons_append, stp, stp, List.filter_cons, List.filter_cons]
    rw [show pre ++ y :: p = pre ++ [y] ++ p by simp, show i + (y :: p).length = i + 1 + p.length by simp; omega]
    cases usd n pre y with
    | true => simpa using ih
    | false => simpa using ih
theorem trm_snoc (n : Nat) : ∀ (p pre : List Pr) (x : Pr), trmL n pre (p ++ [x]) = trmL n pre p ++ if usd n (pre ++ p) x then [x] else []
  | [], pre, x => by
    rw [List.nil_append, trmL, trmL, trmL, List.append_nil]
    cases usd n pre x <;> rfl
  | y :: p, pre, x => by
    have ih := trm_snoc n p (pre ++ [y]) x
    rw [List.cons_append, trmL, trmL, ih]
    rw [show pre ++ y :: p = pre ++ [y] ++ p by simp]
    cases usd n pre y <;> simp

theorem take_get {p : List Pr} {i : Nat} {x : Pr} (h : p[i]? = some x) : p.take i ++ [x] = p.take (i + 1) := by
  rw [List.take_add_one, h]; rfl
theorem usl_step {n i : Nat} {p : List Pr} {x : Pr} (h : p[i]? = some x) : uslL n [] 0 (p.take (i + 1)) = uslL n [] 0 (p.take i) ++ if usd n (p.take i) x then [] else [i] := by
  have h1 := usl_snoc n (p.take i) [] 0 x
  have h2 : (p.take i).length = i := by have := (List.getElem?_eq_some_iff.1 h).1; rw [List.length_take]; omega
  rw [take_get h, h2, Nat.zero_add, List.nil_append] at h1
  exact h1
theorem trm_step {n i : Nat} {p : List Pr} {x : Pr} (h : p[i]? = some x) : trmL n [] (p.take (i + 1)) = trmL n [] (p.take i) ++ if usd n (p.take i) x then [x] else [] := by
  have h1 := trm_snoc n (p.take i) [] x
  rw [take_get h, List.nil_append] at h1
  exact h1

end Go.Proofs.YtlbjnkopbabcnaaGreatDoor
end

/- Walks of package bench: Depth. -/
section
namespace Go.Proofs.YtlbjnkopbabcnaaGreatDoor
open Go.RowKit Go.Shelf
set_option linter.unusedSimpArgs false
set_option linter.unusedVariables false
open Bm (Pr OkP depS depL dStep)

theorem ret_t2 {a b c : Int} (h : a = b) : Ending.returned (.tuple #[.int .i64 a, .int .i64 c]) = .returned (.tuple #[.int .i64 b, .int .i64 c]) := by rw [h]
/-- the last rounds of twelve places -/
def lastL (p : List Pr) : List Int := (List.range 12).map fun i => (((depS p).1 i : Nat) : Int)
theorem lastL_len (p : List Pr) : (lastL p).length = 12 := by simp [lastL]
theorem lastL_get {p : List Pr} {i : Nat} (hi : i < 12) : (lastL p).getD i 0 = (((depS p).1 i : Nat) : Int) := by simp [lastL, List.getD_eq_getElem?_getD, hi]
theorem lastL_snoc {p : List Pr} {x : Pr} (h1 : x.1 < 12) (h2 : x.2 < 12) (h : x.1 < x.2) : lastL (p ++ [x]) = ((lastL p).set x.1 ((max ((depS p).1 x.1) ((depS p).1 x.2) + 1 : Nat) : Int)).set x.2 ((max ((depS p).1 x.1) ((depS p).1 x.2) + 1 : Nat) : Int) := by
  apply List.ext_getElem
  · simp [lastL]
  · intro i hi hi2
    have h12 : i < 12 := by simpa [lastL] using hi
    simp only [lastL, Bm.depS_snoc, dStep, List.getElem_map, List.getElem_range, List.getElem_set]
    by_cases e2 : x.2 = i
    · subst e2; simp
    · rw [if_neg e2]
      by_cases e1 : x.1 = i
      · subst e1; simp
      · rw [if_neg e1, if_neg (by omega)]

theorem bsetCells {B : Nat} {w : World} {g : Nat} (hg : B ≤ g) : ∀ (vs : List Value) (o : Nat) (W : World), Below B w W → Below B w (W.setCells g o vs)
  | [], _, _, h => h
  | v :: r, o, W, h => bsetCells hg r (o + 1) _ (h.setCell (p := ⟨g, o, none⟩) hg v)
theorem size_setCells (g : Nat) : ∀ (vs : List Value) (o : Nat) (W : World), (W.setCells g o vs).heap.size = W.heap.size
  | [], _, _ => rfl
  | v :: r, o, W => (size_setCells g r (o + 1) _).trans (by simp [World.setCell])
/-- twelve noughts are cleared -/
theorem clear_last (W : World) : ∃ W', (∀ ty, (Builtin.clear_ #[59] ty #[.slice (some ⟨W.heap.size, 0, none⟩) 12 12]).run Tryz.prog (W.alloc (.cells #[.int .i64 0, .int .i64 0, .int .i64 0, .int .i64 0, .int .i64 0, .int .i64 0, .int .i64 0, .int .i64 0, .int .i64 0, .int .i64 0, .int .i64 0, .int .i64 0] 374)) = .ok (.tuple #[]) W') ∧ Rx W' W.heap.size (lastL []) ∧ Below W.heap.size W W' := by
  have hc : ∀ j, j < 12 → (W.alloc (.cells #[.int .i64 0, .int .i64 0, .int .i64 0, .int .i64 0, .int .i64 0, .int .i64 0, .int .i64 0, .int .i64 0, .int .i64 0, .int .i64 0, .int .i64 0, .int .i64 0] 374)).cell? ⟨W.heap.size, j, none⟩ = some (.int .i64 0) := fun j hj => by
    rw [cell_of_row _ _ j _ _ (0, 0) (heap_alloc_new W _)]
    match j, hj with
    | 0, _ => rfl
    | 1, _ => rfl
    | 2, _ => rfl
    | 3, _ => rfl
    | 4, _ => rfl
    | 5, _ => rfl
    | 6, _ => rfl
    | 7, _ => rfl
    | 8, _ => rfl
    | 9, _ => rfl
    | 10, _ => rfl
    | 11, _ => rfl
    | j + 12, h => omega
  have hf : ∀ j, (W.alloc (.cells #[.int .i64 0, .int .i64 0, .int .i64 0, .int .i64 0, .int .i64 0, .int .i64 0, .int .i64 0, .int .i64 0, .int .i64 0, .int .i64 0, .int .i64 0, .int .i64 0] 374)).frozen? ⟨W.heap.size, j, none⟩ = false := fun j => frozen_of_row _ _ j _ _ (heap_alloc_new W _)
  refine ⟨(W.alloc (.cells #[.int .i64 0, .int .i64 0, .int .i64 0, .int .i64 0, .int .i64 0, .int .i64 0, .int .i64 0, .int .i64 0, .int .i64 0, .int .i64 0, .int .i64 0, .int .i64 0] 374)).setCells W.heap.size 0 (List.replicate 12 (.int .i64 0)), fun ty => ?_, ⟨by rw [size_setCells]; simp, fun k hk => ?_, fun k => by rw [World.frozen?_setCells]; exact hf k⟩, bsetCells (Nat.le_refl _) _ _ _ (balloc (Below.refl _ _) _)⟩
  · exact Lib.run_clear_slice (P := Tryz.prog) _ 59 3 ty (.int .i64 0) elInt.1 (zero_of_info (n := 1) (by kernel_rfl)).1 rfl rfl W.heap.size 0 12 12 (by omega) (fun j hj => by rw [Nat.zero_add, hc j hj]; rfl) (fun j _ => hf _)
  · rw [lastL_len] at hk
    have := World.cell?_setCells_in W.heap.size (List.replicate 12 (Value.int .i64 0)) 0 (W.alloc (.cells #[.int .i64 0, .int .i64 0, .int .i64 0, .int .i64 0, .int .i64 0, .int .i64 0, .int .i64 0, .int .i64 0, .int .i64 0, .int .i64 0, .int .i64 0, .int .i64 0] 374)) (fun j hj => by
      rw [Nat.zero_add, hc j (by simpa using hj)]; rfl) k (by simpa using hk)
    rw [Nat.zero_add] at this
    rw [this, lastL_get hk, List.getElem_replicate]
    rfl

set_option maxRecDepth 100000 in
set_option maxHeartbeats 8000000 in
theorem depth_ok (A : Option Addr) (n c C : Nat) (p : List Pr) (w : World) (hz : Prs w A c (cst p)) (hc : c ≤ 80) (h2 : 2 ≤ n) (h12 : n ≤ 12) (hp : OkP n p) :
    Calls Tryz.prog 200 #[.int .i64 (n : Nat), .slice A c C] w fun e w' => e = .returned (.tuple #[.int .i64 (depL p : Nat), .int .i64 0]) ∧ Below w.heap.size w w' := by
  have hpl : p.length = c := by have := hz.1; rwa [cst_len] at this
  have k1 := fun (W : World) (hb' : Below w.heap.size w W) => checkP_any (n : Int) A c C (cst p) W (hz.below hb') (by omega)
  rw [chk_of h2 h12 hp (by omega)] at k1
  go_enter Tryz.func200, Tryz.ntmps200
  go_wp2_with fail
  refine (k1 _ blA).mono ?_
  rintro _ w1 ⟨rfl, hb1⟩
  replace hbw : Below w.heap.size w w1 := blA
  clear hb1
  clear k1
  have h1w := hbw.size
  obtain ⟨W0, hcl, hR0, hb0⟩ := clear_last w1
  replace hbw : Below w.heap.size w W0 := bstep hbw hb0
  have hsw := hbw.size
  have HR0 := Lib.hid hR0
  clear hR0 hb0
  have Hpl := Lib.hid hpl
  have Hp := Lib.hid hp
  have Hz := Lib.hid hz
  clear hpl hp hz
  go_wp2_with fail
  clear hcl
  go_loopw [8, 21] (fun s8 s21 wx => ∃ (k dd : Nat) (W : World), k ≤ c ∧ s21 = .int .i64 (k : Nat) ∧ s8 = .int .i64 (dd : Nat) ∧ Hid (W = wx) ∧ Hid (Rx W w1.heap.size (lastL (p.take k))) ∧ Hid (dd = depL (p.take k)) ∧ Below w.heap.size w W) (fun _ s21 _ => c - (intOf s21).toNat)
  case atStart => exact ⟨0, 0, _, Nat.zero_le _, rfl, rfl, Lib.hid rfl, HR0, Lib.hid rfl, hbw⟩
  case round =>
    clear HR0 hbw hsw
    obtain ⟨k, dd, W, hk, rfl, rfl, HW, HR, HD, hbw⟩ := hrel
    obtain rfl := HW.out
    clear HW
    by_cases hkm : k < c
    · obtain ⟨b, off, x, y, rfl, hget, c0, c1⟩ := Hz.out.at_ hbw hkm
      obtain ⟨a', b', hp', rfl, rfl⟩ := cst_get hget
      obtain ⟨hab, hbn⟩ := Hp.out _ (List.mem_of_getElem? hp')
      dsimp only at hab hbn
      have d0 := HR.out.cell (k := a') (by rw [lastL_len]; omega)
      have d1 := HR.out.cell (k := b') (by rw [lastL_len]; omega)
      rw [lastL_get (by omega)] at d0 d1
      have fr := HR.out.frozen
      have lr := HR.out.lt
      have hle := Bm.depS_le (p.take k)
      have hva := hle.1 a'
      have hvb := hle.1 b'
      have hdb := hle.2
      have hlk : (p.take k).length ≤ 80 := by rw [List.length_take, Hpl.out]; omega
      have HL : Hid (lastL (p.take (k + 1)) = ((lastL (p.take k)).set a' ((max ((depS (p.take k)).1 a') ((depS (p.take k)).1 b') + 1 : Nat) : Int)).set b' ((max ((depS (p.take k)).1 a') ((depS (p.take k)).1 b') + 1 : Nat) : Int)) := Lib.hid (by
        rw [← take_get hp']; exact lastL_snoc (x := (a', b')) (by dsimp only; omega) (by dsimp only; omega) hab)
      have HD2 : Hid (depL (p.take (k + 1)) = max dd (max ((depS (p.take k)).1 a') ((depS (p.take k)).1 b') + 1)) := Lib.hid (by
        rw [← take_get hp', HD.out, depL, Bm.depS_snoc]; rfl)
      rw [show (depS (p.take k)).2 = dd from HD.out.symm] at hdb
      clear hget hp' hle HD
      generalize (depS (p.take k)).1 a' = va at *
      generalize (depS (p.take k)).1 b' = vb at *
      generalize (p.take k).length = L at *
      by_cases hlt : va < vb
      · rw [show max va vb + 1 = vb + 1 by omega] at HL HD2
        by_cases hd : dd < vb + 1
        · have HD : Hid (vb + 1 = depL (p.take (k + 1))) := Lib.hid (by rw [HD2.out]; omega)
          clear HD2
          go_wp2_with fail
          go_region
          go_wp2_with fail
          go_region
          go_wp2_with fail
          go_roundw
          case rel =>
            refine ⟨k + 1, vb + 1, _, by omega, by go_num, by first | rfl | go_num, Lib.hid rfl, Lib.hid ?_, HD, ?_⟩
            · rw [HL.out]
              exact ((((HR.out.set _ _).set _ _).alloc _).drew).drew
            · exact (balloc (bset (bset hbw (p := ⟨w1.heap.size, a', none⟩) h1w _) (p := ⟨w1.heap.size, b', none⟩) h1w _) _).drew.drew
          case measure => simp [intOf]; omega
        · have HD : Hid (dd = depL (p.take (k + 1))) := Lib.hid (by rw [HD2.out]; omega)
          clear HD2
          go_wp2_with fail
          go_region
          go_wp2_with fail
          go_region
          go_wp2_with fail
          go_roundw
          case rel =>
            refine ⟨k + 1, dd, _, by omega, by go_num, by first | rfl | go_num, Lib.hid rfl, Lib.hid ?_, HD, ?_⟩
            · rw [HL.out]
              exact ((((HR.out.set _ _).set _ _).alloc _).drew).drew
            · exact (balloc (bset (bset hbw (p := ⟨w1.heap.size, a', none⟩) h1w _) (p := ⟨w1.heap.size, b', none⟩) h1w _) _).drew.drew
          case measure => simp [intOf]; omega
      · rw [show max va vb + 1 = va + 1 by omega] at HL HD2
        by_cases hd : dd < va + 1
        · have HD : Hid (va + 1 = depL (p.take (k + 1))) := Lib.hid (by rw [HD2.out]; omega)
          clear HD2
          go_wp2_with fail
          go_region
          go_wp2_with fail
          go_region
          go_wp2_with fail
          go_roundw
          case rel =>
            refine ⟨k + 1, va + 1, _, by omega, by go_num, by first | rfl | go_num, Lib.hid rfl, Lib.hid ?_, HD, ?_⟩
            · rw [HL.out]
              exact ((((HR.out.set _ _).set _ _).alloc _).drew).drew
            · exact (balloc (bset (bset hbw (p := ⟨w1.heap.size, a', none⟩) h1w _) (p := ⟨w1.heap.size, b', none⟩) h1w _) _).drew.drew
          case measure => simp [intOf]; omega
        · have HD : Hid (dd = depL (p.take (k + 1))) := Lib.hid (by rw [HD2.out]; omega)
          clear HD2
          go_wp2_with fail
          go_region
          go_wp2_with fail
          go_region
          go_wp2_with fail
          go_roundw
          case rel =>
            refine ⟨k + 1, dd, _, by omega, by go_num, by first | rfl | go_num, Lib.hid rfl, Lib.hid ?_, HD, ?_⟩
            · rw [HL.out]
              exact ((((HR.out.set _ _).set _ _).alloc _).drew).drew
            · exact (balloc (bset (bset hbw (p := ⟨w1.heap.size, a', none⟩) h1w _) (p := ⟨w1.heap.size, b', none⟩) h1w _) _).drew.drew
          case measure => simp [intOf]; omega
    · obtain rfl : k = c := by omega
      have HD1 : Hid (dd = depL p) := Lib.hid (by rw [HD.out, List.take_of_length_le (by rw [Hpl.out]; exact Nat.le_refl _)])
      clear HR HD
      go_wp2_with fail
      go_ret2
      exact ⟨ret_t2 (by rw [HD1.out]), hbw⟩

/-- the depth of a programme, or the error -/
def depE (l : Int) (zs : List (Int × Int)) : Int × Int := if chkP l zs ≠ 0 then (0, chkP l zs) else (((depL (natP zs) : Nat) : Int), 0)

set_option maxHeartbeats 4000000 in
theorem depth_any (l : Int) (A : Option Addr) (c C : Nat) (zs : List (Int × Int)) (w : World) (hz : Prs w A c zs) (hc : c ≤ 9223372036854775807) :
    Calls Tryz.prog 200 #[.int .i64 l, .slice A c C] w fun e w' => e = .returned (.tuple #[.int .i64 (depE l zs).1, .int .i64 (depE l zs).2]) ∧ Below w.heap.size w w' := by
  have k1 := fun (W : World) (hb' : Below w.heap.size w W) => checkP_any l A c C zs W (hz.below hb') hc
  by_cases h0 : chkP l zs = 0
  · obtain ⟨n, p, rfl, h2, h12, rfl, hp, hl⟩ := chk_ok h0
    have e : depE n (cst p) = (((depL p : Nat) : Int), 0) := by unfold depE; rw [if_neg (by simpa using h0), natP_cst]
    rw [e]
    exact depth_ok A n c C p w hz (by have := hz.1; rw [cst_len] at this; omega) h2 h12 hp
  · have e : depE l zs = (0, chkP l zs) := by unfold depE; rw [if_pos h0]
    rw [e]
    generalize chkP l zs = q at *
    have x1 : (q != 0) = true := by simpa using h0
    have x2 : (q == 0) = false := by simpa using h0
    clear e hz
    go_enter Tryz.func200, Tryz.ntmps200
    go_wp2_with fail
    refine (k1 _ blA).mono ?_
    rintro _ w1 ⟨rfl, hb1⟩
    replace hbw : Below w.heap.size w w1 := blA
    clear hb1
    clear k1
    go_wp2_with fail
    go_ret2
    exact ⟨rfl, blA⟩

end Go.Proofs.YtlbjnkopbabcnaaGreatDoor
end

/- Walks of the reference of layer 2: Depth. -/
section
namespace Go.Proofs.YtlbjnkopbabcnaaGreatDoor
open Go.RowKit Go.Shelf
set_option linter.unusedSimpArgs false
set_option linter.unusedVariables false
open Bm (Pr OkP depS depL rndL rin shr)

theorem rndL_len (p : List Pr) : (rndL p).length = p.length := by simp [rndL]
theorem rnd_take {p : List Pr} {k : Nat} (hk : k < p.length) : (rndL p).take (k + 1) = (rndL p).take k ++ [(rndL p).getD k 0] := by
  have h : k < (rndL p).length := by rw [rndL_len]; exact hk
  rw [List.take_add_one, List.getElem?_eq_getElem h, List.getD_eq_getElem?_getD, List.getElem?_eq_getElem h]; rfl
theorem getD_of {α : Type} {p : List α} {k : Nat} {x d : α} (h : p[k]? = some x) : p.getD k d = x := by rw [List.getD_eq_getElem?_getD, h]; rfl
theorem rnd_bd {p : List Pr} {k : Nat} (hk : k < p.length) : 1 ≤ (rndL p).getD k 0 ∧ (rndL p).getD k 0 ≤ p.length + 1 := by
  rw [Bm.rnd_get hk]
  have h1 := (Bm.depS_le (p.take k)).1 (p.getD k (0, 0)).1
  have h2 := (Bm.depS_le (p.take k)).1 (p.getD k (0, 0)).2
  have h3 : (p.take k).length ≤ p.length := by rw [List.length_take]; omega
  omega
theorem rin_bd {p : List Pr} {x : Pr} : ∀ k, k ≤ p.length → rin p x k ≤ p.length + 2
  | 0, _ => by simp [rin]
  | k + 1, h => by
    have ih := rin_bd (p := p) (x := x) k (by omega)
    have := (rnd_bd (p := p) (k := k) (by omega)).2
    rw [rin]; split <;> omega

end Go.Proofs.YtlbjnkopbabcnaaGreatDoor
end
