/- BC4 BM6 BC5 BM7 BC6 -/
import Derived.Test.YtminplfgadhnnaaGreatDoorTB11
import Derived.Test.YtminplfgadhnnaaGreatDoorTB02
import Derived.Lib.TrailingZeros
import Derived.Shelf.Spec.TrailingZeros
import Derived.WalkMore
/- Walks of package bench: steps, a list of (place, did it do anything). -/
section
namespace Go.Proofs.YtminplfgadhnnaaGreatDoor
open Go.RowKit Go.Shelf
set_option linter.unusedSimpArgs false
set_option linter.unusedVariables false
open Bm (anN Pr OkP)
attribute [local go_sem] Oper.semAt_some

theorem wpListIn_load_row {F : Fence} {n : Nat} {P : Program} {ops : Array Oper} {rest : List Oper} {o : Oper} {a : Act} {w : World} {Q : Exit → Act → World → Prop} (hgd : o.guard = none) (ty : TypeId) (x : Operand) (ho : o.op = .load ty x)
    (g : Nat) (hx : a.eval x = .pointer (some ⟨g, 0, none⟩)) (t : TypeId) (cs : Array Value) (fr : Nat × Nat) (d : TypeDesc) (hg : w.heap[g]? = some (.cells cs t fr))
    (hu : P.underlying ty = some d) (hd : (match d with | .struct _ | .array _ _ => true | _ => false) = true) (hi : (P.info? ty).map (·.size) = some cs.size)
    (h : wpListIn F n P ops Q rest (a.put o.dst (.agg cs)) w) : wpListIn F n P ops Q (o :: rest) a w := by
  refine wpListIn_plain hgd fun K hK => ?_
  refine ⟨fun f hf => (by simp [Oper.about, ho] at hf), ?_⟩
  rw [Oper.semAt_eq _ _ _ (fun c => by rw [ho]; simp)]
  unfold execOp
  simp only [ho, hx, Instr.loadAt, Instr.sureAddr, Sem.run_bind, Sem.run_pure, Result.andThen_ok, run_loadVar_row w g t ty cs fr d hg hu hd hi]
  exact hK _ _ h
theorem listIn_store_row {F : Fence} {n : Nat} {ops : Array Oper} {rest : List Oper} {o : Oper} {a : Act} {w : World} {Q : Exit → Act → World → Prop} (hgd : o.guard = none) (ty : TypeId) (p x : Operand) (ho : o.op = .store ty p x)
    (g : Nat) (hp : a.eval p = .pointer (some ⟨g, 0, none⟩)) (t : TypeId) (old cells : Array Value) (hx : a.eval x = .agg cells) (hg : w.heap[g]? = some (.cells old t (0, 0))) (hi : (Tryz.prog.info? ty).map (·.size) = some cells.size)
    (hs : old.size = cells.size) (h1 : cells.all (·.oneCell') = true) (h : wpListIn F n Tryz.prog ops Q rest (a.put o.dst noResult) (w.setRow g cells)) : wpListIn F n Tryz.prog ops Q (o :: rest) a w := by
  refine wpListIn_plain hgd fun K hK => ?_
  refine ⟨fun f hf => (by simp [Oper.about, ho] at hf), ?_⟩
  rw [Oper.semAt_eq _ _ _ (fun c => by rw [ho]; simp)]
  unfold execOp
  simp only [ho, hx, hp, Instr.storeAt, Instr.sureAddr, Sem.run_bind, Sem.run_pure, Result.andThen_ok, run_storeVar_row w g t ty old cells hg hi hs h1]
  exact hK _ _ h

/-- a line has a word that is not nought -/
def anyW (R : Nat → Nat) : Bool := (List.range 64).any fun j => R j != 0
theorem eqItems_line (d : Nat) (R : Nat → Nat) (w : World) : ∀ is : List Nat, (∀ i ∈ is, i < 64) → (Op.eqItems (d + 1) 174 1 (lnA R) (lnA fun _ => 0) is).run Tryz.prog w = .ok (is.all fun j => R j == 0) w
  | [], _ => by simp [Op.eqItems]
  | i :: is, h => by
    have hi := h i List.mem_cons_self
    have ih := eqItems_line d R w is (fun j hj => h j (List.mem_cons_of_mem _ hj))
    have g1 := lnA_get R hi
    have g2 := lnA_get (fun _ => 0) hi
    simp only [wv] at g1 g2
    have e1 : (lnA R)[i]'(by rw [lnA_size]; exact hi) = .int .u64 ((R i : Nat) : Int) := by
      rw [Array.getElem?_eq_getElem (by rw [lnA_size]; exact hi)] at g1; injection g1
    have e2 : (lnA fun _ => 0)[i]'(by rw [lnA_size]; exact hi) = .int .u64 ((0 : Nat) : Int) := by
      rw [Array.getElem?_eq_getElem (by rw [lnA_size]; exact hi)] at g2; injection g2
    simp [Op.eqItems, go_sem, g1, g2, lnA_size, hi, e1, e2]
    by_cases h0 : R i = 0
    · simp [h0, ih]
    · simp [h0]
theorem all_anyW (R : Nat → Nat) : ((List.range 64).all fun j => R j == 0) = !anyW R := by
  unfold anyW
  generalize List.range 64 = l
  induction l with
  | nil => rfl
  | cons a l ih => simp only [List.all_cons, List.any_cons, ih, Bool.not_or]; cases h : (R a == 0) <;> simp [bne, h]
theorem line_eqd (d : Nat) (R : Nat → Nat) (w : World) : (Op.equalIn (d + 1 + 1) 176 (.agg (lnA R)) (.agg (lnA fun _ => 0))).run Tryz.prog w = .ok (!anyW R) w := by
  have hT : ∃ i, Tryz.prog.info? 174 = some i := by
    have h : (Tryz.prog.info? 174).isSome = true := by kernel_rfl
    exact Option.isSome_iff_exists.1 h
  obtain ⟨i, hi⟩ := hT
  rw [run_equalIn_array w (d + 1) _ _ (n := 64) (e := 174) (by kernel_rfl) hi]
  have hc : Tryz.prog.cellsOf 174 = 1 := by kernel_rfl
  rw [hc, eqItems_line d R w (List.range 64) (fun i h => List.mem_range.1 h), all_anyW]
@[local go_sem] theorem line_eq (R : Nat → Nat) (w : World) : (Op.equalIn 10000 176 (.agg (lnA R)) (.agg (lnA fun _ => 0))).run Tryz.prog w = .ok (!anyW R) w := line_eqd 9998 R w

@[local go_sem] theorem line_eqL (R : Nat → Nat) (w : World) : (Op.equalIn 10000 176 (.agg (lnA R)) (.agg #[.int .u64 0, .int .u64 0, .int .u64 0, .int .u64 0, .int .u64 0, .int .u64 0, .int .u64 0, .int .u64 0, .int .u64 0, .int .u64 0, .int .u64 0, .int .u64 0, .int .u64 0, .int .u64 0, .int .u64 0, .int .u64 0, .int .u64 0, .int .u64 0, .int .u64 0, .int .u64 0, .int .u64 0, .int .u64 0, .int .u64 0, .int .u64 0, .int .u64 0, .int .u64 0, .int .u64 0, .int .u64 0, .int .u64 0, .int .u64 0, .int .u64 0, .int .u64 0, .int .u64 0, .int .u64 0, .int .u64 0, .int .u64 0, .int .u64 0, .int .u64 0, .int .u64 0, .int .u64 0, .int .u64 0, .int .u64 0, .int .u64 0, .int .u64 0, .int .u64 0, .int .u64 0, .int .u64 0, .int .u64 0, .int .u64 0, .int .u64 0, .int .u64 0, .int .u64 0, .int .u64 0, .int .u64 0, .int .u64 0, .int .u64 0, .int .u64 0, .int .u64 0, .int .u64 0, .int .u64 0, .int .u64 0, .int .u64 0, .int .u64 0, .int .u64 0])).run Tryz.prog w = .ok (!anyW R) w := by
  rw [lnA_zero]; exact line_eq R w
@[local go_sem] theorem line_new (R : Nat → Nat) (w : World) : (storeCells ⟨w.heap.size, 0, none⟩ (lnA R).toList).run Tryz.prog (w.alloc (.cells #[.int .u64 0, .int .u64 0, .int .u64 0, .int .u64 0, .int .u64 0, .int .u64 0, .int .u64 0, .int .u64 0, .int .u64 0, .int .u64 0, .int .u64 0, .int .u64 0, .int .u64 0, .int .u64 0, .int .u64 0, .int .u64 0, .int .u64 0, .int .u64 0, .int .u64 0, .int .u64 0, .int .u64 0, .int .u64 0, .int .u64 0, .int .u64 0, .int .u64 0, .int .u64 0, .int .u64 0, .int .u64 0, .int .u64 0, .int .u64 0, .int .u64 0, .int .u64 0, .int .u64 0, .int .u64 0, .int .u64 0, .int .u64 0, .int .u64 0, .int .u64 0, .int .u64 0, .int .u64 0, .int .u64 0, .int .u64 0, .int .u64 0, .int .u64 0, .int .u64 0, .int .u64 0, .int .u64 0, .int .u64 0, .int .u64 0, .int .u64 0, .int .u64 0, .int .u64 0, .int .u64 0, .int .u64 0, .int .u64 0, .int .u64 0, .int .u64 0, .int .u64 0, .int .u64 0, .int .u64 0, .int .u64 0, .int .u64 0, .int .u64 0, .int .u64 0] 176)) = .ok () (w.alloc (.cells (lnA R) 176)) := by
  rw [lnA_zero]
  exact run_storeCells_new w _ _ _ (by rw [lineT_size, lnA_size]) (by rw [lnA_size, lnA_size]) (lnA_one R)

/-- a step of the programme on the words; all of it; what it yields -/
def stepW (V : Nat → Nat → Nat) (x : Pr) : Nat → Nat → Nat := exW V x.1 x.2 fun j => anN (V x.2 j) (V x.1 j)
def runW (V : Nat → Nat → Nat) (p : List Pr) : Nat → Nat → Nat := p.foldl stepW V
def usedW (V : Nat → Nat → Nat) (x : Pr) : Bool := anyW fun j => anN (V x.2 j) (V x.1 j)
def stepsW : (Nat → Nat → Nat) → Nat → List Pr → List (Nat × Bool)
  | _, _, [] => []
  | V, i, x :: p => (i, usedW V x) :: stepsW (stepW V x) (i + 1) p
theorem W64.step {n : Nat} {V : Nat → Nat → Nat} (h : W64 n V) {x : Pr} (h1 : x.1 < x.2) (h2 : x.2 < n) : W64 n (stepW V x) := fun i j hi hj => by
  unfold stepW exW
  by_cases e : i = x.1
  · rw [if_pos e]; exact Bm.orN_lt (h _ _ (by omega) hj) (Bm.anN_lt (h _ _ h2 hj))
  · rw [if_neg e]
    by_cases e2 : i = x.2
    · rw [if_pos e2]; exact Bm.anN_lt (h _ _ h2 hj)
    · rw [if_neg e2]; exact h _ _ hi hj

/-- what the rounds of a range over a table's steps keep -/
def KpT (A : Option Addr) (m gt gl bx : Nat) (_ : Nat) (W W' : World) : Prop := W.heap.size ≤ W'.heap.size ∧ ∀ i, i < W.heap.size → (i = gt ∨ i = gl ∨ i = bx ∨ (0 < m ∧ ∃ off, A = some ⟨i, off, none⟩)) → W'.heap[i]? = W.heap[i]?
theorem KpT.trans {A : Option Addr} {m gt gl bx B : Nat} {X Y Z : World} (h : KpT A m gt gl bx B X Y) (k : KpT A m gt gl bx B Y Z) : KpT A m gt gl bx B X Z :=
  ⟨Nat.le_trans h.1 k.1, fun i hi hb => (k.2 i (Nat.lt_of_lt_of_le hi h.1) hb).trans (h.2 i hi hb)⟩
theorem KpT.of_turns {A : Option Addr} {m gt gl bx B : Nat} {O : Nat → Prop} {X Y : World} (h : Turns O X Y) (hO : ∀ i, (i = gt ∨ i = gl ∨ i = bx ∨ (0 < m ∧ ∃ off, A = some ⟨i, off, none⟩)) → ¬ O i) : KpT A m gt gl bx B X Y :=
  ⟨h.size, fun i hi hb => h.block i hi (hO i hb)⟩
theorem Lns.of_heap {A B : World} {g n : Nat} {V : Nat → Nat → Nat} (h : Lns A g n V) (hs : A.heap.size ≤ B.heap.size) (hb : B.heap[g]? = A.heap[g]?) : Lns B g n V :=
  ⟨Nat.lt_of_lt_of_le h.1 hs, fun i j hi hj => by rw [← h.2.1 i j hi hj]; simp only [World.cell?, hb], fun k => by rw [← h.2.2 k]; simp only [World.frozen?, hb]⟩
theorem Prs.of_heap {w w' : World} {A : Option Addr} {n : Nat} {zs : List (Int × Int)} (h : Prs w A n zs) (hs : w.heap.size ≤ w'.heap.size) (hb : 0 < n → ∀ b off, A = some ⟨b, off, none⟩ → w'.heap[b]? = w.heap[b]?) : Prs w' A n zs := by
  refine ⟨h.1, fun hn => ?_⟩
  obtain ⟨b, off, rfl, hlt, hc⟩ := h.2 hn
  have he := hb hn b off rfl
  refine ⟨b, off, rfl, Nat.lt_of_lt_of_le hlt hs, fun i x y hp => ?_⟩
  obtain ⟨h1, h2⟩ := hc i x y hp
  exact ⟨by rw [← h1]; simp only [World.cell?, he], by rw [← h2]; simp only [World.cell?, he]⟩

/-- the world of the iterator between two yields -/
structure St3 (W : World) (gt gl bx : Nat) (A : Option Addr) (m n : Nat) (p : List Pr) (V : Nat → Nat → Nat) : Prop where
  tb : Tb W gt gl A m n V
  box : Cs W bx #[.pointer (some ⟨gt, 0, none⟩)]
  prs : Prs W A m (cst p)
theorem St3.kp {W W' : World} {gt gl bx : Nat} {A : Option Addr} {m n : Nat} {p : List Pr} {V : Nat → Nat → Nat} {B : Nat} (h : St3 W gt gl bx A m n p V) (k : KpT A m gt gl bx B W W') : St3 W' gt gl bx A m n p V :=
  ⟨⟨h.tb.1.of_heap k.1 (k.2 _ h.tb.1.lt (.inl rfl)), h.tb.2.1.of_heap k.1 (k.2 _ h.tb.2.1.1 (.inr (.inl rfl))), h.tb.2.2⟩, h.box.of_heap k.1 (k.2 _ h.box.lt (.inr (.inr (.inl rfl)))),
    h.prs.of_heap k.1 (fun hm b off e => k.2 b (by obtain ⟨b', off', e', hl, _⟩ := h.prs.2 hm; rw [e] at e'; injection e' with e'; injection e' with e'; omega) (.inr (.inr (.inr ⟨hm, off, e⟩))))⟩
theorem St3.below {W W' : World} {gt gl bx : Nat} {A : Option Addr} {m n : Nat} {p : List Pr} {V : Nat → Nat → Nat} (h : St3 W gt gl bx A m n p V) (k : Below W.heap.size W W') : St3 W' gt gl bx A m n p V :=
  h.kp (B := 0) ⟨k.size, fun i hi _ => k.block i hi⟩

set_option maxRecDepth 100000 in
set_option maxHeartbeats 1000000 in
theorem steps_in (q : Nat) (hq : 1 ≤ q) (bx gt gl m n : Nat) (A : Option Addr) (p : List Pr) (V : Nat → Nat → Nat) (w : World) (hS : St3 w gt gl bx A m n p V) (hW : W64 n V) (hp : OkP n p) (hm : m ≤ 80) (hn : n ≤ 12) (hbx : bx ≠ gl) (hgA : 0 < m → ∀ b off, A = some ⟨b, off, none⟩ → b ≠ gl) :
    SeqList Fence.wide q Tryz.prog 157 #[.pointer (some ⟨bx, 0, none⟩)] (fun x : Nat × Bool => #[.int .i64 (x.1 : Nat), .bool x.2]) (fun _ i => i = gl) (KpT A m gt gl bx) (stepsW V 0 p) (fun W => Lns W gl n (runW V p)) w := by
  intro l J Jx W hWb hJ hJx hY hJ0
  refine callsIn_of_wp Tryz.func157 rfl trivial ?_ rfl
  simp only [Tryz.ntmps157, List.size_toArray, List.length_cons, List.length_nil, Nat.reduceAdd, Nat.reduceSub, Array.replicate_succ, Array.replicate_zero, List.push_toArray, List.append_toArray, List.nil_append, List.cons_append]
  have hS0 := hS.kp (B := 0) ⟨hWb.size, fun i hi _ => hWb.block i (by omega)⟩
  have HY := Lib.hid hY
  have HJ := Lib.hid hJ
  have HJx := Lib.hid hJx
  have HS := Lib.hid hS0
  have HW := Lib.hid hW
  have HP := Lib.hid hp
  have hpl : p.length = m := by have := hS0.prs.1; rwa [cst_len] at this
  have cB := hS0.box.c
  have cT := hS0.tb.1.c
  have lB := hS0.box.lt
  have lT := hS0.tb.1.lt
  have HgA := Lib.hid hgA
  clear hY hJ hJx hS hS0 hp hW hgA
  gi_wp2_with fail
  clear cB cT
  gi_loopw [11] (fun s11 wr => ∃ (k : Nat) (U : Nat → Nat → Nat) (pre : List (Nat × Bool)) (WR : World), k ≤ m ∧ s11 = .int .i64 (k : Nat) ∧ Hid (WR = wr) ∧ Hid (stepsW V 0 p = pre ++ stepsW U k (p.drop k) ∧ runW V p = runW U (p.drop k) ∧ W64 n U) ∧ Hid (St3 WR gt gl bx A m n p U) ∧ Hid (J pre WR)) (fun s11 _ => m - (intOf s11).toNat)
  case atStart => exact ⟨0, V, [], _, Nat.zero_le _, rfl, Lib.hid rfl, Lib.hid ⟨rfl, rfl, HW.out⟩, HS, Lib.hid hJ0⟩
  case round =>
    obtain ⟨k, U, pre, WR, hk, rfl, HWR, HU, HSR, HJR⟩ := hrel
    obtain rfl := HWR.out
    clear HWR HS HW
    by_cases hkm : k < m
    · obtain ⟨b, off, x, y, rfl, hget, c0, c1⟩ := HSR.out.prs.at_ (Below.refl _ _) hkm
      obtain ⟨a', b', hp', rfl, rfl⟩ := cst_get hget
      obtain ⟨hab, hbn⟩ := HP.out _ (List.mem_of_getElem? hp')
      dsimp only at hab hbn
      have hdrop : p.drop k = (a', b') :: p.drop (k + 1) := by
        obtain ⟨hl, e⟩ := List.getElem?_eq_some_iff.1 hp'
        rw [List.drop_eq_getElem_cons hl, e]
      have cB := HSR.out.box.c
      have lb : b < WR.heap.size := by
        obtain ⟨b2, o2, e2, l2, _⟩ := HSR.out.prs.2 (by omega)
        injection e2 with e2; injection e2 with e2 _; omega
      have k1 := fun W' hT => exchanged_any gt gl (some ⟨b, off, none⟩) m n a' b' U W' hT HU.out.2.2 (by omega) hbn hn
      have k2 := fun W' hT => exchange_any gt gl (some ⟨b, off, none⟩) m n a' b' U (fun j => anN (U b' j) (U a' j)) W' hT HU.out.2.2 (fun j hj => Bm.anN_lt (HU.out.2.2 _ _ hbn hj)) hab hbn hn
      have lBR := HSR.out.box.lt
      clear hget lB
      gi_wp2_with fail
      obtain ⟨W0, hW0⟩ : ∃ W, WR.alloc (.cells #[.int .i64 (a' : Nat), .int .i64 (b' : Nat)] 101) = W := ⟨_, rfl⟩
      have hs0 : W0.heap.size = WR.heap.size + 1 := by rw [← hW0]; simp
      have hb0 : Below WR.heap.size WR W0 := by rw [← hW0]; exact blA
      have X0 : Cs W0 WR.heap.size #[.int .i64 (a' : Nat), .int .i64 (b' : Nat)] := by rw [← hW0]; exact Cs.new _ _ _ _ rfl
      rw [hW0]
      clear hW0
      have hS0 := HSR.out.below hb0
      refine ⟨trivial, (callsIn_wide.2 (k1 _ hS0.tb)).mono ?_⟩
      rintro e w1 ⟨rfl, hb1⟩
      have hS1 := Lib.hid (hS0.below hb1)
      have X1 := Lib.hid (X0.keep hb1)
      have hb01 := Lib.hid (hb0.trans (hb1.mono (by omega)))
      have hs1 := hb1.size
      have cX1 := X1.out.c
      have lX1 := X1.out.lt
      have cB1 := hS1.out.box.c
      have lB1 := hS1.out.box.lt
      clear hS0 X0 hb0 hb1 k1 cB lBR c0 c1
      gi_wp2_with ((refine wpListIn_load_row rfl _ _ rfl w1.heap.size (by rfl) _ _ (0, 0) _ (heap_alloc_new w1 (.cells (lnA fun j => anN (U b' j) (U a' j)) 176)) lineT_under rfl (by rw [lineT_size, lnA_size]) ?_))
      obtain ⟨w2, hw2⟩ : ∃ W, w1.alloc (.cells (lnA fun j => anN (U b' j) (U a' j)) 176) = W := ⟨_, rfl⟩
      have hs2 : w2.heap.size = w1.heap.size + 1 := by rw [← hw2]; simp
      have hb2 : Below w1.heap.size w1 w2 := by rw [← hw2]; exact blA
      have L2 : w2.heap[w1.heap.size]? = some (.cells (lnA fun j => anN (U b' j) (U a' j)) 176 (0, 0)) := by
        rw [← hw2]; exact heap_alloc_new w1 _
      rw [hw2]
      clear hw2
      have hS2 := Lib.hid (hS1.out.below hb2)
      have X2 := Lib.hid (X1.out.keep hb2)
      have hb02 := Lib.hid (hb01.out.trans (hb2.mono (by omega)))
      clear hS1 X1 hb01 hb2 cX1 lX1 cB1 lB1
      refine ⟨trivial, (callsIn_wide.2 (k2 _ hS2.out.tb)).mono ?_⟩
      rintro e w3 ⟨rfl, hL3, hT3⟩
      clear k2
      have L3 : w3.heap[w1.heap.size]? = some (.cells (lnA fun j => anN (U b' j) (U a' j)) 176 (0, 0)) := by
        rw [hT3.block _ (by omega) (by have := HSR.out.tb.2.1.1; omega)]; exact L2
      have hS3 : Hid (St3 w3 gt gl bx (some ⟨b, off, none⟩) m n p (stepW U (a', b'))) := Lib.hid ⟨⟨hS2.out.tb.1.turns hT3 (fun e => hS2.out.tb.2.2 e), hL3, hS2.out.tb.2.2⟩, hS2.out.box.turns hT3 hbx, hS2.out.prs.turns hT3 (fun b' off' h e => HgA.out h b' off' e)⟩
      have HT3 := Lib.hid ((Turns.of_below (O := fun i => i = gl) hb02.out).trans hT3)
      have hkb : ∀ i, (i = gt ∨ i = gl ∨ i = bx ∨ (0 < m ∧ ∃ off', some (⟨b, off, none⟩ : Addr) = some ⟨i, off', none⟩)) → i = gt ∨ i = gl ∨ i = bx ∨ (0 < m ∧ ∃ off', some (⟨b, off, none⟩ : Addr) = some ⟨i, off', none⟩) := fun _ h => h
      have hJ3 := Lib.hid (HJ.out pre _ _ HJR.out HT3.out)
      obtain ⟨u, hu⟩ : ∃ u, usedW U (a', b') = u := ⟨_, rfl⟩
      have hst : stepsW V 0 p = (pre ++ [(k, u)]) ++ stepsW (stepW U (a', b')) (k + 1) (p.drop (k + 1)) := by
        rw [HU.out.1, hdrop]; simp [stepsW, hu]
      have hrun : runW V p = runW (stepW U (a', b')) (p.drop (k + 1)) := by rw [HU.out.2.1, hdrop]; rfl
      have HU2 := Lib.hid (And.intro hst (And.intro hrun (HU.out.2.2.step (x := (a', b')) hab hbn)))
      have hu' : anyW (fun j => anN (U b' j) (U a' j)) = u := hu
      obtain ⟨fn, tmps, assign, body, hy, hR⟩ := HY.out pre (k, u) w3 (by rw [hst]; exact List.prefix_append _ _) hJ3.out
      dsimp only at hy
      clear hS2 X2 hb02 L2 hL3 hT3 hkb hst hrun hu hdrop hp' HSR HJR HU
      gi_wp2_with ((refine wpListIn_load_row rfl _ _ rfl w1.heap.size (by rfl) _ _ (0, 0) _ L3 lineT_under rfl (by rw [lineT_size, lnA_size]) ?_))
      refine hR.mono ?_
      rintro e W4 (⟨rfl, hJ4, hk4⟩ | ⟨rfl, hJx4⟩)
      · have HS4 := Lib.hid (hS3.out.kp hk4)
        have HJ4 := Lib.hid hJ4
        clear hJ4 hk4 hS3 hR hy L3
        gi_wp2_with fail
        go_roundw
        case rel => exact ⟨k + 1, stepW U (a', b'), pre ++ [(k, u)], _, by omega, by go_num, Lib.hid rfl, HU2, HS4, HJ4⟩
        case measure => simp [intOf]; omega
      · have HJx4 := Lib.hid hJx4
        clear hJx4 hR hy L3
        gi_wp2_with fail
        refine bodyPost_ret (results_none rfl _ _ _) rfl ⟨⟨_, rfl⟩, .inr ⟨_, ?_, HJx4.out⟩⟩
        rw [HU2.out.1]; exact List.prefix_append _ _
    · have e : k = m := by omega
      gi_wp2_with fail
      go_end0
      have hd : p.drop k = [] := List.drop_of_length_le (by omega)
      have h1 := HU.out.1
      have h2 := HU.out.2.1
      rw [hd] at h1 h2
      exact ⟨⟨_, rfl⟩, .inl ⟨by rw [h2]; exact HSR.out.tb.2.1, by rw [h1]; simpa [stepsW] using HJR.out⟩⟩

end Go.Proofs.YtminplfgadhnnaaGreatDoor
end

/- Plain laws: trailing zeros; words and rows. -/
section
set_option linter.unusedSimpArgs false
set_option linter.unusedVariables false
namespace Bm
open Go

theorem ctz_bit {x : Nat} (h0 : 0 < x) (hx : x < 18446744073709551616) : Lib.ctz 64 x < 64 ∧ x.testBit (Lib.ctz 64 x) = true ∧ ∀ i, i < Lib.ctz 64 x → x.testBit i = false := by
  have e : Lib.ctz 64 x = Lib.ctzFrom 64 x := by rw [Lib.ctz, if_neg (by omega)]
  rw [e]
  obtain ⟨m, hm, hk⟩ := Lib.ctzFrom_spec 64 x h0 hx
  generalize Lib.ctzFrom 64 x = k at hm hk
  subst hm
  refine ⟨hk, ?_, fun i hi => ?_⟩
  · rw [Nat.testBit_two_pow_mul]
    simp [Nat.testBit_zero]
  · rw [Nat.testBit_two_pow_mul]
    simp; omega

/-- the first word that is not nought, and its first bit: the first number -/
theorem first_bit {f : Nat → Bool} {j : Nat} (hj : ∀ i, i < j → wd f i = 0) (h0 : wd f j ≠ 0) : f (64 * j + Lib.ctz 64 (wd f j)) = true ∧ ∀ k, k < 64 * j + Lib.ctz 64 (wd f j) → f k = false := by
  obtain ⟨h1, h2, h3⟩ := ctz_bit (Nat.pos_of_ne_zero h0) (wd_lt f j)
  rw [wd_bit] at h2
  simp only [Bool.and_eq_true, decide_eq_true_eq] at h2
  refine ⟨h2.2, fun k hk => ?_⟩
  by_cases e : k < 64 * j
  · have := wd_zero.1 (hj (k / 64) (by omega)) (k % 64) (by omega)
    rwa [show 64 * (k / 64) + k % 64 = k by omega] at this
  · have := h3 (k - 64 * j) (by omega)
    rw [wd_bit, show 64 * j + (k - 64 * j) = k by omega] at this
    simpa [show k - 64 * j < 64 by omega] using this

end Bm
end

/- Walks of package bench: first. -/
section
namespace Go.Proofs.YtminplfgadhnnaaGreatDoor
open Go.RowKit Go.Shelf
set_option linter.unusedSimpArgs false
set_option linter.unusedVariables false
open Bm (wd rowL tab fstBad b2i)

/-- the library's table as its initialiser lays it -/
def TabW (w : World) : Prop := 1 < w.heap.size ∧ ∀ j, j < 64 → w.cell? ⟨1, j, none⟩ = some (.int .u8 ((Lib.deBruijn64tab.getD j 0 : Nat) : Int))
theorem TabW.below {w w' : World} (h : TabW w) {B : Nat} (hb : Below B w w') (hB : 1 < B) : TabW w' :=
  ⟨Nat.lt_of_lt_of_le h.1 hb.size, fun j hj => by rw [← h.2 j hj]; simp only [World.cell?, hb.block _ hB]⟩
theorem TabW.turns {w w' : World} {O : Nat → Prop} (h : TabW w) (hb : Turns O w w') (hO : ¬ O 1) : TabW w' :=
  ⟨Nat.lt_of_lt_of_le h.1 hb.size, fun j hj => by rw [← h.2 j hj]; simp only [World.cell?, hb.block _ h.1 hO]⟩

set_option maxHeartbeats 1000000 in
theorem tz_core (x k idx : Nat) (w : World) (hx0 : 0 < x)
    (key : IntKind.u64.wrap (bits BinOp.and IntKind.u64 (x : Int) (IntKind.u64.wrap (-(x : Int))) * 285870213051353865) / 288230376151711744 = (idx : Int))
    (hi : idx < 64) (hk : k < 64) (hcell : w.cell? ⟨1, idx, none⟩ = some (.int .u8 k)) :
    Calls Tryz.prog 164 #[.int .u64 x] w fun e w' => e = .returned (.int .i64 k) ∧ w' = w := by
  go_enter Tryz.func164, Tryz.ntmps164
  go_wp2_with (simp only [key])
  go_ret
  exact ⟨rfl, rfl⟩
theorem tz_any (x : Nat) (hx0 : 0 < x) (hx : x < 18446744073709551616) (w : World) (hT : TabW w) :
    Calls Tryz.prog 164 #[.int .u64 x] w fun e w' => e = .returned (.int .i64 (Lib.ctz 64 x : Nat)) ∧ w' = w := by
  obtain ⟨hlow, hk⟩ := Lib.lowest_bit 64 x (by omega) hx
  obtain ⟨hi, htab⟩ := Lib.deBruijn64_at _ hk
  have hcell := hT.2 _ hi
  rw [htab] at hcell
  exact tz_core x _ _ w hx0 (tz64_key x _ hx (by omega) hlow) hi hk hcell

/-- a row of lamps of which the first are entered -/
def rowK (n k i : Nat) : List Int := (List.range n).map fun q => if q < i then b2i (tab n k q) else 0
theorem rowK_len (n k i : Nat) : (rowK n k i).length = n := by simp [rowK]
theorem rowK_zero (n k : Nat) : rowK n k 0 = List.replicate n 0 := by
  apply List.ext_getElem
  · simp [rowK]
  · intro q h1 h2; simp [rowK]
theorem rowK_end (n k : Nat) : rowK n k n = rowL n k := by
  unfold rowK rowL
  exact List.map_congr_left fun q hq => if_pos (by simpa using hq)
theorem rowK_set (n k i : Nat) : (rowK n k i).set i (b2i (tab n k i)) = rowK n k (i + 1) := by
  apply List.ext_getElem
  · simp [rowK]
  · intro q h1 h2
    simp only [rowK, List.getElem_set, List.getElem_map, List.getElem_range]
    by_cases e : i = q
    · subst e; simp
    · rw [if_neg e]
      by_cases e2 : q < i
      · rw [if_pos e2, if_pos (by omega)]
      · rw [if_neg e2, if_neg (by omega)]

set_option maxRecDepth 100000 in
set_option maxHeartbeats 4000000 in
theorem first_any (gt gl m n : Nat) (A : Option Addr) (f : Nat → Bool) (w : World) (Ct : Cs w gt #[.slice A m m, .int .i64 (n : Nat), .slice (some ⟨gl, 0, none⟩) n n]) (h2 : 2 ≤ n) (h12 : n ≤ 12) (hf : ∀ k, 2 ^ n ≤ k → f k = false) (hT : TabW w) :
    Calls Tryz.prog 155 #[.pointer (some ⟨gt, 0, none⟩), .agg (lnA (wd f))] w fun e w' => ∃ A' l, e = .returned (.tuple #[.slice A' l l, .bool (fstBad n f).isSome]) ∧ Ints w' A' l (firstS n f).1 ∧ l ≤ 1000 ∧ Below w.heap.size w w' := by
  obtain ⟨W0, hW0⟩ : ∃ W, w.alloc (.cells (lnA (wd f)) 176) = W := ⟨_, rfl⟩
  have X1 : W0.heap[w.heap.size]? = some (.cells (lnA (wd f)) 176 (0, 0)) := by rw [← hW0]; exact heap_alloc_new w _
  have hb0 : Below w.heap.size w W0 := by rw [← hW0]; exact blA
  have hT0 := Lib.hid (hT.below hb0 hT.1)
  have C0 := Ct.keep hb0
  have hmk := run_makeR n (by omega)
  have Hf := Lib.hid hf
  have HC0 := Lib.hid C0
  have Hb0 := Lib.hid hb0
  have HX1 := Lib.hid X1
  have HW0 := Lib.hid hW0
  clear hb0 hT C0 hf X1 hW0
  go_enter Tryz.func155, Tryz.ntmps155
  go_upto_region 1 with fail
  rw [HW0.out]
  clear HW0
  have X1 := HX1.out
  clear HX1
  go_wp2_with fail
  go_step3
  go_wp2_with fail
  go_step3
  go_wp2_with ((refine wpList_load_row rfl _ _ rfl w.heap.size (by rfl) _ _ (0, 0) _ X1 lineT_under rfl (by rw [lineT_size, lnA_size]) ?_))
  clear X1
  go_loopw [6, 12] (fun s6 s12 wx => ∃ (j : Nat), j ≤ 64 ∧ s6 = .int .i64 (-1) ∧ s12 = .int .i64 (j : Nat) ∧ Hid (wx = W0) ∧ Hid (∀ i, i < j → wd f i = 0)) (fun _ s12 _ => 64 - (intOf s12).toNat)
  case atStart => exact ⟨0, by omega, rfl, rfl, Lib.hid rfl, Lib.hid fun i hi => by omega⟩
  case round =>
    obtain ⟨j, hj, rfl, rfl, HWx, Hz⟩ := hrel
    rw [HWx.out]
    clear HWx
    by_cases hjl : j < 64
    · have hix := fun W => run_index_ln (wd f) j hjl W
      obtain ⟨x, hx⟩ : ∃ x, wd f j = x := ⟨_, rfl⟩
      rw [hx] at hix
      by_cases hx0 : x = 0
      · subst hx0
        go_wp2_with fail
        go_roundw
        case rel => exact ⟨j + 1, by omega, by go_num, by go_num, by first | exact Lib.hid rfl | exact Lib.hid trivial, Lib.hid fun i hi => by
          by_cases e : i = j
          · rw [e]; exact hx
          · exact Hz.out i (by omega)⟩
        case measure => simp [intOf]; omega
      · have hxp : ((x : Nat) : Int) ≠ 0 := by omega
        have hxl : x < 18446744073709551616 := by rw [← hx]; exact Bm.wd_lt f j
        have k1 := tz_any x (by omega) hxl _ hT0.out
        obtain ⟨hb1, hb2⟩ := Bm.first_bit Hz.out (by rw [hx]; exact hx0)
        rw [hx] at hb1 hb2
        have hc := (Bm.ctz_bit (x := x) (by omega) hxl).1
        obtain ⟨c, hcc⟩ : ∃ c, Lib.ctz 64 x = c := ⟨_, rfl⟩
        rw [hcc] at k1 hb1 hb2 hc
        obtain ⟨at', hat⟩ : ∃ a, 64 * j + c = a := ⟨_, rfl⟩
        rw [hat] at hb1 hb2
        have hal : at' < 2 ^ n := by
          rcases Nat.lt_or_ge at' (2 ^ n) with h | h
          · exact h
          · rw [Hf.out _ h] at hb1; cases hb1
        have hfb := Bm.fstBad_some.2 ⟨hal, hb1, hb2⟩
        have hfs := firstS_some hal hb1 hb2
        clear hb1 hb2
        go_wp2_with fail
        refine k1.mono ?_
        rintro _ w1 ⟨rfl, hw1⟩
        rw [hw1]
        clear hw1
        have C1 := HC0.out
        have cC := C1.c
        have lC := C1.lt
        go_upto_region 8 with fail
        rw [show (64 * (j : Int) + (c : Int)) = ((at' : Nat) : Int) by omega]
        clear hat hcc hc hxl hxp hx hix Hz k1
        go_wp2_with fail
        have hR0 : Rw (W0.alloc (.cells (zerosA n) 2)) W0.heap.size (rowK n at' 0) := by rw [rowK_zero]; exact Rw.zeros _ _ _ rfl
        have HX := Lib.hid (And.intro hR0 (And.intro (C1.alloc (.cells (zerosA n) 2)) (balloc Hb0.out (.cells (zerosA n) 2))))
        have hsW := Hb0.out.size
        have hne : gt ≠ W0.heap.size := by omega
        clear hR0 cC lC C1 hmk
        go_loopw [33] (fun s33 wx => ∃ (i : Nat) (V : World), i ≤ n ∧ s33 = .int .i64 (i : Nat) ∧ Hid (V = wx) ∧ Hid (Rw V W0.heap.size (rowK n at' i) ∧ Cs V gt #[.slice A m m, .int .i64 (n : Nat), .slice (some ⟨gl, 0, none⟩) n n] ∧ Below w.heap.size w V)) (fun s33 _ => n - (intOf s33).toNat)
        case atStart => exact ⟨0, _, Nat.zero_le _, rfl, Lib.hid rfl, HX⟩
        case round =>
          clear HX
          obtain ⟨i, V, hi, rfl, HV, HX⟩ := hrel
          obtain rfl := HV.out
          clear HV
          by_cases hin : i < n
          · obtain ⟨hR, C2, hb2⟩ := HX.out
            have cC := C2.c
            have lC := C2.lt
            have cR := hR.cell (k := i) (by rw [rowK_len]; exact hin)
            have fR := hR.frozen
            have lR := hR.lt
            have i1 : (i : Int) ≤ (n : Int) - 1 := by omega
            have han := and_one at' (n - 1 - i)
            have hS := hR.set i (b2i (at'.testBit (n - 1 - i)))
            rw [show b2i (at'.testBit (n - 1 - i)) = b2i (tab n at' i) from rfl, rowK_set] at hS
            obtain ⟨z, hz⟩ : ∃ z, b2i (at'.testBit (n - 1 - i)) = z := ⟨_, rfl⟩
            rw [show b2i (tab n at' i) = z from hz] at hS
            rw [hz] at han
            have HN := Lib.hid (And.intro hS (And.intro (C2.other (p := ⟨W0.heap.size, i, none⟩) hne (.int .i64 z)) (bset hb2 (p := ⟨W0.heap.size, i, none⟩) hsW (.int .i64 z))))
            clear hR C2 hb2 hS hz
            go_wp2_with fail
            go_roundw
            case rel => exact ⟨i + 1, _, by omega, by go_num, Lib.hid rfl, HN⟩
            case measure => simp [intOf]; omega
          · obtain rfl : i = n := by omega
            obtain ⟨hR, C2, hb2⟩ := HX.out
            have HI := Lib.hid (hR.ints (rowK_len _ _ _))
            have Hb := Lib.hid hb2
            clear hR C2 hb2 HX
            go_wp2_with fail
            rw [Exit.noGoto_ret]
            go_ret2
            rw [hfb, hfs]
            have hI := HI.out
            rw [rowK_end] at hI
            exact ⟨_, i, rfl, hI, by omega, Hb.out⟩
    · have hnone : fstBad n f = none := Bm.fstBad_none.2 fun k hk => by
        have hp := pow_le12 h12
        have := Bm.wd_zero.1 (Hz.out (k / 64) (by omega)) (k % 64) (by omega)
        rwa [show 64 * (k / 64) + k % 64 = k by omega] at this
      have hfs : firstS n f = ([], 5) := by unfold firstS; rw [hnone]
      go_wp2_with fail
      rw [Exit.noGoto_ret]
      go_ret2
      rw [hnone, hfs]
      exact ⟨none, 0, rfl, Ints.nil _ _, by omega, Hb0.out⟩

end Go.Proofs.YtminplfgadhnnaaGreatDoor
end

/- Plain laws: the words of a table are the rows' lamps. -/
section
set_option linter.unusedSimpArgs false
set_option linter.unusedVariables false
namespace Bm

/-- the lamps of all rows behind a programme -/
def tabP (n : Nat) (p : List Pr) (i k : Nat) : Bool := decide (k < 2 ^ n) && runB p (tab n k) i
theorem tabP_left {n : Nat} {p : List Pr} {a b : Nat} (hab : a < b) (k : Nat) : (tabP n p a k || (tabP n p b k && !tabP n p a k)) = tabP n (p ++ [(a, b)]) a k := by
  unfold tabP
  rw [runB_snoc]
  simp only [xch, show ¬ a = b by omega, if_false, if_true]
  cases decide (k < 2 ^ n) <;> cases runB p (tab n k) a <;> cases runB p (tab n k) b <;> rfl
theorem tabP_right {n : Nat} {p : List Pr} {a b : Nat} (k : Nat) : (tabP n p b k && !(tabP n p b k && !tabP n p a k)) = tabP n (p ++ [(a, b)]) b k := by
  unfold tabP
  rw [runB_snoc]
  simp only [xch, if_true]
  cases decide (k < 2 ^ n) <;> cases runB p (tab n k) a <;> cases runB p (tab n k) b <;> rfl
theorem tabP_other {n : Nat} {p : List Pr} {a b i : Nat} (ha : i ≠ a) (hb : i ≠ b) (k : Nat) : tabP n p i k = tabP n (p ++ [(a, b)]) i k := by
  unfold tabP
  rw [runB_snoc]
  simp only [xch, ha, hb, if_false]
/-- the rows on which a pair does something -/
theorem tabP_used {n : Nat} (p : List Pr) (a b k : Nat) : (tabP n p b k && !tabP n p a k) = (decide (k < 2 ^ n) && (runB p (tab n k) b && !runB p (tab n k) a)) := by
  unfold tabP
  cases decide (k < 2 ^ n) <;> cases runB p (tab n k) a <;> cases runB p (tab n k) b <;> rfl

end Bm
end

/- The words of a table behind a programme; walks of package bench: steps, unordered. -/
section
namespace Go.Proofs.YtminplfgadhnnaaGreatDoor
open Go.RowKit Go.Shelf
set_option linter.unusedSimpArgs false
set_option linter.unusedVariables false
open Bm (wd anN tab tabP runB stp usd Pr OkP unord)

/-- the words behind a programme -/
def WT (n : Nat) (p : List Pr) (i j : Nat) : Nat := wd (tabP n p i) j
theorem WT_lt (n : Nat) (p : List Pr) : W64 n (WT n p) := fun i j _ _ => Bm.wd_lt _ _
theorem WT_start (n : Nat) : (fun i j => vK n (2 ^ n) i j) = WT n [] := rfl
theorem usedL (n : Nat) (p : List Pr) (a b : Nat) : (fun j => anN (WT n p b j) (WT n p a j)) = wd (fun k => tabP n p b k && !tabP n p a k) := by
  funext j; exact Bm.wd_anN _ _ _
theorem WT_step (n : Nat) (p : List Pr) {a b : Nat} (hab : a < b) : stepW (WT n p) (a, b) = WT n (p ++ [(a, b)]) := by
  funext i j
  unfold stepW exW
  dsimp only
  rw [show anN (WT n p b j) (WT n p a j) = wd (fun k => tabP n p b k && !tabP n p a k) j from Bm.wd_anN _ _ _]
  by_cases h1 : i = a
  · subst h1
    rw [if_pos rfl]
    unfold WT
    rw [Bm.wd_or]
    exact Bm.wd_congr fun q _ => Bm.tabP_left hab _
  · rw [if_neg h1]
    by_cases h2 : i = b
    · subst h2
      rw [if_pos rfl]
      unfold WT
      rw [Bm.wd_anN]
      exact Bm.wd_congr fun q _ => Bm.tabP_right _
    · rw [if_neg h2]
      exact Bm.wd_congr fun q _ => Bm.tabP_other h1 h2 _
theorem anyW_wd {n : Nat} (hn : n ≤ 12) (f : Nat → Bool) : anyW (wd f) = (List.range 4096).any f := by
  rw [Bool.eq_iff_iff]
  constructor
  · intro h
    rcases hc : (List.range 4096).any f with _ | _
    · exfalso
      have h0 := (Bm.wd_all_zero hn (f := f)).2 (fun k hk => by
        cases hk' : f k with
        | false => rfl
        | true => have := List.any_eq_false.1 hc k (List.mem_range.2 hk); exact absurd hk' this)
      unfold anyW at h
      obtain ⟨j, hj, hb⟩ := List.any_eq_true.1 h
      have := h0 j (List.mem_range.1 hj)
      rw [this] at hb; exact absurd hb (by decide)
    · rfl
  · intro h
    obtain ⟨k, hk, hb⟩ := List.any_eq_true.1 h
    have hk := List.mem_range.1 hk
    unfold anyW
    refine List.any_eq_true.2 ⟨k / 64, List.mem_range.2 (by omega), ?_⟩
    rw [bne_iff_ne]
    intro h0
    have := Bm.wd_zero.1 h0 (k % 64) (by omega)
    rw [show 64 * (k / 64) + k % 64 = k by omega, hb] at this
    cases this
theorem usedW_WT {n : Nat} (hn : n ≤ 12) (p : List Pr) (a b : Nat) : usedW (WT n p) (a, b) = usd n p (a, b) := by
  unfold usedW
  dsimp only
  rw [usedL, anyW_wd hn, usd, Bool.eq_iff_iff]
  have hp := pow_le12 hn
  constructor
  · intro h
    obtain ⟨k, hk, hb⟩ := List.any_eq_true.1 h
    rw [Bm.tabP_used] at hb
    simp only [Bool.and_eq_true, decide_eq_true_eq] at hb
    refine List.any_eq_true.2 ⟨k, List.mem_range.2 hb.1, ?_⟩
    simp only [Bm.exch, Bool.and_eq_true]; exact hb.2
  · intro h
    obtain ⟨k, hk, hb⟩ := List.any_eq_true.1 h
    have hk := List.mem_range.1 hk
    refine List.any_eq_true.2 ⟨k, List.mem_range.2 (by omega), ?_⟩
    rw [Bm.tabP_used]
    simp only [Bm.exch, Bool.and_eq_true] at hb
    simp only [Bool.and_eq_true, decide_eq_true_eq]; exact ⟨hk, hb⟩
theorem stepsW_WT {n : Nat} (hn : n ≤ 12) : ∀ (p pre : List Pr) (i : Nat), OkP n p → stepsW (WT n pre) i p = stp n pre i p
  | [], _, _, _ => rfl
  | (a, b) :: p, pre, i, hp => by
    have h := hp.head
    rw [stepsW, stp, usedW_WT hn, WT_step n pre h.1, stepsW_WT hn p (pre ++ [(a, b)]) (i + 1) hp.tail]
theorem runW_WT {n : Nat} : ∀ (p pre : List Pr), OkP n p → runW (WT n pre) p = WT n (pre ++ p)
  | [], pre, _ => by simp [runW]
  | (a, b) :: p, pre, hp => by
    have h := hp.head
    have := runW_WT p (pre ++ [(a, b)]) hp.tail
    rw [← WT_step n pre h.1] at this
    show runW (stepW (WT n pre) (a, b)) p = _
    rw [this]; simp

set_option maxHeartbeats 400000 in
theorem steps_any (gt : Nat) (w : World) : Calls Tryz.prog 129 #[.pointer (some ⟨gt, 0, none⟩)] w fun e w' => e = .returned (.func (.func 157) #[] #[.pointer (some ⟨w.heap.size, 0, none⟩)]) ∧ Cs w' w.heap.size #[.pointer (some ⟨gt, 0, none⟩)] ∧ Below w.heap.size w w' := by
  go_enter Tryz.func129, Tryz.ntmps129
  go_wp2_with fail
  go_ret
  exact ⟨rfl, Cs.new _ _ _ _ rfl, blA⟩

end Go.Proofs.YtminplfgadhnnaaGreatDoor
end
