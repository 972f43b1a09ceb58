/- BA11 EN1 EN2 EN3 BR9 BR10 BU1 BF1 BF3 BK12A BK12 VT -/
import Derived.Test.YtminplfgadhnnaaGreatDoorSS05
import Derived.Deep.RegionHeld3
import Derived.Test.YtminplfgadhnnaaGreatDoorSS01
import Derived.Deep.DeepCutAuto
import Derived.BigQuiet
import Derived.Test.YtminplfgadhnnaaGreatDoorTV06
import Derived.Test.YtminplfgadhnnaaGreatDoorTV07
import Derived.Test.YtminplfgadhnnaaGreatDoorTV08
/- Walks of package bench: Value, Span. -/
section
namespace Go.Proofs.YtminplfgadhnnaaGreatDoor
open Go.RowKit Go.Shelf
set_option linter.unusedSimpArgs false
set_option linter.unusedVariables false
open Bm (pwr)

/-- something is a truth of a bar -/
def inT (p1 p2 s1 s2 t1 t2 p s t : Int) : Bool := !out_b p1 p2 p && (!out_b s1 s2 s && !out_b t1 t2 t)
def valE (l n p1 p2 s1 s2 t1 t2 p s t : Int) : (Int × Int) × Int :=
  if barE l n p1 p2 s1 s2 t1 t2 ≠ 0 then ((0, 0), barE l n p1 p2 s1 s2 t1 t2) else if inT p1 p2 s1 s2 t1 t2 p s t then (pwr l p s t, 0) else ((0, 0), 3)
def spaE (l n p1 p2 s1 s2 t1 t2 : Int) : ((Int × Int) × (Int × Int)) × Int :=
  if barE l n p1 p2 s1 s2 t1 t2 ≠ 0 then (((0, 0), (0, 0)), barE l n p1 p2 s1 s2 t1 t2) else ((pwr l p1 s2 t2, pwr l p2 s1 t1), 0)
set_option maxRecDepth 100000 in
set_option maxHeartbeats 4000000 in
theorem value_any (l n p1 p2 s1 s2 t1 t2 p s t : Int) (w : World) :
    Calls Tryz.prog 24 #[.agg #[.int .i64 l, .int .i64 n, .int .i64 p1, .int .i64 p2, .int .i64 s1, .int .i64 s2, .int .i64 t1, .int .i64 t2], .agg #[.int .i64 p, .int .i64 s, .int .i64 t]] w fun e w' => e = .returned (.tuple #[.agg #[.int .i64 (valE l n p1 p2 s1 s2 t1 t2 p s t).1.1, .int .i64 (valE l n p1 p2 s1 s2 t1 t2 p s t).1.2], .int .i64 (valE l n p1 p2 s1 s2 t1 t2 p s t).2]) ∧ Below w.heap.size w w' := by
  have k1 := fun W => checkBar_any l n p1 p2 s1 s2 t1 t2 W
  by_cases h0 : barE l n p1 p2 s1 s2 t1 t2 = 0
  · have hok := bar_ok h0
    have k2 := fun A c W hz => within_any_b p1 p2 A 1 c [p] W hz (by omega)
    have k3 := fun A c W hz => within_any_b s1 s2 A 1 c [s] W hz (by omega)
    have k4 := fun A c W hz => within_any_b t1 t2 A 1 c [t] W hz (by omega)
    rw [all_one] at k2 k3 k4
    have e : valE l n p1 p2 s1 s2 t1 t2 p s t = if inT p1 p2 s1 s2 t1 t2 p s t then (pwr l p s t, 0) else ((0, 0), 3) := by unfold valE; rw [if_neg (by simpa using h0)]
    rw [e]
    rw [h0] at k1
    have g2 := out_false (lo := p1) (hi := p2) (x := p)
    have g3 := out_false (lo := s1) (hi := s2) (x := s)
    have g4 := out_false (lo := t1) (hi := t2) (x := t)
    unfold inT
    have kp := fun (W : World) (h2 : out_b p1 p2 p = false) (h3 : out_b s1 s2 s = false) (h4 : out_b t1 t2 t = false) => bpower_any l n p1 p2 s1 s2 t1 t2 p s t W (by omega) (by have := g2.1 h2; omega) (by have := g2.1 h2; omega) (by have := g3.1 h3; omega) (by have := g3.1 h3; omega) (by have := g4.1 h4; omega) (by have := g4.1 h4; omega)
    clear h0 hok g2 g3 g4 e
    generalize out_b p1 p2 p = b2 at *
    generalize out_b s1 s2 s = b3 at *
    generalize out_b t1 t2 t = b4 at *
    generalize pwr l p s t = r at *
    have Hkp := Lib.hid kp
    clear kp
    go_enter Tryz.func24, Tryz.ntmps24
    go_wp2_with fail
    refine (k1 _).mono ?_
    rintro e w1 ⟨rfl, hb1⟩
    replace B0 : Cs w1 (w.heap.size) #[.int .i64 l, .int .i64 n, .int .i64 p1, .int .i64 p2, .int .i64 s1, .int .i64 s2, .int .i64 t1, .int .i64 t2] := Cs.keep csA hb1
    replace B1 : Cs w1 (w.heap.size + 1) #[.int .i64 p, .int .i64 s, .int .i64 t] := Cs.keep csA hb1
    replace B2 : Cs w1 (w.heap.size + 1 + 1) #[.int .i64 0, .int .i64 0] := Cs.keep csA hb1
    replace hbw : Below w.heap.size w w1 := blA
    replace cB0 := B0.c
    replace fB0 := B0.f
    replace lB0 := B0.lt
    replace cB1 := B1.c
    replace fB1 := B1.f
    replace lB1 := B1.lt
    replace cB2 := B2.c
    replace fB2 := B2.f
    replace lB2 := B2.lt
    clear hb1
    clear k1
    go_wp2_with fail
    refine (k2 _ _ _ (Ints.new1 _ _ _ _ (by simp))).mono ?_
    rintro _ w2 ⟨rfl, hb2⟩
    replace B0 : Cs w2 (w.heap.size) #[.int .i64 l, .int .i64 n, .int .i64 p1, .int .i64 p2, .int .i64 s1, .int .i64 s2, .int .i64 t1, .int .i64 t2] := Cs.keep csA hb2
    replace B1 : Cs w2 (w.heap.size + 1) #[.int .i64 p, .int .i64 s, .int .i64 t] := Cs.keep csA hb2
    replace B2 : Cs w2 (w.heap.size + 1 + 1) #[.int .i64 0, .int .i64 0] := Cs.keep csA hb2
    replace B3 : Cs w2 (w1.heap.size) #[.int .i64 l, .int .i64 n, .int .i64 p1, .int .i64 p2, .int .i64 s1, .int .i64 s2, .int .i64 t1, .int .i64 t2] := Cs.keep csA hb2
    replace hbw : Below w.heap.size w w2 := blA
    replace cB0 := B0.c
    replace fB0 := B0.f
    replace lB0 := B0.lt
    replace cB1 := B1.c
    replace fB1 := B1.f
    replace lB1 := B1.lt
    replace cB2 := B2.c
    replace fB2 := B2.f
    replace lB2 := B2.lt
    replace cB3 := B3.c
    replace fB3 := B3.f
    replace lB3 := B3.lt
    clear hb2
    clear k2
    cases b2 with
    | true =>
      clear Hkp k3 k4
      go_wp2_with fail
      exact bodyPost_ret (v := .tuple #[.agg #[.int .i64 0, .int .i64 0], .int .i64 3]) (by simp [results, Tryz.results24, go_sem, cB0, fB0, lB0, cB1, fB1, lB1, cB2, fB2, lB2, cB3, fB3, lB3]) rfl ⟨rfl, blA⟩
    | false =>
    replace Hkp := Lib.hid (fun W => Hkp.out W rfl)
    go_wp2_with fail
    refine (k3 _ _ _ (Ints.new1 _ _ _ _ (by simp))).mono ?_
    rintro _ w3 ⟨rfl, hb3⟩
    replace B0 : Cs w3 (w.heap.size) #[.int .i64 l, .int .i64 n, .int .i64 p1, .int .i64 p2, .int .i64 s1, .int .i64 s2, .int .i64 t1, .int .i64 t2] := Cs.keep csA hb3
    replace B1 : Cs w3 (w.heap.size + 1) #[.int .i64 p, .int .i64 s, .int .i64 t] := Cs.keep csA hb3
    replace B2 : Cs w3 (w.heap.size + 1 + 1) #[.int .i64 0, .int .i64 0] := Cs.keep csA hb3
    replace B3 : Cs w3 (w1.heap.size) #[.int .i64 l, .int .i64 n, .int .i64 p1, .int .i64 p2, .int .i64 s1, .int .i64 s2, .int .i64 t1, .int .i64 t2] := Cs.keep csA hb3
    replace hbw : Below w.heap.size w w3 := blA
    replace cB0 := B0.c
    replace fB0 := B0.f
    replace lB0 := B0.lt
    replace cB1 := B1.c
    replace fB1 := B1.f
    replace lB1 := B1.lt
    replace cB2 := B2.c
    replace fB2 := B2.f
    replace lB2 := B2.lt
    replace cB3 := B3.c
    replace fB3 := B3.f
    replace lB3 := B3.lt
    clear hb3
    clear k3
    cases b3 with
    | true =>
      clear Hkp k4
      go_wp2_with fail
      exact bodyPost_ret (v := .tuple #[.agg #[.int .i64 0, .int .i64 0], .int .i64 3]) (by simp [results, Tryz.results24, go_sem, cB0, fB0, lB0, cB1, fB1, lB1, cB2, fB2, lB2, cB3, fB3, lB3]) rfl ⟨rfl, blA⟩
    | false =>
    replace Hkp := Lib.hid (fun W => Hkp.out W rfl)
    go_wp2_with fail
    refine (k4 _ _ _ (Ints.new1 _ _ _ _ (by simp))).mono ?_
    rintro _ w4 ⟨rfl, hb4⟩
    replace B0 : Cs w4 (w.heap.size) #[.int .i64 l, .int .i64 n, .int .i64 p1, .int .i64 p2, .int .i64 s1, .int .i64 s2, .int .i64 t1, .int .i64 t2] := Cs.keep csA hb4
    replace B1 : Cs w4 (w.heap.size + 1) #[.int .i64 p, .int .i64 s, .int .i64 t] := Cs.keep csA hb4
    replace B2 : Cs w4 (w.heap.size + 1 + 1) #[.int .i64 0, .int .i64 0] := Cs.keep csA hb4
    replace B3 : Cs w4 (w1.heap.size) #[.int .i64 l, .int .i64 n, .int .i64 p1, .int .i64 p2, .int .i64 s1, .int .i64 s2, .int .i64 t1, .int .i64 t2] := Cs.keep csA hb4
    replace hbw : Below w.heap.size w w4 := blA
    replace cB0 := B0.c
    replace fB0 := B0.f
    replace lB0 := B0.lt
    replace cB1 := B1.c
    replace fB1 := B1.f
    replace lB1 := B1.lt
    replace cB2 := B2.c
    replace fB2 := B2.f
    replace lB2 := B2.lt
    replace cB3 := B3.c
    replace fB3 := B3.f
    replace lB3 := B3.lt
    clear hb4
    clear k4
    cases b4 with
    | true =>
      clear Hkp
      go_wp2_with fail
      exact bodyPost_ret (v := .tuple #[.agg #[.int .i64 0, .int .i64 0], .int .i64 3]) (by simp [results, Tryz.results24, go_sem, cB0, fB0, lB0, cB1, fB1, lB1, cB2, fB2, lB2, cB3, fB3, lB3]) rfl ⟨rfl, blA⟩
    | false =>
    obtain ⟨r1, r2⟩ := r
    have kp := fun W => Hkp.out W rfl
    clear Hkp
    dsimp only at kp
    go_wp2_with fail
    refine (kp _).mono ?_
    rintro _ w5 ⟨rfl, hb5⟩
    try clear cB0 fB0 lB0
    try clear B0
    try clear cB1 fB1 lB1
    try clear B1
    try clear cB3 fB3 lB3
    try clear B3
    replace B2 : Cs w5 (w.heap.size + 1 + 1) #[.int .i64 0, .int .i64 0] := Cs.keep csA hb5
    replace hbw : Below w.heap.size w w5 := blA
    replace cB2 := B2.c
    replace fB2 := B2.f
    replace lB2 := B2.lt
    clear hb5
    clear kp
    go_wp2_with fail
    exact bodyPost_ret (v := .tuple #[.agg #[.int .i64 r1, .int .i64 r2], .int .i64 0]) (by simp [results, Tryz.results24, go_sem, cB2, fB2, lB2]) rfl ⟨rfl, blA⟩
  · have e : valE l n p1 p2 s1 s2 t1 t2 p s t = ((0, 0), barE l n p1 p2 s1 s2 t1 t2) := by unfold valE; rw [if_pos h0]
    rw [e]
    generalize barE l n p1 p2 s1 s2 t1 t2 = q at *
    have x1 : (q != 0) = true := by simpa using h0
    have x2 : (q == 0) = false := by simpa using h0
    clear e
    go_enter Tryz.func24, Tryz.ntmps24
    go_wp2_with fail
    refine (k1 _).mono ?_
    rintro e w1 ⟨rfl, hb1⟩
    replace B2 : Cs w1 (w.heap.size + 1 + 1) #[.int .i64 0, .int .i64 0] := Cs.keep csA hb1
    replace hbw : Below w.heap.size w w1 := blA
    replace cB2 := B2.c
    replace fB2 := B2.f
    replace lB2 := B2.lt
    clear hb1
    clear k1
    go_wp2_with fail
    exact bodyPost_ret (v := .tuple #[.agg #[.int .i64 0, .int .i64 0], .int .i64 q]) (by simp [results, Tryz.results24, go_sem, cB2, fB2, lB2]) rfl ⟨rfl, blA⟩

set_option maxRecDepth 100000 in
set_option maxHeartbeats 4000000 in
theorem span_any (l n p1 p2 s1 s2 t1 t2 : Int) (w : World) :
    Calls Tryz.prog 25 #[.agg #[.int .i64 l, .int .i64 n, .int .i64 p1, .int .i64 p2, .int .i64 s1, .int .i64 s2, .int .i64 t1, .int .i64 t2]] w fun e w' => e = .returned (.tuple #[.agg #[.int .i64 (spaE l n p1 p2 s1 s2 t1 t2).1.1.1, .int .i64 (spaE l n p1 p2 s1 s2 t1 t2).1.1.2, .int .i64 (spaE l n p1 p2 s1 s2 t1 t2).1.2.1, .int .i64 (spaE l n p1 p2 s1 s2 t1 t2).1.2.2], .int .i64 (spaE l n p1 p2 s1 s2 t1 t2).2]) ∧ Below w.heap.size w w' := by
  have k1 := fun W => checkBar_any l n p1 p2 s1 s2 t1 t2 W
  by_cases h0 : barE l n p1 p2 s1 s2 t1 t2 = 0
  · have hok := bar_ok h0
    have e : spaE l n p1 p2 s1 s2 t1 t2 = ((pwr l p1 s2 t2, pwr l p2 s1 t1), 0) := by unfold spaE; rw [if_neg (by simpa using h0)]
    rw [e]
    rw [h0] at k1
    have kp := fun (W : World) => bpower_any l n p1 p2 s1 s2 t1 t2 p1 s2 t2 W (by omega) (by omega) (by omega) (by omega) (by omega) (by omega) (by omega)
    have kq := fun (W : World) => bpower_any l n p1 p2 s1 s2 t1 t2 p2 s1 t1 W (by omega) (by omega) (by omega) (by omega) (by omega) (by omega) (by omega)
    clear h0 hok e
    generalize pwr l p1 s2 t2 = r at *
    generalize pwr l p2 s1 t1 = r' at *
    obtain ⟨a, b⟩ := r
    obtain ⟨c, d⟩ := r'
    dsimp only at kp kq
    go_enter Tryz.func25, Tryz.ntmps25
    go_wp2_with fail
    refine (k1 _).mono ?_
    rintro e w1 ⟨rfl, hb1⟩
    replace B0 : Cs w1 (w.heap.size) #[.int .i64 l, .int .i64 n, .int .i64 p1, .int .i64 p2, .int .i64 s1, .int .i64 s2, .int .i64 t1, .int .i64 t2] := Cs.keep csA hb1
    replace B1 : Cs w1 (w.heap.size + 1) #[.int .i64 0, .int .i64 0, .int .i64 0, .int .i64 0] := Cs.keep csA hb1
    replace hbw : Below w.heap.size w w1 := blA
    replace cB0 := B0.c
    replace fB0 := B0.f
    replace lB0 := B0.lt
    replace cB1 := B1.c
    replace fB1 := B1.f
    replace lB1 := B1.lt
    clear hb1
    clear k1
    go_wp2_with fail
    refine (kp _).mono ?_
    rintro _ w2 ⟨rfl, hb2⟩
    replace B0 : Cs w2 (w.heap.size) #[.int .i64 l, .int .i64 n, .int .i64 p1, .int .i64 p2, .int .i64 s1, .int .i64 s2, .int .i64 t1, .int .i64 t2] := Cs.keep csA hb2
    replace B1 : Cs w2 (w.heap.size + 1) #[.int .i64 0, .int .i64 0, .int .i64 0, .int .i64 0] := Cs.keep csA hb2
    replace hbw : Below w.heap.size w w2 := blA
    replace cB0 := B0.c
    replace fB0 := B0.f
    replace lB0 := B0.lt
    replace cB1 := B1.c
    replace fB1 := B1.f
    replace lB1 := B1.lt
    clear hb2
    clear kp
    go_wp2_with fail
    refine (kq _).mono ?_
    rintro _ w3 ⟨rfl, hb3⟩
    replace B0 : Cs w3 (w.heap.size) #[.int .i64 l, .int .i64 n, .int .i64 p1, .int .i64 p2, .int .i64 s1, .int .i64 s2, .int .i64 t1, .int .i64 t2] := Cs.keep csA hb3
    replace B1 : Cs w3 (w.heap.size + 1) #[.int .i64 0, .int .i64 0, .int .i64 0, .int .i64 0] := Cs.keep csA hb3
    replace B2 : Cs w3 (w2.heap.size) #[.int .i64 a, .int .i64 b] := Cs.keep csA hb3
    replace hbw : Below w.heap.size w w3 := blA
    replace cB0 := B0.c
    replace fB0 := B0.f
    replace lB0 := B0.lt
    replace cB1 := B1.c
    replace fB1 := B1.f
    replace lB1 := B1.lt
    replace cB2 := B2.c
    replace fB2 := B2.f
    replace lB2 := B2.lt
    clear hb3
    clear kq
    go_wp2_with fail
    exact bodyPost_ret (v := .tuple #[.agg #[.int .i64 a, .int .i64 b, .int .i64 c, .int .i64 d], .int .i64 0]) (by simp [results, Tryz.results25, go_sem, cB0, fB0, lB0, cB1, fB1, lB1, cB2, fB2, lB2]) rfl ⟨rfl, blA⟩
  · have e : spaE l n p1 p2 s1 s2 t1 t2 = (((0, 0), (0, 0)), barE l n p1 p2 s1 s2 t1 t2) := by unfold spaE; rw [if_pos h0]
    rw [e]
    generalize barE l n p1 p2 s1 s2 t1 t2 = q at *
    have x1 : (q != 0) = true := by simpa using h0
    have x2 : (q == 0) = false := by simpa using h0
    clear e
    go_enter Tryz.func25, Tryz.ntmps25
    go_wp2_with fail
    refine (k1 _).mono ?_
    rintro e w1 ⟨rfl, hb1⟩
    replace B1 : Cs w1 (w.heap.size + 1) #[.int .i64 0, .int .i64 0, .int .i64 0, .int .i64 0] := Cs.keep csA hb1
    replace hbw : Below w.heap.size w w1 := blA
    replace cB1 := B1.c
    replace fB1 := B1.f
    replace lB1 := B1.lt
    clear hb1
    clear k1
    go_wp2_with fail
    exact bodyPost_ret (v := .tuple #[.agg #[.int .i64 0, .int .i64 0, .int .i64 0, .int .i64 0], .int .i64 q]) (by simp [results, Tryz.results25, go_sem, cB1, fB1, lB1]) rfl ⟨rfl, blA⟩

end Go.Proofs.YtminplfgadhnnaaGreatDoor
end

/- A law for a long region that draws its order, and is yet all but in a row: one check of the row of operations (by masks, once), then the operations one by one, with no list of what has come up in sight. -/
section
namespace Go.Proofs.YtminplfgadhnnaaGreatDoor
open Go
set_option linter.unusedSimpArgs false
set_option linter.unusedVariables false

/-- A step: operation i is taken first; operation i is the only one that may come up; i and j may come up. Behind it the mask of what has come up. -/
inductive Stp
  | t (i m : Nat)
  | o (i m : Nat)
  | b (i j mi mj m : Nat)

def nth {α : Type} : List α → Nat → Option α
  | [], _ => none
  | x :: _, 0 => some x
  | _ :: l, n + 1 => nth l n
theorem nth_eq {α : Type} : ∀ (l : List α) (i : Nat), nth l i = l[i]?
  | [], i => by simp [nth]
  | x :: l, 0 => by simp [nth]
  | x :: l, n + 1 => by simp [nth, nth_eq l n]
theorem nth_ops {ops : Array Oper} {i : Nat} {o : Oper} (h : nth ops.toList i = some o) : ops[i]? = some o := by
  rw [nth_eq] at h; simpa using h

def rdy (md : Region.Mode) : List Oper → Nat → Nat → List Nat
  | [], _, _ => []
  | o :: r, k, m => bif !m.testBit k && o.after.all (fun e => !Region.binds md e || m.testBit e.on) then k :: rdy md r (k + 1) m else rdy md r (k + 1) m
def fre (md : Region.Mode) (ops : Array Oper) (oi : Oper) (i : Nat) : List Oper → Nat → Nat → Bool
  | [], _, _ => true
  | oj :: r, k, m => (Nat.beq k i || m.testBit k || oj.after.any (fun e => Region.binds md e && Nat.beq e.on i) || oi.apart ops oj) && fre md ops oi i r (k + 1) m
def freAt (md : Region.Mode) (ops : Array Oper) (i m : Nat) : Bool :=
  match nth ops.toList i with
  | none => false
  | some oi => fre md ops oi i ops.toList 0 m
def hasN : List Nat → Nat → Bool
  | [], _ => false
  | x :: l, i => Nat.beq x i || hasN l i
theorem hasN_mem : ∀ (l : List Nat) (i : Nat), hasN l i = true → i ∈ l
  | [], i, h => by simp [hasN] at h
  | x :: l, i, h => by
    simp only [hasN, Bool.or_eq_true] at h
    rcases h with h | h
    · rw [Nat.eq_of_beq_eq_true h]; simp
    · exact List.mem_cons_of_mem _ (hasN_mem l i h)
def one1 : List Nat → Nat → Bool
  | [x], i => Nat.beq x i
  | _, _ => false
theorem one1_eq {l : List Nat} {i : Nat} (h : one1 l i = true) : l = [i] := by
  match l, h with
  | [x], h => rw [Nat.eq_of_beq_eq_true h]
def two2 : List Nat → Nat → Nat → Bool
  | [x, y], i, j => Nat.beq x i && Nat.beq y j
  | _, _, _ => false
theorem two2_eq {l : List Nat} {i j : Nat} (h : two2 l i j = true) : l = [i, j] := by
  match l, h with
  | [x, y], h => simp only [two2, Bool.and_eq_true] at h; rw [Nat.eq_of_beq_eq_true h.1, Nat.eq_of_beq_eq_true h.2]
def emp : List Nat → Bool
  | [] => true
  | _ => false
theorem emp_eq {l : List Nat} (h : emp l = true) : l = [] := by
  match l, h with
  | [], _ => rfl

/-- The check of the whole row. -/
def plan (md : Region.Mode) (ops : Array Oper) : List Stp → Nat → Bool
  | [], m => emp (rdy md ops.toList 0 m)
  | .t i m' :: r, m => hasN (rdy md ops.toList 0 m) i && freAt md ops i m && Nat.beq m' (m ||| 1 <<< i) && plan md ops r m'
  | .o i m' :: r, m => one1 (rdy md ops.toList 0 m) i && Nat.beq m' (m ||| 1 <<< i) && plan md ops r m'
  | .b i j mi mj m' :: r, m => two2 (rdy md ops.toList 0 m) i j && Nat.beq mi (m ||| 1 <<< i) && Nat.beq mj (m ||| 1 <<< j) &&
      one1 (rdy md ops.toList 0 mi) j && one1 (rdy md ops.toList 0 mj) i && Nat.beq m' (mi ||| 1 <<< j) && plan md ops r m'
def lng : List Stp → Nat
  | [] => 0
  | .t _ _ :: r => lng r + 1
  | .o _ _ :: r => lng r + 1
  | .b _ _ _ _ _ :: r => lng r + 2

/-- The list of what has come up is that of the mask. -/
structure Msk (n : Nat) (l : Array Bool) (m : Nat) : Prop where
  size : l.size = n
  bit : ∀ i, i < n → l[i]? = some (m.testBit i)
  hi : ∀ i, n ≤ i → m.testBit i = false
theorem Msk.getD {n : Nat} {l : Array Bool} {m : Nat} (h : Msk n l m) (i : Nat) (d : Bool) (hi : i < n) : l.getD i d = m.testBit i := by
  have := h.bit i hi
  rw [Array.getD_eq_getD_getElem?, this]; rfl
theorem Msk.getF {n : Nat} {l : Array Bool} {m : Nat} (h : Msk n l m) (i : Nat) : l.getD i false = m.testBit i := by
  rcases Nat.lt_or_ge i n with hi | hi
  · exact h.getD i _ hi
  · rw [h.hi i hi, Array.getD_eq_getD_getElem?, Array.getElem?_eq_none (by have := h.size; omega)]; rfl
theorem bit1 (q : Nat) : Nat.testBit 1 (q + 1) = false := by
  rw [Nat.testBit_succ]; simp
theorem Msk.set {n : Nat} {l : Array Bool} {m : Nat} (h : Msk n l m) (i : Nat) (hi : i < n) : Msk n (l.setIfInBounds i true) (m ||| 1 <<< i) := by
  refine ⟨by simp [h.size], fun j hj => ?_, fun j hj => ?_⟩
  · rw [Array.getElem?_setIfInBounds, Nat.testBit_or]
    by_cases hij : i = j
    · subst hij; simp [h.size, hi, Nat.testBit_shiftLeft]
    · rw [if_neg hij, h.bit j hj]
      have : (1 <<< i).testBit j = false := by
        rw [Nat.testBit_shiftLeft]
        rcases Nat.lt_or_ge j i with h' | h'
        · simp; omega
        · have : j - i ≠ 0 := by omega
          obtain ⟨q, hq⟩ : ∃ q, j - i = q + 1 := ⟨j - i - 1, by omega⟩
          rw [hq, bit1, Bool.and_false]
      rw [this, Bool.or_false]
  · rw [Nat.testBit_or, h.hi j hj, Nat.testBit_shiftLeft]
    obtain ⟨q, hq⟩ : ∃ q, j - i = q + 1 := ⟨j - i - 1, by omega⟩
    rw [hq, bit1, Bool.and_false, Bool.or_false]
theorem Msk.zero (n : Nat) : Msk n (Array.replicate n false) 0 := ⟨by simp, fun i hi => by simp [hi], fun i _ => by simp⟩

theorem rdy_eq {md : Region.Mode} {ops : Array Oper} {l : Array Bool} {m : Nat} (h : Msk ops.size l m) : Region.ready md ops l = rdy md ops.toList 0 m := by
  have H : ∀ (L : List Oper) (k : Nat), k + L.length ≤ ops.size → (∀ i, i < L.length → ops[k + i]? = L[i]?) →
      (List.range' k L.length).filter (fun i => !l.getD i true && ((ops[i]?).map (·.after.all fun e => !Region.binds md e || l.getD e.on false)).getD false) = rdy md L k m := by
    intro L
    induction L with
    | nil => intro k _ _; rfl
    | cons o r ih =>
      intro k hk hL
      rw [List.length_cons, List.range'_succ, List.filter_cons]
      have h0 : ops[k]? = some o := by have := hL 0 (by simp); simpa using this
      have ihr := ih (k + 1) (by simp only [List.length_cons] at hk; omega) (fun i hi => by
        have := hL (i + 1) (by simp; omega)
        rw [List.getElem?_cons_succ] at this
        rw [← this]; congr 1; omega)
      rw [ihr, h0, Option.map_some, Option.getD_some, h.getD k true (by simp only [List.length_cons] at hk; omega)]
      have he : (o.after.all fun e => !Region.binds md e || l.getD e.on false) = (o.after.all fun e => !Region.binds md e || m.testBit e.on) := by
        congr 1; funext e; rw [h.getF]
      rw [he, rdy]
      cases hc : (!m.testBit k && o.after.all fun e => !Region.binds md e || m.testBit e.on) <;> simp [hc]
  have := H ops.toList 0 (by simp) (fun i hi => by simp)
  unfold Region.ready
  rw [List.range_eq_range']
  simpa using this

theorem fre_spec {md : Region.Mode} {ops : Array Oper} {oi : Oper} {i m : Nat} : ∀ (L : List Oper) (k : Nat), fre md ops oi i L k m = true → ∀ j oj, L[j]? = some oj →
    (Nat.beq (k + j) i || m.testBit (k + j) || oj.after.any (fun e => Region.binds md e && Nat.beq e.on i) || oi.apart ops oj) = true
  | [], k, _, j, oj, hj => by simp at hj
  | o :: r, k, h, j, oj, hj => by
    simp only [fre, Bool.and_eq_true] at h
    cases j with
    | zero => simp only [List.getElem?_cons_zero, Option.some.injEq] at hj; subst hj; exact h.1
    | succ j =>
      rw [List.getElem?_cons_succ] at hj
      have := fre_spec r (k + 1) h.2 j oj hj
      rw [show k + 1 + j = k + (j + 1) by omega] at this
      exact this

section
variable {P : Program} {ops : Array Oper} {Q : Exit → Act → World → Prop} {md : Region.Mode} {S : World → Prop}

/-- The operations in a row. -/
def wpSeq (P : Program) (ops : Array Oper) (Q : Exit → Act → World → Prop) (S : World → Prop) : List Stp → Act → World → Prop
  | [], a, w => Q .normal a w
  | .t i _ :: r, a, w => ∃ o v, nth ops.toList i = some o ∧ YieldsIf P ops S o v a ∧ wpSeq P ops Q S r (a.put o.dst v) w
  | .o i _ :: r, a, w => wpOp P ops Q i (fun a' w' => S w' ∧ wpSeq P ops Q S r a' w') a w
  | .b i j _ _ _ :: r, a, w =>
    wpOp P ops Q i (fun a' w' => S w' ∧ wpOp P ops Q j (fun a' w' => S w' ∧ wpSeq P ops Q S r a' w') a' w') a w ∧
    wpOp P ops Q j (fun a' w' => S w' ∧ wpOp P ops Q i (fun a' w' => S w' ∧ wpSeq P ops Q S r a' w') a' w') a w

theorem lt_of_rdy {m i : Nat} {l : Array Bool} (h : Msk ops.size l m) (hi : i ∈ rdy md ops.toList 0 m) : i < ops.size := by
  rw [← rdy_eq h] at hi
  exact (Array.getElem?_eq_some_iff.1 (mem_ready.1 hi).2.choose_spec.1).1

theorem wpAnyH_seq (hns : Region.noSelect ops = true) (hQ : ∀ c a d v w, Q (.panic c) (a.put d v) w → Q (.panic c) a w) :
    ∀ (sts : List Stp) (m : Nat) (l : Array Bool) (fuel : Nat) (a : Act) (w : World), Msk ops.size l m → plan md ops sts m = true → lng sts ≤ fuel → S w →
      wpSeq P ops Q S sts a w → wpAnyH P md ops Q S fuel l a w
  | [], m, l, fuel, a, w, hm, hp, _, _, h => by
    have := emp_eq (show emp (rdy md ops.toList 0 m) = true from hp)
    exact wpAnyH_done (by rw [rdy_eq hm, this]) h fuel
  | .t i m' :: r, m, l, fuel, a, w, hm, hp, hl, hS, h => by
    simp only [plan, Bool.and_eq_true] at hp
    obtain ⟨⟨⟨h1, h2⟩, h3⟩, h4⟩ := hp
    obtain ⟨o, v, ho, hy, h⟩ := h
    have hmem := hasN_mem _ _ h1
    have hlt := lt_of_rdy hm hmem
    obtain ⟨f, rfl⟩ : ∃ f, fuel = f + 1 := ⟨fuel - 1, by simp only [lng] at hl; omega⟩
    simp only [lng] at hl
    have h2' : fre md ops o i ops.toList 0 m = true := by unfold freAt at h2; rw [ho] at h2; exact h2
    have hms := hm.set i hlt
    rw [← Nat.eq_of_beq_eq_true h3] at hms
    refine wpAnyH_first (nth_ops ho) (Region.noSelect_spec hns) (fun c a w => hQ c a o.dst v w) f l a w (fun j oj hj hne hun hno => ?_) (by rw [rdy_eq hm]; exact hmem) hy hS
      (wpAnyH_seq hns hQ r m' _ f _ w hms h4 (by omega) hS h)
    have hjl := (Array.getElem?_eq_some_iff.1 hj).1
    have hs := fre_spec ops.toList 0 h2' j oj (by simpa using hj)
    rw [Nat.zero_add] at hs
    rw [hm.getD j true hjl] at hun
    simp only [Bool.or_eq_true] at hs
    rcases hs with ((hs | hs) | hs) | hs
    · exact absurd (Nat.eq_of_beq_eq_true hs) hne
    · rw [hun] at hs; cases hs
    · obtain ⟨e, he, hb⟩ := Array.any_eq_true'.1 hs
      simp only [Bool.and_eq_true] at hb
      exact absurd (Nat.eq_of_beq_eq_true hb.2) (hno e he hb.1)
    · exact hs
  | .o i m' :: r, m, l, fuel, a, w, hm, hp, hl, hS, h => by
    simp only [plan, Bool.and_eq_true] at hp
    obtain ⟨⟨h1, h3⟩, h4⟩ := hp
    have h1 := one1_eq h1
    have hlt := lt_of_rdy (md := md) hm (i := i) (by rw [h1]; simp)
    obtain ⟨f, rfl⟩ : ∃ f, fuel = f + 1 := ⟨fuel - 1, by simp only [lng] at hl; omega⟩
    simp only [lng] at hl
    have hms := hm.set i hlt
    rw [← Nat.eq_of_beq_eq_true h3] at hms
    refine wpAnyH_all (rs := [i]) (by rw [rdy_eq hm, h1]) (by simp) (fun k hk => ?_)
    obtain rfl : k = i := by simpa using hk
    exact wpOp_mono (fun a' w' h' => ⟨h'.1, wpAnyH_seq hns hQ r m' _ f a' w' hms h4 (by omega) h'.1 h'.2⟩) h
  | .b i j mi mj m' :: r, m, l, fuel, a, w, hm, hp, hl, hS, h => by
    simp only [plan, Bool.and_eq_true] at hp
    obtain ⟨⟨⟨⟨⟨⟨h1, h2⟩, h3⟩, h4⟩, h5⟩, h6⟩, h7⟩ := hp
    have h1 := two2_eq h1
    have hlti := lt_of_rdy (md := md) hm (i := i) (by rw [h1]; simp)
    have hltj := lt_of_rdy (md := md) hm (i := j) (by rw [h1]; simp)
    obtain ⟨f, rfl⟩ : ∃ f, fuel = f + 2 := ⟨fuel - 2, by simp only [lng] at hl; omega⟩
    simp only [lng] at hl
    have hmi := hm.set i hlti
    have hmj := hm.set j hltj
    have hmij := hmi.set j hltj
    have hmji := hmj.set i hlti
    rw [show (m ||| 1 <<< j) ||| 1 <<< i = (m ||| 1 <<< i) ||| 1 <<< j by rw [Nat.or_assoc, Nat.or_assoc, Nat.or_comm (1 <<< j)]] at hmji
    rw [← Nat.eq_of_beq_eq_true h2] at hmi hmij hmji
    rw [← Nat.eq_of_beq_eq_true h6] at hmij hmji
    rw [← Nat.eq_of_beq_eq_true h3] at hmj
    refine wpAnyH_all (rs := [i, j]) (by rw [rdy_eq hm, h1]) (by simp) (fun k hk => ?_)
    rcases (show k = i ∨ k = j by simpa using hk) with rfl | rfl
    · refine wpOp_mono (fun a' w' h' => ⟨h'.1, ?_⟩) h.1
      refine wpAnyH_all (rs := [j]) (by rw [rdy_eq hmi, one1_eq h4]) (by simp) (fun q hq => ?_)
      obtain rfl : q = j := by simpa using hq
      exact wpOp_mono (fun a' w' h' => ⟨h'.1, wpAnyH_seq hns hQ r m' _ f a' w' hmij h7 (by omega) h'.1 h'.2⟩) h'.2
    · refine wpOp_mono (fun a' w' h' => ⟨h'.1, ?_⟩) h.2
      refine wpAnyH_all (rs := [i]) (by rw [rdy_eq hmj, one1_eq h5]) (by simp) (fun q hq => ?_)
      obtain rfl : q = i := by simpa using hq
      exact wpOp_mono (fun a' w' h' => ⟨h'.1, wpAnyH_seq hns hQ r m' _ f a' w' hmji h7 (by omega) h'.1 h'.2⟩) h'.2

/-- The beginning. -/
theorem wp_region_seq {id : Nat} {a : Act} {w : World} (sts : List Stp) (hm : P.follows .mixedOrders = true) (hns : Region.noSelect ops = true) (hp : plan .any ops sts 0 = true)
    (hl : Nat.ble (lng sts) ops.size = true) (hQ : ∀ c a d v w, Q (.panic c) (a.put d v) w → Q (.panic c) a w) (hS : S w.drew) (h : S w.drew → wpSeq P ops Q S sts a w.drew) :
    (Code.region id ops true).wp P Q a w :=
  wp_region_held_drew hm hS fun h' => wpAnyH_seq hns hQ sts 0 _ _ _ _ (Msk.zero _) hp (Nat.le_of_ble_eq_true hl) h' (h h')

/-- An operation is taken first. -/
theorem seq_take {i m' : Nat} {r : List Stp} {o : Oper} {v : Value} {a : Act} {w : World} (ho : nth ops.toList i = some o) (hw : Region.wanted o (yielded ops a.tmps) = true)
    (hv : ∀ w, S w → (execOp a.eval o).run P w = .ok (.value v) w) (h : wpSeq P ops Q S r (a.put o.dst v) w) : wpSeq P ops Q S (.t i m' :: r) a w :=
  ⟨o, v, ho, .inl ⟨hw, hv⟩, h⟩
/-- An operation is carried out_b. -/
theorem seq_one {i m' : Nat} {r : List Stp} {o : Oper} {a : Act} {w : World} (ho : nth ops.toList i = some o)
    (h : ∀ K' : Act → World → Prop, Shut (∀ a w, S w → (S w → wpSeq P ops Q S r a w) → K' a w) → if Region.wanted o (yielded ops a.tmps) = true then Oper.wp P o a w K' Q else K' (a.put o.dst undef) w) :
    wpSeq P ops Q S (.o i m' :: r) a w :=
  wpOp_step (nth_ops ho) (fun K' hK => h K' (fun a w hS hW => hK a w ⟨hS, hW hS⟩))
/-- All have come up. -/
theorem seq_done {a : Act} {w : World} (h : Q .normal a w) : wpSeq P ops Q S [] a w := h
end

end Go.Proofs.YtminplfgadhnnaaGreatDoor
end

/- A law for a region that draws its order: pure operations ahead in a row, the others in whatever order, by an invariant: each of them is walked once, whatever has come up before it. -/
section
namespace Go.Proofs.YtminplfgadhnnaaGreatDoor
open Go
set_option linter.unusedSimpArgs false
set_option linter.unusedVariables false

def rest (n : Nat) (m : Nat) (l : List Nat) : Bool := (List.range n).all fun k => m.testBit k || hasN l k
section
variable {P : Program} {ops : Array Oper} {Q : Exit → Act → World → Prop} {md : Region.Mode} {S : World → Prop}

end

end Go.Proofs.YtminplfgadhnnaaGreatDoor
end

/- Fresh blocks of two numbers that a region makes and fills in whatever order (for XEN2's law). -/
section
namespace Go.Proofs.YtminplfgadhnnaaGreatDoor
open Go.RowKit Go.Shelf
set_option linter.unusedSimpArgs false
set_option linter.unusedVariables false

/-- a fresh block, if it is made; filled, if it is filled -/
def Mk2 (B : Nat) (W : World) (dn fl : Bool) (v : Value) (x y : Int) : Prop :=
  (dn = true → ∃ g a b, v = .pointer (some ⟨g, 0, none⟩) ∧ B ≤ g ∧ Cs W g #[a, b] ∧ (fl = true → a = .int .i64 x ∧ b = .int .i64 y)) ∧ (dn = false → fl = false)
variable {B : Nat} {W W' : World} {dn fl : Bool} {v : Value} {x y : Int} {g : Nat}
theorem Mk2.below (h : Mk2 B W dn fl v x y) (hb : Below W.heap.size W W') : Mk2 B W' dn fl v x y :=
  ⟨fun hd => by obtain ⟨g, a, b, e1, e2, e3, e4⟩ := h.1 hd; exact ⟨g, a, b, e1, e2, e3.keep hb, e4⟩, h.2⟩
theorem Mk2.alloc (h : Mk2 B W dn fl v x y) (o : Obj) : Mk2 B (W.alloc o) dn fl v x y := h.below (balloc (Below.refl _ _) o)
theorem Mk2.new {a b : Value} {t : TypeId} (h : Mk2 B W dn fl v x y) (hd : dn = false) (hB : B ≤ W.heap.size) : Mk2 B (W.alloc (.cells #[a, b] t)) true fl (.pointer (some ⟨W.heap.size, 0, none⟩)) x y :=
  ⟨fun _ => ⟨W.heap.size, a, b, rfl, hB, Cs.new W _ _ _ rfl, fun hf => by rw [h.2 hd] at hf; cases hf⟩, fun h => by cases h⟩
theorem Mk2.set (h : Mk2 B W dn fl (.pointer (some ⟨g, 0, none⟩)) x y) (hd : dn = true) : Mk2 B ((W.setCell ⟨g, 0, none⟩ (.int .i64 x)).setCell ⟨g, 1, none⟩ (.int .i64 y)) dn true (.pointer (some ⟨g, 0, none⟩)) x y := by
  refine ⟨fun _ => ?_, fun h => by rw [hd] at h; cases h⟩
  obtain ⟨g', a, b, e1, e2, e3, e4⟩ := h.1 hd
  injection e1 with e1; injection e1 with e1; injection e1 with e1
  subst e1
  exact ⟨g, _, _, rfl, e2, e3.set2 _ _, fun _ => ⟨rfl, rfl⟩⟩
theorem Mk2.other {p q : Value} (h : Mk2 B W dn fl v x y) (hne : dn = true → v ≠ .pointer (some ⟨g, 0, none⟩)) : Mk2 B ((W.setCell ⟨g, 0, none⟩ p).setCell ⟨g, 1, none⟩ q) dn fl v x y :=
  ⟨fun hd => by
    obtain ⟨g', a, b, e1, e2, e3, e4⟩ := h.1 hd
    exact ⟨g', a, b, e1, e2, e3.other2 (fun e => hne hd (by rw [e1, e])) _ _, e4⟩, h.2⟩
theorem Mk2.drew (h : Mk2 B W dn fl v x y) : Mk2 B W.drew dn fl v x y := h
/-- all of it: made and filled -/
theorem Mk2.out (h : Mk2 B W dn fl v x y) (h1 : dn = true) (h2 : fl = true) : ∃ g, v = .pointer (some ⟨g, 0, none⟩) ∧ B ≤ g ∧ Cs W g #[.int .i64 x, .int .i64 y] := by
  obtain ⟨g, a, b, e1, e2, e3, e4⟩ := h.1 h1
  obtain ⟨rfl, rfl⟩ := e4 h2
  exact ⟨g, e1, e2, e3⟩
end Go.Proofs.YtminplfgadhnnaaGreatDoor
end

/- Walks of the reference of layer 2: Fraction, power. -/
section
namespace Go.Proofs.YtminplfgadhnnaaGreatDoor
open Go.RowKit Go.Shelf
set_option linter.unusedSimpArgs false
set_option linter.unusedVariables false
open Bm (pwr lgt red rpw)

end Go.Proofs.YtminplfgadhnnaaGreatDoor
end

/- Walks of the reference of layer 2: CheckBar, IsTrue, Value, Span. -/
section
namespace Go.Proofs.YtminplfgadhnnaaGreatDoor
open Go.RowKit Go.Shelf
set_option linter.unusedSimpArgs false
set_option linter.unusedVariables false
open Bm (pwr)

theorem barE_1 {l n p1 p2 s1 s2 t1 t2 : Int} (h : out_b 2 5000 l = true) : barE l n p1 p2 s1 s2 t1 t2 = 2 := by unfold barE; rw [if_pos h]
theorem barE_2 {l n p1 p2 s1 s2 t1 t2 : Int} (h : out_b 2 5000 l = false) (h2 : out_b 1 l n = true) : barE l n p1 p2 s1 s2 t1 t2 = 2 := by unfold barE; rw [h, if_neg (by decide), if_pos h2]

set_option maxHeartbeats 8000000 in
theorem rcheckBar_any (l n p1 p2 s1 s2 t1 t2 : Int) (w : World) :
    Calls Tryz.prog 22 #[.agg #[.int .i64 l, .int .i64 n, .int .i64 p1, .int .i64 p2, .int .i64 s1, .int .i64 s2, .int .i64 t1, .int .i64 t2]] w fun e w' => e = .returned (.int .i64 (barE l n p1 p2 s1 s2 t1 t2)) ∧ Below w.heap.size w w' := by
  by_cases c1 : l < 2
  · have hf : Hid (2 = barE l n p1 p2 s1 s2 t1 t2) := Lib.hid (barE_1 (by simp [out_b]; omega)).symm
    go_enter Tryz.func22, Tryz.ntmps22
    go_wp2_with fail
    go_ret
    exact ⟨ret_int hf.out, blA⟩
  have d1 : decide (l < 2) = false := by simpa using c1
  by_cases c2 : 5000 < l
  · have hf : Hid (2 = barE l n p1 p2 s1 s2 t1 t2) := Lib.hid (barE_1 (by simp [out_b]; omega)).symm
    clear c1
    go_enter Tryz.func22, Tryz.ntmps22
    go_wp2_with fail
    go_ret
    exact ⟨ret_int hf.out, blA⟩
  have d2 : decide (5000 < l) = false := by simpa using c2
  have ho : out_b 2 5000 l = false := out_false.2 (by omega)
  by_cases c3 : n < 1
  · have hf : Hid (2 = barE l n p1 p2 s1 s2 t1 t2) := Lib.hid (barE_2 ho (by simp [out_b]; omega)).symm
    clear c1 c2 ho
    go_enter Tryz.func22, Tryz.ntmps22
    go_wp2_with fail
    go_ret
    exact ⟨ret_int hf.out, blA⟩
  have d3 : decide (n < 1) = false := by simpa using c3
  by_cases c4 : l < n
  · have hf : Hid (2 = barE l n p1 p2 s1 s2 t1 t2) := Lib.hid (barE_2 ho (by simp [out_b]; omega)).symm
    clear c1 c2 ho c3
    go_enter Tryz.func22, Tryz.ntmps22
    go_wp2_with fail
    go_ret
    exact ⟨ret_int hf.out, blA⟩
  have d4 : decide (l < n) = false := by simpa using c4
  have ho2 : out_b 1 l n = false := out_false.2 (by omega)
  have k3 := fun W => rvalid_any p1 p2 1 100000 W
  have k4 := fun W => rvalid_any s1 s2 1 (l - 1) W
  have k5 := fun W => rvalid_any t1 t2 0 1000 W
  obtain ⟨R, hR⟩ : ∃ R, barE l n p1 p2 s1 s2 t1 t2 = R := ⟨_, rfl⟩
  rw [hR]
  unfold barE at hR
  rw [ho, ho2, if_neg (by decide), if_neg (by decide)] at hR
  have HR := Lib.hid hR
  have l1 : 2 ≤ l := by omega
  have l2 : l ≤ 5000 := by omega
  have n1 : 1 ≤ n := by omega
  have n2 : n ≤ l := by omega
  have H4 := Lib.hid (fun (h : rgB 1 (l - 1) (s1, s2) = true) => (show 1 ≤ s1 ∧ s1 ≤ s2 ∧ s2 ≤ l - 1 by simp [rgB] at h; omega))
  clear hR ho ho2 c1 c2 c3 c4
  generalize rgB 1 100000 (p1, p2) = b3 at *
  generalize rgB 1 (l - 1) (s1, s2) = b4 at *
  generalize rgB 0 1000 (t1, t2) = b5 at *
  go_enter Tryz.func22, Tryz.ntmps22
  go_wp2_with fail
  refine (k3 _).mono ?_
  rintro e w3 ⟨rfl, hb3⟩
  replace B0 : Cs w3 (w.heap.size) #[.int .i64 l, .int .i64 n, .int .i64 p1, .int .i64 p2, .int .i64 s1, .int .i64 s2, .int .i64 t1, .int .i64 t2] := Cs.keep csA hb3
  replace hbw : Below w.heap.size w w3 := blA
  replace cB0 := B0.c
  replace fB0 := B0.f
  replace lB0 := B0.lt
  clear hb3
  clear k3
  cases b3 with
  | false =>
    have hf : Hid (2 = R) := Lib.hid (by have := HR.out; simpa using this)
    clear HR k4 k5 H4
    go_wp2_with fail
    go_ret
    exact ⟨ret_int hf.out, blA⟩
  | true =>
  go_wp2_with fail
  refine (k4 _).mono ?_
  rintro e w4 ⟨rfl, hb4⟩
  replace B0 : Cs w4 (w.heap.size) #[.int .i64 l, .int .i64 n, .int .i64 p1, .int .i64 p2, .int .i64 s1, .int .i64 s2, .int .i64 t1, .int .i64 t2] := Cs.keep csA hb4
  replace hbw : Below w.heap.size w w4 := blA
  replace cB0 := B0.c
  replace fB0 := B0.f
  replace lB0 := B0.lt
  clear hb4
  clear k4
  cases b4 with
  | false =>
    have hf : Hid (2 = R) := Lib.hid (by have := HR.out; simpa using this)
    clear HR k5 H4
    go_wp2_with fail
    go_ret
    exact ⟨ret_int hf.out, blA⟩
  | true =>
  have s123 := H4.out rfl
  clear H4
  obtain ⟨sa, sb, sc⟩ := s123
  go_wp2_with fail
  refine (k5 _).mono ?_
  rintro e w5 ⟨rfl, hb5⟩
  replace B0 : Cs w5 (w.heap.size) #[.int .i64 l, .int .i64 n, .int .i64 p1, .int .i64 p2, .int .i64 s1, .int .i64 s2, .int .i64 t1, .int .i64 t2] := Cs.keep csA hb5
  replace hbw : Below w.heap.size w w5 := blA
  replace cB0 := B0.c
  replace fB0 := B0.f
  replace lB0 := B0.lt
  clear hb5
  clear k5
  cases b5 with
  | false =>
    have hf : Hid (2 = R) := Lib.hid (by have := HR.out; simpa using this)
    clear HR
    go_wp2_with fail
    go_ret
    exact ⟨ret_int hf.out, blA⟩
  | true =>
  have HR2 : Hid ((if s1 < n then 16 else if l - n < s2 then 16 else 0) = R) := Lib.hid (by have := HR.out; simpa using this)
  clear HR
  by_cases x1 : s1 < n
  · rw [if_pos x1] at HR2
    go_wp2_with fail
    go_ret
    exact ⟨ret_int HR2.out, blA⟩
  · rw [if_neg x1] at HR2
    have d5 : decide (s1 < n) = false := by simpa using x1
    by_cases x2 : l - n < s2
    · rw [if_pos x2] at HR2
      have x3 : l - s2 < n := by omega
      go_wp2_with fail
      go_ret
      exact ⟨ret_int HR2.out, blA⟩
    · rw [if_neg x2] at HR2
      have d6 : decide (l - s2 < n) = false := by simp; omega
      go_wp2_with fail
      go_ret
      exact ⟨ret_int HR2.out, blA⟩

end Go.Proofs.YtminplfgadhnnaaGreatDoor
end

/- Lists of small numbers in memory. -/
section
namespace Go.Proofs.YtminplfgadhnnaaGreatDoor
open Go.RowKit Go.Shelf
set_option linter.unusedSimpArgs false
set_option linter.unusedVariables false

/-- a list of small numbers -/
def U32s (w : World) (A : Option Addr) (n : Nat) (zs : List Int) : Prop :=
  zs.length = n ∧ (0 < n → ∃ b off, A = some ⟨b, off, none⟩ ∧ b < w.heap.size ∧ ∀ i, i < n → w.cell? ⟨b, off + i, none⟩ = some (.int .u32 (zs.getD i 0)) ∧ 0 ≤ zs.getD i 0 ∧ zs.getD i 0 ≤ 4294967295)
theorem U32s.below {w w' : World} {A : Option Addr} {n : Nat} {zs : List Int} (h : U32s w A n zs) (hb : Below w.heap.size w w') : U32s w' A n zs := by
  refine ⟨h.1, fun hn => ?_⟩
  obtain ⟨b, off, rfl, hlt, hc⟩ := h.2 hn
  exact ⟨b, off, rfl, Nat.lt_of_lt_of_le hlt hb.size, fun i hi => ⟨(hb.cell (p := ⟨b, off + i, none⟩) hlt).trans (hc i hi).1, (hc i hi).2⟩⟩
end Go.Proofs.YtminplfgadhnnaaGreatDoor
end

/- Walks of the law package of layer 2: Powers, reached, number, pick, True, before. -/
section
namespace Go.Proofs.YtminplfgadhnnaaGreatDoor
open Go.RowKit Go.Shelf
set_option linter.unusedSimpArgs false
set_option linter.unusedVariables false

end Go.Proofs.YtminplfgadhnnaaGreatDoor
end

/- Walks of the law package of layer 2: reached, before, number, pick. -/
section
namespace Go.Proofs.YtminplfgadhnnaaGreatDoor
open Go.RowKit Go.Shelf
set_option linter.unusedSimpArgs false
set_option linter.unusedVariables false

/-- a number of a range, by a number -/
def pickE (lo hi by_ : Int) : Int := lo + by_ % (hi - lo + 1)
theorem pickE_in {lo hi by_ : Int} (h : lo ≤ hi) : lo ≤ pickE lo hi by_ ∧ pickE lo hi by_ ≤ hi := by
  unfold pickE
  have h1 := Int.emod_nonneg by_ (show hi - lo + 1 ≠ 0 by omega)
  have h2 := Int.emod_lt_of_pos by_ (show 0 < hi - lo + 1 by omega)
  omega
set_option maxHeartbeats 1000000 in
theorem pick_any (lo hi by_ : Int) (w : World) (h1 : lo ≤ hi) (h2 : 0 ≤ lo) (h3 : hi ≤ 1000000) (h4 : 0 ≤ by_) (h5 : by_ ≤ 4294967295) :
    Calls Tryz.prog 53 #[.agg #[.int .i64 lo, .int .i64 hi], .int .u32 by_] w fun e w' => e = .returned (.int .i64 (pickE lo hi by_)) ∧ Below w.heap.size w w' := by
  have hp := pickE_in (by_ := by_) h1
  have hmod : by_.tmod (hi - lo + 1) = by_ % (hi - lo + 1) := Int.tmod_eq_emod_of_nonneg h4
  have h0 : ¬ hi - lo + 1 = 0 := by omega
  have hdef : lo + by_ % (hi - lo + 1) = pickE lo hi by_ := rfl
  generalize pickE lo hi by_ = r at *
  go_enter Tryz.func53, Tryz.ntmps53
  go_wp2_with fail
  go_quiet (fail)
  go_wp2_with fail
  go_ret
  exact ⟨by first | rfl | exact ret_int hdef, blA⟩

end Go.Proofs.YtminplfgadhnnaaGreatDoor
end

/- Walks of the law package of layer 2: True, Less, proper. (Printed by gen/gen_bk12a.py.) -/
section
namespace Go.Proofs.YtminplfgadhnnaaGreatDoor
open Go.RowKit Go.Shelf
set_option linter.unusedSimpArgs false
set_option linter.unusedVariables false
open Bm (red red_self leR)

theorem rat_eq (a b a' b' : Int) (w : World) : (Op.equalIn 10000 41 (.agg #[.int .i64 a, .int .i64 b]) (.agg #[.int .i64 a', .int .i64 b'])).run Tryz.prog w = .ok (a == a' && b == b') w := by
  simp [go_sem]
  by_cases h1 : a = a' <;> by_cases h2 : b = b' <;> simp [h1, h2]
theorem Cs.set3 {w : World} {g : Nat} {a b c : Value} (h : Cs w g #[a, b, c]) (x y z : Value) : Cs (((w.setCell ⟨g, 0, none⟩ x).setCell ⟨g, 1, none⟩ y).setCell ⟨g, 2, none⟩ z) g #[x, y, z] :=
  ((h.set 0 x (by simp)).set 1 y (by simp)).set 2 z (by simp)
theorem Cs.other3 {w : World} {g g' : Nat} {cs : Array Value} (h : Cs w g cs) (hg : g ≠ g') (x y z : Value) : Cs (((w.setCell ⟨g', 0, none⟩ x).setCell ⟨g', 1, none⟩ y).setCell ⟨g', 2, none⟩ z) g cs :=
  ((h.other (p := ⟨g', 0, none⟩) hg x).other (p := ⟨g', 1, none⟩) hg y).other (p := ⟨g', 2, none⟩) hg z
theorem bset3 {w W : World} {g : Nat} (h : Below w.heap.size w W) (hg : w.heap.size ≤ g) (x y z : Value) : Below w.heap.size w (((W.setCell ⟨g, 0, none⟩ x).setCell ⟨g, 1, none⟩ y).setCell ⟨g, 2, none⟩ z) :=
  bset (bset2 h hg x y) (p := ⟨g, 2, none⟩) hg z
section
attribute [local go_sem high] rat_eq
end

def ST3 (g g' : Nat) (l n p1 p2 s1 s2 t1 t2 a b c : Int) (V : World) : Prop :=
  (V.cell? ⟨g, 0, none⟩ = some (.int .i64 l) ∧ V.cell? ⟨g, 1, none⟩ = some (.int .i64 n) ∧ V.cell? ⟨g, 2, none⟩ = some (.int .i64 p1) ∧ V.cell? ⟨g, 3, none⟩ = some (.int .i64 p2) ∧ V.cell? ⟨g, 4, none⟩ = some (.int .i64 s1) ∧ V.cell? ⟨g, 5, none⟩ = some (.int .i64 s2) ∧ V.cell? ⟨g, 6, none⟩ = some (.int .i64 t1) ∧ V.cell? ⟨g, 7, none⟩ = some (.int .i64 t2)) ∧
  (V.cell? ⟨g', 0, none⟩ = some (.int .u32 a) ∧ V.cell? ⟨g', 1, none⟩ = some (.int .u32 b) ∧ V.cell? ⟨g', 2, none⟩ = some (.int .u32 c))

set_option maxRecDepth 100000 in
set_option maxHeartbeats 8000000 in
theorem true_any (l n p1 p2 s1 s2 t1 t2 a b c : Int) (w : World) (hp : p1 ≤ p2 ∧ 0 ≤ p1 ∧ p2 ≤ 100000) (hs : s1 ≤ s2 ∧ 0 ≤ s1 ∧ s2 ≤ 100000) (ht : t1 ≤ t2 ∧ 0 ≤ t1 ∧ t2 ≤ 100000) (ha : 0 ≤ a ∧ a ≤ 4294967295) (hb : 0 ≤ b ∧ b ≤ 4294967295) (hc : 0 ≤ c ∧ c ≤ 4294967295) :
    Calls Tryz.prog 23 #[.agg #[.int .i64 l, .int .i64 n, .int .i64 p1, .int .i64 p2, .int .i64 s1, .int .i64 s2, .int .i64 t1, .int .i64 t2], .agg #[.int .u32 a, .int .u32 b, .int .u32 c]] w fun e w' => e = .returned (.agg #[.int .i64 (pickE p1 p2 a), .int .i64 (pickE s1 s2 b), .int .i64 (pickE t1 t2 c)]) ∧ Below w.heap.size w w' := by
  have k1 := fun (W : World) => pick_any p1 p2 a W hp.1 hp.2.1 (by omega) ha.1 ha.2
  have k2 := fun (W : World) => pick_any s1 s2 b W hs.1 hs.2.1 (by omega) hb.1 hb.2
  have k3 := fun (W : World) => pick_any t1 t2 c W ht.1 ht.2.1 (by omega) hc.1 hc.2
  generalize pickE p1 p2 a = x at *
  generalize pickE s1 s2 b = y at *
  generalize pickE t1 t2 c = z at *
  clear hp hs ht ha hb hc
  go_enter Tryz.func23, Tryz.ntmps23
  go_wp2_with fail
  obtain ⟨W, hW⟩ : ∃ W, ((w.alloc (.cells #[.int .i64 l, .int .i64 n, .int .i64 p1, .int .i64 p2, .int .i64 s1, .int .i64 s2, .int .i64 t1, .int .i64 t2] 62)).alloc (.cells #[.int .u32 a, .int .u32 b, .int .u32 c] 64)).alloc (.cells #[.int .i64 0, .int .i64 0, .int .i64 0] 67) = W := ⟨_, rfl⟩
  have C2 : Cs W w.heap.size #[.int .i64 l, .int .i64 n, .int .i64 p1, .int .i64 p2, .int .i64 s1, .int .i64 s2, .int .i64 t1, .int .i64 t2] := by rw [← hW]; exact csA
  have C3 : Cs W (w.heap.size + 1) #[.int .u32 a, .int .u32 b, .int .u32 c] := by rw [← hW]; exact csA
  have C4 : Cs W (w.heap.size + 1 + 1) #[.int .i64 0, .int .i64 0, .int .i64 0] := by rw [← hW]; exact csA
  have hbw : Below w.heap.size w W := by rw [← hW]; exact blA
  rw [hW]
  clear hW
  have hS0 : ST3 w.heap.size (w.heap.size + 1) l n p1 p2 s1 s2 t1 t2 a b c W.drew := ⟨⟨C2.c 0, C2.c 1, C2.c 2, C2.c 3, C2.c 4, C2.c 5, C2.c 6, C2.c 7⟩, ⟨C3.c 0, C3.c 1, C3.c 2⟩⟩
  refine wp_region_seq (S := ST3 w.heap.size (w.heap.size + 1) l n p1 p2 s1 s2 t1 t2 a b c) [.t 0 1, .t 1 3, .t 2 7, .t 3 15, .t 5 47, .t 6 111, .t 7 239, .t 8 495, .t 10 1519, .t 11 3567, .t 12 7663, .t 13 15855, .o 4 15871, .o 9 16383, .o 14 32767, .t 15 65535, .o 16 131071] (by kernel_rfl) (by kernel_rfl) (by as_aux_lemma => kernel_rfl) (by kernel_rfl) (fun c a d v w h => by cases d <;> exact h) hS0 (fun _ => ?_)
  refine seq_take (v := ?_) rfl (by rfl) ?_ ?_
  rotate_left
  · intro w9 hSw; (unfold ST3 at hSw); (go_simp <;> with_reducible rfl)
  try simp only [Act.put, List.setIfInBounds_toArray, List.set_cons_zero, List.set_cons_succ]
  refine seq_take (v := ?_) rfl (by rfl) ?_ ?_
  rotate_left
  · intro w9 hSw; (unfold ST3 at hSw); (go_simp <;> with_reducible rfl)
  try simp only [Act.put, List.setIfInBounds_toArray, List.set_cons_zero, List.set_cons_succ]
  refine seq_take (v := ?_) rfl (by rfl) ?_ ?_
  rotate_left
  · intro w9 hSw; (unfold ST3 at hSw); (go_simp <;> with_reducible rfl)
  try simp only [Act.put, List.setIfInBounds_toArray, List.set_cons_zero, List.set_cons_succ]
  refine seq_take (v := ?_) rfl (by rfl) ?_ ?_
  rotate_left
  · intro w9 hSw; (unfold ST3 at hSw); (go_simp <;> with_reducible rfl)
  try simp only [Act.put, List.setIfInBounds_toArray, List.set_cons_zero, List.set_cons_succ]
  refine seq_take (v := ?_) rfl (by rfl) ?_ ?_
  rotate_left
  · intro w9 hSw; (unfold ST3 at hSw); (go_simp <;> with_reducible rfl)
  try simp only [Act.put, List.setIfInBounds_toArray, List.set_cons_zero, List.set_cons_succ]
  refine seq_take (v := ?_) rfl (by rfl) ?_ ?_
  rotate_left
  · intro w9 hSw; (unfold ST3 at hSw); (go_simp <;> with_reducible rfl)
  try simp only [Act.put, List.setIfInBounds_toArray, List.set_cons_zero, List.set_cons_succ]
  refine seq_take (v := ?_) rfl (by rfl) ?_ ?_
  rotate_left
  · intro w9 hSw; (unfold ST3 at hSw); (go_simp <;> with_reducible rfl)
  try simp only [Act.put, List.setIfInBounds_toArray, List.set_cons_zero, List.set_cons_succ]
  refine seq_take (v := ?_) rfl (by rfl) ?_ ?_
  rotate_left
  · intro w9 hSw; (unfold ST3 at hSw); (go_simp <;> with_reducible rfl)
  try simp only [Act.put, List.setIfInBounds_toArray, List.set_cons_zero, List.set_cons_succ]
  refine seq_take (v := ?_) rfl (by rfl) ?_ ?_
  rotate_left
  · intro w9 hSw; (unfold ST3 at hSw); (go_simp <;> with_reducible rfl)
  try simp only [Act.put, List.setIfInBounds_toArray, List.set_cons_zero, List.set_cons_succ]
  refine seq_take (v := ?_) rfl (by rfl) ?_ ?_
  rotate_left
  · intro w9 hSw; (unfold ST3 at hSw); (go_simp <;> with_reducible rfl)
  try simp only [Act.put, List.setIfInBounds_toArray, List.set_cons_zero, List.set_cons_succ]
  refine seq_take (v := ?_) rfl (by rfl) ?_ ?_
  rotate_left
  · intro w9 hSw; (unfold ST3 at hSw); (go_simp <;> with_reducible rfl)
  try simp only [Act.put, List.setIfInBounds_toArray, List.set_cons_zero, List.set_cons_succ]
  refine seq_take (v := ?_) rfl (by rfl) ?_ ?_
  rotate_left
  · intro w9 hSw; (unfold ST3 at hSw); (go_simp <;> with_reducible rfl)
  try simp only [Act.put, List.setIfInBounds_toArray, List.set_cons_zero, List.set_cons_succ]
  refine seq_one rfl (fun K9 hS9 => ?_)
  go_simp
  refine (k1 _).mono ?_
  rintro e w1 ⟨rfl, hb1⟩
  replace C2 : Cs w1 w.heap.size #[.int .i64 l, .int .i64 n, .int .i64 p1, .int .i64 p2, .int .i64 s1, .int .i64 s2, .int .i64 t1, .int .i64 t2] := C2.drew.keep hb1
  replace C3 : Cs w1 (w.heap.size + 1) #[.int .u32 a, .int .u32 b, .int .u32 c] := C3.drew.keep hb1
  replace C4 : Cs w1 (w.heap.size + 1 + 1) #[.int .i64 0, .int .i64 0, .int .i64 0] := C4.drew.keep hb1
  replace hbw : Below w.heap.size w w1 := blA
  clear hb1
  refine hS9.out _ _ ⟨⟨C2.c 0, C2.c 1, C2.c 2, C2.c 3, C2.c 4, C2.c 5, C2.c 6, C2.c 7⟩, ⟨C3.c 0, C3.c 1, C3.c 2⟩⟩ (fun _ => ?_)
  clear hS9 K9
  try simp only [Act.put, List.setIfInBounds_toArray, List.set_cons_zero, List.set_cons_succ]
  refine seq_one rfl (fun K9 hS9 => ?_)
  go_simp
  refine (k2 _).mono ?_
  rintro e w2 ⟨rfl, hb2⟩
  replace C2 : Cs w2 w.heap.size #[.int .i64 l, .int .i64 n, .int .i64 p1, .int .i64 p2, .int .i64 s1, .int .i64 s2, .int .i64 t1, .int .i64 t2] := C2.keep hb2
  replace C3 : Cs w2 (w.heap.size + 1) #[.int .u32 a, .int .u32 b, .int .u32 c] := C3.keep hb2
  replace C4 : Cs w2 (w.heap.size + 1 + 1) #[.int .i64 0, .int .i64 0, .int .i64 0] := C4.keep hb2
  replace hbw : Below w.heap.size w w2 := blA
  clear hb2
  refine hS9.out _ _ ⟨⟨C2.c 0, C2.c 1, C2.c 2, C2.c 3, C2.c 4, C2.c 5, C2.c 6, C2.c 7⟩, ⟨C3.c 0, C3.c 1, C3.c 2⟩⟩ (fun _ => ?_)
  clear hS9 K9
  try simp only [Act.put, List.setIfInBounds_toArray, List.set_cons_zero, List.set_cons_succ]
  refine seq_one rfl (fun K9 hS9 => ?_)
  go_simp
  refine (k3 _).mono ?_
  rintro e w3 ⟨rfl, hb3⟩
  replace C2 : Cs w3 w.heap.size #[.int .i64 l, .int .i64 n, .int .i64 p1, .int .i64 p2, .int .i64 s1, .int .i64 s2, .int .i64 t1, .int .i64 t2] := C2.keep hb3
  replace C3 : Cs w3 (w.heap.size + 1) #[.int .u32 a, .int .u32 b, .int .u32 c] := C3.keep hb3
  replace C4 : Cs w3 (w.heap.size + 1 + 1) #[.int .i64 0, .int .i64 0, .int .i64 0] := C4.keep hb3
  replace hbw : Below w.heap.size w w3 := blA
  clear hb3
  refine hS9.out _ _ ⟨⟨C2.c 0, C2.c 1, C2.c 2, C2.c 3, C2.c 4, C2.c 5, C2.c 6, C2.c 7⟩, ⟨C3.c 0, C3.c 1, C3.c 2⟩⟩ (fun _ => ?_)
  clear hS9 K9
  try simp only [Act.put, List.setIfInBounds_toArray, List.set_cons_zero, List.set_cons_succ]
  refine seq_take (v := ?_) rfl (by rfl) ?_ ?_
  rotate_left
  · intro w9 hSw; (unfold ST3 at hSw); (go_simp <;> with_reducible rfl)
  try simp only [Act.put, List.setIfInBounds_toArray, List.set_cons_zero, List.set_cons_succ]
  have cC4 := C4.c
  have fC4 := C4.f
  have lC4 := C4.lt
  refine seq_one rfl (fun K9 hS9 => ?_)
  go_simp
  have C24 := C2.other3 (g' := w.heap.size + 1 + 1) (by omega) (.int .i64 x) (.int .i64 y) (.int .i64 z)
  have C34 := C3.other3 (g' := w.heap.size + 1 + 1) (by omega) (.int .i64 x) (.int .i64 y) (.int .i64 z)
  have C44 := C4.set3 (.int .i64 x) (.int .i64 y) (.int .i64 z)
  refine hS9.out _ _ ⟨⟨C24.c 0, C24.c 1, C24.c 2, C24.c 3, C24.c 4, C24.c 5, C24.c 6, C24.c 7⟩, ⟨C34.c 0, C34.c 1, C34.c 2⟩⟩ (fun _ => ?_)
  clear hS9 K9 cC4 fC4 lC4
  try simp only [Act.put, List.setIfInBounds_toArray, List.set_cons_zero, List.set_cons_succ]
  refine seq_done ?_
  have cC4 := C44.c
  have fC4 := C44.f
  have lC4 := C44.lt
  go_wp2_with fail
  exact bodyPost_ret (v := .agg #[.int .i64 x, .int .i64 y, .int .i64 z]) (by simp [results, Tryz.results23, go_sem, cC4, fC4, lC4]) rfl ⟨rfl, bset3 hbw (by omega) _ _ _⟩

end Go.Proofs.YtminplfgadhnnaaGreatDoor
end

/- The walk of BenchSquared: it answers true. (Printed by gen/gen_bk12.py.) -/
section
namespace Go.Proofs.YtminplfgadhnnaaGreatDoor
open Go.RowKit Go.Shelf
set_option linter.unusedSimpArgs false
set_option linter.unusedVariables false
open Bm (pwr leR)

/-- a fresh block of three, if it is made; filled, if it is filled -/
def Mk3 (B : Nat) (W : World) (dn fl : Bool) (v : Value) (x y z : Int) : Prop :=
  (dn = true → ∃ g a b c, v = .pointer (some ⟨g, 0, none⟩) ∧ B ≤ g ∧ Cs W g #[a, b, c] ∧ (fl = true → a = .int .i64 x ∧ b = .int .i64 y ∧ c = .int .i64 z)) ∧ (dn = false → fl = false)
section
variable {B : Nat} {W W' : World} {dn fl : Bool} {v : Value} {x y z : Int} {g : Nat}
theorem Mk3.below (h : Mk3 B W dn fl v x y z) (hb : Below W.heap.size W W') : Mk3 B W' dn fl v x y z :=
  ⟨fun hd => by obtain ⟨g, a, b, c, e1, e2, e3, e4⟩ := h.1 hd; exact ⟨g, a, b, c, e1, e2, e3.keep hb, e4⟩, h.2⟩
theorem Mk3.alloc (h : Mk3 B W dn fl v x y z) (o : Obj) : Mk3 B (W.alloc o) dn fl v x y z := h.below (balloc (Below.refl _ _) o)
theorem Mk3.new {a b c : Value} {t : TypeId} (h : Mk3 B W dn fl v x y z) (hd : dn = false) (hB : B ≤ W.heap.size) : Mk3 B (W.alloc (.cells #[a, b, c] t)) true fl (.pointer (some ⟨W.heap.size, 0, none⟩)) x y z :=
  ⟨fun _ => ⟨W.heap.size, a, b, c, rfl, hB, Cs.new W _ _ _ rfl, fun hf => by rw [h.2 hd] at hf; cases hf⟩, fun h => by cases h⟩
theorem Mk3.set (h : Mk3 B W dn fl (.pointer (some ⟨g, 0, none⟩)) x y z) (hd : dn = true) : Mk3 B (((W.setCell ⟨g, 0, none⟩ (.int .i64 x)).setCell ⟨g, 1, none⟩ (.int .i64 y)).setCell ⟨g, 2, none⟩ (.int .i64 z)) dn true (.pointer (some ⟨g, 0, none⟩)) x y z := by
  refine ⟨fun _ => ?_, fun h => by rw [hd] at h; cases h⟩
  obtain ⟨g', a, b, c, e1, e2, e3, e4⟩ := h.1 hd
  injection e1 with e1; injection e1 with e1; injection e1 with e1
  subst e1
  exact ⟨g, _, _, _, rfl, e2, e3.set3 _ _ _, fun _ => ⟨rfl, rfl, rfl⟩⟩
theorem Mk3.other {p q r : Value} (h : Mk3 B W dn fl v x y z) (hne : dn = true → v ≠ .pointer (some ⟨g, 0, none⟩)) : Mk3 B (((W.setCell ⟨g, 0, none⟩ p).setCell ⟨g, 1, none⟩ q).setCell ⟨g, 2, none⟩ r) dn fl v x y z :=
  ⟨fun hd => by
    obtain ⟨g', a, b, c, e1, e2, e3, e4⟩ := h.1 hd
    exact ⟨g', a, b, c, e1, e2, e3.other3 (fun e => hne hd (by rw [e1, e])) _ _ _, e4⟩, h.2⟩
theorem Mk3.out (h : Mk3 B W dn fl v x y z) (h1 : dn = true) (h2 : fl = true) : ∃ g, v = .pointer (some ⟨g, 0, none⟩) ∧ B ≤ g ∧ Cs W g #[.int .i64 x, .int .i64 y, .int .i64 z] := by
  obtain ⟨g, a, b, c, e1, e2, e3, e4⟩ := h.1 h1
  obtain ⟨rfl, rfl, rfl⟩ := e4 h2
  exact ⟨g, e1, e2, e3⟩
end
theorem value_in {l n p1 p2 s1 s2 t1 t2 p s t : Int} (hb : barE l n p1 p2 s1 s2 t1 t2 = 0) (h1 : p1 ≤ p ∧ p ≤ p2) (h2 : s1 ≤ s ∧ s ≤ s2) (h3 : t1 ≤ t ∧ t ≤ t2) {v : Int × Int} (hv : pwr l p s t = v) (w : World) :
    Calls Tryz.prog 24 #[.agg #[.int .i64 l, .int .i64 n, .int .i64 p1, .int .i64 p2, .int .i64 s1, .int .i64 s2, .int .i64 t1, .int .i64 t2], .agg #[.int .i64 p, .int .i64 s, .int .i64 t]] w fun e w' => e = .returned (.tuple #[.agg #[.int .i64 v.1, .int .i64 v.2], .int .i64 0]) ∧ Below w.heap.size w w' := by
  have k := value_any l n p1 p2 s1 s2 t1 t2 p s t w
  rw [show valE l n p1 p2 s1 s2 t1 t2 p s t = (v, 0) by
    unfold valE inT
    rw [if_neg (by simpa using hb), out_false.2 h1, out_false.2 h2, out_false.2 h3, if_pos (by rfl), hv]] at k
  exact k
theorem span_in {l n p1 p2 s1 s2 t1 t2 : Int} (hb : barE l n p1 p2 s1 s2 t1 t2 = 0) {u v : Int × Int} (hu : pwr l p1 s2 t2 = u) (hv : pwr l p2 s1 t1 = v) (w : World) :
    Calls Tryz.prog 25 #[.agg #[.int .i64 l, .int .i64 n, .int .i64 p1, .int .i64 p2, .int .i64 s1, .int .i64 s2, .int .i64 t1, .int .i64 t2]] w fun e w' => e = .returned (.tuple #[.agg #[.int .i64 u.1, .int .i64 u.2, .int .i64 v.1, .int .i64 v.2], .int .i64 0]) ∧ Below w.heap.size w w' := by
  have k := span_any l n p1 p2 s1 s2 t1 t2 w
  rw [show spaE l n p1 p2 s1 s2 t1 t2 = ((u, v), 0) by
    unfold spaE
    rw [if_neg (by simpa using hb), hu, hv]] at k
  exact k
/-- a power that there can be -/
theorem pwr_all {l p s t : Int} (hl : l ≤ 5000) (hp : 0 ≤ p) (hp2 : p ≤ 100000) (hs : 1 ≤ s) (hs2 : s < l) (ht : 0 ≤ t) (ht2 : t ≤ 1000) {v : Int × Int} (hv : pwr l p s t = v) :
    0 ≤ v.1 ∧ 1 ≤ v.2 ∧ Int.gcd v.1 v.2 = 1 ∧ v.1 ≤ 9223372036854775807 ∧ v.2 ≤ 9223372036854775807 := by
  subst hv
  obtain ⟨a1, a2, a3⟩ := Bm.pwr_spec (p := p) (t := t) hs (show s ≤ l by omega)
  obtain ⟨-, -, -, -, ⟨e1, e2⟩, -, g1, g2⟩ := pwr_bd hl hp hp2 hs hs2 ht ht2
  obtain ⟨-, -, -, -, -, -, -, b1, b2⟩ := Bm.red_spec e1 g1
  refine ⟨a1, a2, a3, ?_, ?_⟩
  · exact Int.le_trans b1 (by omega)
  · exact Int.le_trans b2 (by omega)
section
attribute [local go_sem high] rat_eq

end

end Go.Proofs.YtminplfgadhnnaaGreatDoor
end

/- The examples of three stages, called one after the other. -/
section
namespace Go.Proofs.YtminplfgadhnnaaGreatDoor
open Go.RowKit Go.Shelf
set_option linter.unusedSimpArgs false
set_option linter.unusedVariables false
theorem GlobW.below {w w' : World} (h : GlobW w) (hb : Below w.heap.size w w') : GlobW w' := by
  intro k g p hg hp j hj
  have e := h k g p hg hp j hj
  rw [← e]
  have hlt : g < w.heap.size := by
    rw [List.getElem?_eq_getElem (by simpa using hj)] at e
    by_cases c : g < w.heap.size
    · exact c
    · simp [World.cell?, Array.getElem?_eq_none (Nat.le_of_not_lt c)] at e
  exact hb.cell (p := ⟨g, j, none⟩) hlt

set_option maxRecDepth 100000 in
set_option maxHeartbeats 4000000 in
theorem top_works03_any (w : World) (hW : GlobW w) :
    Calls Tryz.prog 7 #[] w fun e w' => e = .returned (.bool true) ∧ Below w.heap.size w w' := by
  have k1 := fun W h => works01_any W h
  have k2 := fun W h => works02_any W h
  have k3 := fun W h => works03_any W h
  have HW := Lib.hid hW
  clear hW
  go_enter Tryz.func7, Tryz.ntmps7
  go_wp2_with fail
  refine (k1 _ (HW.out.below blA)).mono ?_
  rintro e w1 ⟨rfl, hb1⟩
  go_wp2_with fail
  refine (k2 _ (HW.out.below blA)).mono ?_
  rintro e w2 ⟨rfl, hb2⟩
  go_wp2_with fail
  refine (k3 _ (HW.out.below blA)).mono ?_
  rintro e w3 ⟨rfl, hb3⟩
  go_wp2_with fail
  go_ret
  exact ⟨rfl, blA⟩
end Go.Proofs.YtminplfgadhnnaaGreatDoor
end
