/- BD4 BD5 BD6 -/
import Derived.Test.YtminplfgadhnnaaGreatDoorTB14
import Derived.Test.YtminplfgadhnnaaGreatDoorTB06
import Derived.Test.YtminplfgadhnnaaGreatDoorTB02
/- Walks of package bench: Useless, Trim. -/
section
namespace Go.Proofs.YtminplfgadhnnaaGreatDoor
open Go.RowKit Go.Shelf
set_option linter.unusedSimpArgs false
set_option linter.unusedVariables false
open Bm (wd tab tabP runB Pr OkP usd uslL trmL)
attribute [local go_sem] Oper.semAt_some

theorem own_turns {w w' : World} {B : Nat} {e : TypeId} {s : Nat} {v : Value} {n : Nat} {xs : List Value} {O : Nat → Prop} (h : w.ownsRow B e s v n xs) (ht : Turns O w w') (hO : ∀ i, B ≤ i → ¬ O i) : w'.ownsRow B e s v n xs := by
  refine ⟨h.1, ?_⟩
  rcases h.2 with h2 | ⟨g, cap, cur, e1, hB, hg, rest⟩
  · exact Or.inl h2
  · have hlt : g < w.heap.size := (Array.getElem?_eq_some_iff.1 hg).1
    exact Or.inr ⟨g, cap, cur, e1, hB, (ht.block g hlt (hO g hB)).trans hg, rest⟩

/-- an append of some elements to a row of the call's own, within a fence -/
theorem listIn_ownG {F : Fence} {q : Nat} {T e : TypeId} {z : Value} {size by_ : Nat} (hT : ElemT T e z size by_) {ops : Array Oper} {rest : List Oper} {o : Oper} {a : Act} {w : World} {Q : Exit → Act → World → Prop}
    (hg : o.guard = none) (s x : Operand) (hop : o.op = Op.call { callee := Callee.builtin Builtin.append, args := #[s, x], argTypes := #[T, T] })
    (B n : Nat) (v : Value) (xs : List Value) (hs : a.eval s = v) (hown : w.ownsRow B e size v n xs)
    (ad : Addr) (m c : Nat) (news : List Value) (hx : a.eval x = .slice (some ad) m c) (hl : news.length = m * size) (hnews : ∀ j u, news[j]? = some u → w.cell? (ad.add j) = some u) (h1 : ∀ u ∈ news, u.oneCell' = true)
    (hm : 0 < m) (hn : n + m ≤ 6000) (hB : B ≤ w.heap.size)
    (hK : ∀ g c w', w'.ownsRow B e size (.slice (some ⟨g, 0, none⟩) (n + m) c) (n + m) (xs ++ news) → Turns (fun i => B ≤ i) w w' → wpListIn F q Tryz.prog ops Q rest (a.put o.dst (.slice (some ⟨g, 0, none⟩) (n + m) c)) w') :
    wpListIn F q Tryz.prog ops Q (o :: rest) a w := by
  obtain ⟨hu, hinf, hzc, hs0, hby⟩ := hT
  obtain ⟨i0, hi0, hzz⟩ := Option.map_eq_some_iff.1 hinf
  simp only [Prod.mk.injEq] at hzz
  obtain ⟨hz0, hz1, hz2⟩ := hzz
  have hbb : (n + m) * by_ ≤ 6000 * 32 := Nat.mul_le_mul hn hby
  refine wpListIn_append_own w hg s x T hop B e i0 z size by_ hu hi0 hz0 hz1 hz2 hzc hs0 v n _ hs hown ad m c news hx hl hnews h1 (by unfold maxLen; omega) (by omega) hB ?_
  intro v' w' h1 h2 _
  have hlt := hown.lt
  rcases h1.2 with ⟨rfl, h0⟩ | ⟨g, cap, cur, rfl, hrest⟩
  · omega
  · refine hK g cap w' h1 ⟨h2.os, h2.tape, h2.output, h2.size, fun i hi hno => h2.block i (by omega) (fun e => ?_)⟩
    have := hlt i e.symm
    omega
theorem listIn_one {F : Fence} {q : Nat} {T e : TypeId} (hT : ElemT T e (.int .i64 0) 1 8) {ops : Array Oper} {rest : List Oper} {o : Oper} {a : Act} {w : World} {Q : Exit → Act → World → Prop}
    (hg : o.guard = none) (s x : Operand) (hop : o.op = Op.call { callee := Callee.builtin Builtin.append, args := #[s, x], argTypes := #[T, T] })
    (B n : Nat) (v : Value) (xs : List Int) (hs : a.eval s = v) (hown : w.ownsRow B e 1 v n (xs.map (Value.int .i64)))
    (b : Nat) (y : Int) (hx : a.eval x = .slice (some ⟨b, 0, none⟩) 1 1) (hy : w.cell? ⟨b, 0, none⟩ = some (.int .i64 y)) (hn : n ≤ 5000) (hB : B ≤ w.heap.size)
    (hK : ∀ g c w', w'.ownsRow B e 1 (.slice (some ⟨g, 0, none⟩) (n + 1) c) (n + 1) ((xs ++ [y]).map (Value.int .i64)) → Turns (fun i => B ≤ i) w w' → wpListIn F q Tryz.prog ops Q rest (a.put o.dst (.slice (some ⟨g, 0, none⟩) (n + 1) c)) w') :
    wpListIn F q Tryz.prog ops Q (o :: rest) a w := by
  refine listIn_ownG hT hg s x hop B n v _ hs hown ⟨b, 0, none⟩ 1 1 [.int .i64 y] hx rfl ?_ ?_ (by omega) (by omega) hB ?_
  · intro j u hu
    match j, hu with
    | 0, hu => simp at hu; subst hu; simpa [Addr.add] using hy
    | j + 1, hu => simp at hu
  · intro u hu
    simp at hu
    subst hu; rfl
  · intro g c w' h1 h2
    exact hK g c w' (by simpa using h1) h2
theorem listIn_pair {F : Fence} {q : Nat} {T e : TypeId} (hT : ElemT T e (.agg #[.int .i64 0, .int .i64 0]) 2 16) {ops : Array Oper} {rest : List Oper} {o : Oper} {a : Act} {w : World} {Q : Exit → Act → World → Prop}
    (hg : o.guard = none) (s x : Operand) (hop : o.op = Op.call { callee := Callee.builtin Builtin.append, args := #[s, x], argTypes := #[T, T] })
    (B n : Nat) (v : Value) (xs : List (Int × Int)) (hs : a.eval s = v) (hown : w.ownsRow B e 2 v n (xs.flatMap encR))
    (b : Nat) (y y' : Int) (hx : a.eval x = .slice (some ⟨b, 0, none⟩) 1 1) (hy : w.cell? ⟨b, 0, none⟩ = some (.int .i64 y)) (hy' : w.cell? ⟨b, 1, none⟩ = some (.int .i64 y')) (hn : n ≤ 5000) (hB : B ≤ w.heap.size)
    (hK : ∀ g c w', w'.ownsRow B e 2 (.slice (some ⟨g, 0, none⟩) (n + 1) c) (n + 1) ((xs ++ [(y, y')]).flatMap encR) → Turns (fun i => B ≤ i) w w' → wpListIn F q Tryz.prog ops Q rest (a.put o.dst (.slice (some ⟨g, 0, none⟩) (n + 1) c)) w') :
    wpListIn F q Tryz.prog ops Q (o :: rest) a w := by
  refine listIn_ownG hT hg s x hop B n v _ hs hown ⟨b, 0, none⟩ 1 1 (encR (y, y')) hx rfl ?_ ?_ (by omega) (by omega) hB ?_
  · intro j u hu
    match j, hu with
    | 0, hu => simp [encR] at hu; subst hu; simpa [Addr.add] using hy
    | 1, hu => simp [encR] at hu; subst hu; simpa [Addr.add] using hy'
    | j + 2, hu => simp [encR] at hu
  · intro u hu
    simp [encR] at hu
    rcases hu with rfl | rfl <;> rfl
  · intro g c w' h1 h2
    exact hK g c w' (by simpa using h1) h2

set_option maxRecDepth 100000 in
set_option maxHeartbeats 4000000 in
theorem useless_ok (A : Option Addr) (n m C : Nat) (p : List Pr) (w : World) (hz : Prs w A m (cst p)) (hm : m ≤ 80) (hC : m ≤ C) (h2 : 2 ≤ n) (h12 : n ≤ 12) (hp : OkP n p) :
    Calls Tryz.prog 74 #[.int .i64 (n : Nat), .slice A m C] w (RetLE ((uslL n [] 0 p).map fun x => ((x : Nat) : Int)) 0 w) := by
  have k1 := fun (W : World) (hb' : Below w.heap.size w W) => checkP_any (n : Int) A m C (cst p) W (hz.below hb') (by omega)
  rw [chk_of h2 h12 hp (by have := hz.1; rw [cst_len] at this; omega)] at k1
  have kN := fun (W : World) => newTable_any A m n C W h2 h12 hm hC
  have Hz := Lib.hid hz
  have Hp := Lib.hid hp
  have hpl : p.length = m := by have := hz.1; rwa [cst_len] at this
  have hgA : 0 < m → ∀ b off, A = some ⟨b, off, none⟩ → b < w.heap.size := by
    intro h b off e
    obtain ⟨b', off', e', hl, _⟩ := hz.2 h
    rw [e] at e'; injection e' with e'; injection e' with e'; omega
  have Hst := Lib.hid (fun (i : Nat) (x : Pr) (hi : p[i]? = some x) => usl_step (n := n) hi)
  have Hll : Hid (∀ k, (uslL n [] 0 (p.take k)).length ≤ 80) := Lib.hid fun k => by
    have h := Bm.trm_len (n := n) (p.take k) [] 0
    have h3 : (p.take k).length ≤ m := by rw [List.length_take]; omega
    omega
  clear hz hp
  refine (callsIn_wide (n := 8)).1 ?_
  refine callsIn_of_wp_marks Tryz.func74 rfl trivial ?_ rfl
  simp only [Tryz.ntmps74, List.size_toArray, List.length_cons, List.length_nil, Nat.reduceAdd, Nat.reduceSub, Array.replicate_succ, Array.replicate_zero, List.push_toArray, List.append_toArray, List.nil_append, List.cons_append]
  gi_wp2_with fail
  refine ⟨trivial, (callsIn_wide.2 (k1 _ blA)).mono ?_⟩
  rintro _ w1 ⟨rfl, hb1⟩
  clear k1
  gi_wp2_with fail
  refine ⟨trivial, (callsIn_wide.2 (kN _)).mono ?_⟩
  rintro _ w2 ⟨gt, gl, rfl, hTb, hgt, hgl, hb2⟩
  have B7 : Cs w2 w1.heap.size #[.slice none 0 0] := Cs.keep csA hb2
  have hbw2 : Below w.heap.size w w2 := blA
  have hT2 : Tb w2 gt gl A m n (WT n []) := hTb
  clear hTb kN
  gi_wp2_with fail
  refine ⟨trivial, (callsIn_wide.2 (steps_any gt w2)).mono ?_⟩
  rintro _ w3 ⟨rfl, B3, hb3⟩
  have hbw3 : Below w.heap.size w w3 := hbw2.trans (hb3.mono hbw2.size)
  have S3 : St3 w3 gt gl w2.heap.size A m n p (WT n []) := ⟨hT2.below hb3, B3, Hz.out.below hbw3⟩
  have C7 := B7.keep hb3
  have hlt := hT2.1.lt
  have hlt2 := hT2.2.1.1
  have hne := hT2.2.2
  have hlt7 := B7.lt
  have hs3 := B3.lt
  have hs1 : w.heap.size ≤ w1.heap.size := hb1.size
  have hgt' : w1.heap.size + 1 ≤ gt := by simpa using hgt
  have hgl' : w1.heap.size + 1 ≤ gl := by simpa using hgl
  clear hT2 B7 hb3 hb1 hb2 hgt hgl hbw2
  gi_wp2_with fail
  obtain ⟨I, hId⟩ : ∃ I : Nat → World → Prop, I = fun k W => ∃ v, Cs W w1.heap.size #[v] ∧ W.ownsRow (w3.heap.size + 2) 3 1 v (uslL n [] 0 (p.take k)).length (((uslL n [] 0 (p.take k)).map fun x => ((x : Nat) : Int)).map (Value.int .i64)) ∧ Below w.heap.size w W := ⟨_, rfl⟩
  have hI : ∀ k W W', I k W → Turns (fun i => i = gl ∨ i = w3.heap.size + 1) W W' → I k W' := by
    intro k W W' h ht
    rw [hId] at h ⊢
    obtain ⟨v, h1, h2, h3⟩ := h
    exact ⟨v, h1.turns ht (by omega), own_turns h2 ht (by omega), Turns.below h3 ht (fun i hi => by have hi' := hi; omega) h3.size⟩
  refine range_steps (by omega) w2.heap.size gt gl m n A p S3 Hp.out hm h12 (by omega) (fun h b off e => by have := hgA h b off e; omega) rfl rfl
    (fun i => i = w1.heap.size ∨ w3.heap.size + 2 ≤ i) (fun i hi => by
      refine ⟨by omega, by omega, by omega, fun h off e => ?_, by omega, by omega⟩
      have := hgA h i off e; omega)
    I hI (by rw [hId]; exact ⟨_, C7, by simp [uslL, Bm.stp]; exact World.ownsRow_nil _ _ _ _, hbw3⟩)
    (fun k y a' W => I k W ∧ a' = { tmps := #[.int .i64 (n : Nat), .slice A m C, undef, undef, .slice none 0 0, .int .i64 0, .int .i64 0, .pointer (some ⟨w1.heap.size, 0, none⟩), .int .i64 (k : Nat), .bool (usd n (p.take k) y), .int .i64 (n : Nat), .slice A m C, .int .i64 0, .int .i64 0, .bool false, undef, .int .i64 (n : Nat), .slice A m C, .pointer (some ⟨gt, 0, none⟩), .func (.func 157) #[] #[.pointer (some ⟨w2.heap.size, 0, none⟩)], .int .i64 (k : Nat), .bool (usd n (p.take k) y), undef, undef, undef, undef, undef, undef, undef], defers := [] })
    ?hAx ?hassign ?hbody ?hdone
  case hAx =>
    rintro k y a' W W' ⟨h1, rfl⟩ ht
    exact ⟨hI _ _ _ h1 (ht.mono fun i hi => .inr hi), rfl⟩
  case hassign =>
    intro l k y W K hy hi hW hK
    gi_wp2_with fail
    exact hK _ _ (Turns.refl _ _) ⟨hi, rfl⟩
  case hbody =>
    rintro l k y a' W hy ⟨hi, rfl⟩ hW
    rw [hId] at hi
    obtain ⟨v, h7, hO, hb⟩ := hi
    have hstep := Hst.out k y hy
    have hll := Hll.out k
    have HI : Hid (∀ W2 v2, Cs W2 w1.heap.size #[v2] → W2.ownsRow (w3.heap.size + 2) 3 1 v2 (uslL n [] 0 (p.take (k + 1))).length (((uslL n [] 0 (p.take (k + 1))).map fun x => ((x : Nat) : Int)).map (Value.int .i64)) → Below w.heap.size w W2 → I (k + 1) W2) := Lib.hid fun W2 v2 a1 a2 a3 => by rw [hId]; exact ⟨v2, a1, a2, a3⟩
    rw [hstep] at HI
    generalize uslL n [] 0 (p.take k) = L at *
    generalize usd n (p.take k) y = u at *
    clear hId hI hstep C7 S3 B3 hy Hst
    have HO := Lib.hid hO
    have H7 := Lib.hid h7
    clear hO
    cases u with
    | true =>
      have hend := Lib.hid (HI.out W v H7.out (by simpa using HO.out) hb)
      clear HI HO h7 H7
      gi_wp2_with fail
      exact ⟨Turns.refl _ _, hend.out⟩
    | false =>
      have ch7 := h7.c
      have fh7 := h7.f
      have lh7 := h7.lt
      gi_wp2_with (gi_at_builtin; refine listIn_one elInt rfl _ _ rfl (w3.heap.size + 2) L.length _ (L.map fun x => ((x : Nat) : Int)) (by rfl) (own_keep HO.out (balloc (Below.refl _ _) _)) W.heap.size (k : Nat) (by rfl) (by simp) (by omega) (by simp; omega) ?_; intro g6 c6 w6 hO6 hT6; have C6 : Cs w6 w1.heap.size #[v] := (H7.out.alloc _).turns hT6 (by omega); have cC6 := C6.c; have fC6 := C6.f; have lC6 := C6.lt)
      have T7 : Turns (fun i => i = w1.heap.size) w6 (w6.setCell ⟨w1.heap.size, 0, none⟩ (.slice (some ⟨g6, 0, none⟩) (L.length + 1) c6)) := Turns.setCell _ rfl
      have T17 : Turns (fun i => i = w1.heap.size ∨ w3.heap.size + 2 ≤ i) W (w6.setCell ⟨w1.heap.size, 0, none⟩ (.slice (some ⟨g6, 0, none⟩) (L.length + 1) c6)) := ((Turns.of_below (balloc (Below.refl _ _) _)).trans (hT6.mono fun i hi => .inr hi)).trans (T7.mono fun i hi => .inl hi)
      refine ⟨T17, HI.out _ _ (C6.set 0 _ (by simp)) ?_ (Turns.below hb T17 (fun i hi => by have hi' := hi; omega) hb.size)⟩
      have := own_turns hO6 T7 (fun i hi e => by have e' : i = w1.heap.size := e; omega)
      simp only [Bool.false_eq_true, if_false, List.length_append, List.map_append] at this ⊢
      exact this
  case hdone =>
    intro W hL hi hD
    rw [hId] at hi
    obtain ⟨v, h7, hO, hb⟩ := hi
    rw [List.take_length] at hO
    have T7 : Turns (fun i => i = w3.heap.size) W (W.putObj w3.heap.size (.deferred none)) := Turns.putObj _ rfl
    replace hO := own_turns hO T7 (fun i hi e => by have e' : i = w3.heap.size := e; omega)
    obtain ⟨A', c', rfl, hInts, hcc⟩ := own_ints (by simp) hO
    have hlen := Hll.out p.length
    rw [List.take_length] at hlen
    have HD := Lib.hid hD
    have HIn := Lib.hid hInts
    clear hO hInts hD hL hId hI
    have ch7 := h7.c
    have fh7 := h7.f
    have lh7 := h7.lt
    gi_wp2_with fail
    refine ⟨by simp, .inl ⟨_, _, rfl, run_takeDeferred HD.out, ?_⟩⟩
    exact ⟨.tuple #[.slice A' (uslL n [] 0 p).length c', .int .i64 0], by simp [results, Tryz.results74, go_sem], ⟨A', _, c', rfl, HIn.out, ⟨by omega, hcc⟩, Turns.below hb T7 (fun i k => by have k' : i = w3.heap.size := k; omega) hb.size⟩⟩

end Go.Proofs.YtminplfgadhnnaaGreatDoor
end

/- Walks of package bench: Build. -/
section
namespace Go.Proofs.YtminplfgadhnnaaGreatDoor
open Go.RowKit Go.Shelf
set_option linter.unusedSimpArgs false
set_option linter.unusedVariables false
open Bm (Pr OkP buildL outB midB innB topB)

/-- the first of the pairs of places that are so far apart -/
def innT (part rest apart i : Nat) : List Pr := ((List.range i).filter fun i => Nat.beq (i &&& part) rest).map fun i => (i, i + apart)
theorem innT_succ (part rest apart i : Nat) : innT part rest apart (i + 1) = innT part rest apart i ++ if i &&& part = rest then [(i, i + apart)] else [] := by
  unfold innT
  rw [List.range_succ, List.filter_append, List.map_append]
  congr 1
  by_cases h : i &&& part = rest
  · have : Nat.beq (i &&& part) rest = true := by rw [h]; exact Nat.beq_refl _
    rw [if_pos h]; simp [this]
  · rw [if_neg h]
    have : Nat.beq (i &&& part) rest = false := by
      cases hb : Nat.beq (i &&& part) rest with
      | false => rfl
      | true => exact absurd (Nat.eq_of_beq_eq_true hb) h
    simp [this]
theorem i64_and_small (a b : Nat) (ha : a < 256) (hb : b < 256) : bits .and .i64 (a : Int) (b : Int) = ((a &&& b : Nat) : Int) := by
  have h := Nat.and_lt_two_pow (n := 8) a (show b < 2 ^ 8 from hb)
  have key : (BitVec.ofInt 64 (a : Int) &&& BitVec.ofInt 64 (b : Int)).toNat = a &&& b := by
    rw [BitVec.toNat_and, BitVec.toNat_ofInt, BitVec.toNat_ofInt]
    congr 1 <;> omega
  show IntKind.i64.wrap ((BitVec.ofInt 64 (a : Int) &&& BitVec.ofInt 64 (b : Int)).toNat : Nat) = _
  rw [key, IntKind.wrap_i64]
  omega

/-- a power of two up to eight -/
def P2 (x : Nat) : Prop := x = 1 ∨ x = 2 ∨ x = 4 ∨ x = 8

set_option maxRecDepth 100000 in
set_option maxHeartbeats 4000000 in
theorem build_ok (n : Nat) (w : World) (h2 : 2 ≤ n) (h12 : n ≤ 12) :
    Calls Tryz.prog 21 #[.int .i64 (n : Nat)] w (RetPE (cst (buildL n)) 0 w) := by
  have hbl : (buildL n).length ≤ 66 := by
    have h := (Bm.build_ok h2 h12).2
    have h3 : n * (n - 1) / 2 ≤ 12 * 11 / 2 := Nat.div_le_div_right (Nat.mul_le_mul h12 (by omega))
    omega
  have Hbl : Hid ((buildL n).length ≤ 66) := Lib.hid hbl
  obtain ⟨T, hT⟩ : ∃ T, topB n = T := ⟨_, rfl⟩
  have hBd : buildL n = outB 9 n T T := by unfold buildL; rw [hT]
  have HB : Hid (outB 9 n T T = buildL n) := Lib.hid hBd.symm
  have hTP : P2 T := by rw [← hT]; unfold topB P2; split <;> (try split) <;> (try split) <;> omega
  generalize buildL n = BL at *
  clear hBd hbl
  go_enter Tryz.func21, Tryz.ntmps21
  go_wp2_with fail
  go_loopw [4] (fun s4 wx => ∃ t : Nat, (t = 1 ∨ t = 2 ∨ t = 4 ∨ t = 8 ∨ t = 16) ∧ t < 2 * n ∧ s4 = .int .i64 (t : Nat) ∧ Hid (w = wx)) (fun s4 _ => n - (intOf s4).toNat)
  case atStart => exact ⟨1, .inl rfl, by omega, rfl, by first | exact Lib.hid rfl | exact Lib.hid trivial⟩
  case round =>
    obtain ⟨t, ht, htn, rfl, HW⟩ := hrel
    rw [← HW.out]
    clear HW
    by_cases hlt : t < n
    · go_wp2_with fail
      go_roundw
      case rel => exact ⟨t * 2, by omega, by omega, by go_num, by first | exact Lib.hid rfl | exact Lib.hid trivial⟩
      case measure => simp [intOf]; omega
    · have htop : t / 2 = T := by
        rw [← hT]; unfold topB
        rcases ht with rfl | rfl | rfl | rfl | rfl
        · omega
        · rw [if_pos (by omega)]
        · rw [if_neg (by omega), if_pos (by omega)]
        · rw [if_neg (by omega), if_neg (by omega), if_pos (by omega)]
        · rw [if_neg (by omega), if_neg (by omega), if_neg (by omega)]
      have htop' : (t : Int) / 2 = ((T : Nat) : Int) := by omega
      clear hT
      go_wp2_with fail
      go_loopw [5, 6] (fun s5 s6 wx => ∃ (f part : Nat) (dn : List Pr) (W : World), (part = 0 ∨ P2 part) ∧ part ≤ T ∧ part < 2 ^ f ∧ s6 = .int .i64 (part : Nat) ∧ Hid (W = wx) ∧ Hid (dn ++ outB f n T part = BL) ∧ Hid (W.ownsRow w.heap.size 101 2 s5 dn.length ((cst dn).flatMap encR)) ∧ Below w.heap.size w W) (fun _ s6 _ => (intOf s6).toNat)
      case atStart => exact ⟨9, T, [], _, .inr hTP, Nat.le_refl _, by unfold P2 at hTP; omega, by first | rfl | go_num, Lib.hid rfl, Lib.hid HB.out, Lib.hid (by simp [cst]; exact World.ownsRow_nil _ _ _ _), blA⟩
      case round =>
        obtain ⟨f, part, dn, W, hp, hpT, hpf, rfl, HW, HD, HO, hbw⟩ := hrel
        obtain rfl := HW.out
        clear HW
        by_cases hp0 : part = 0
        · subst hp0
          have hdn : dn = BL := by
            have := HD.out
            cases f with
            | zero => simpa [outB] using this
            | succ f => simpa [outB] using this
          have HO1 := HO.out
          rw [hdn] at HO1
          obtain ⟨A', c', hv, hI, hcc⟩ := own_prs (zs := cst BL) (by rw [cst_len]) HO1
          subst hv
          have HI := Lib.hid hI
          have hl := Hbl.out
          clear hI HO HO1
          go_wp2_with fail
          go_ret2
          exact ⟨A', _, c', rfl, HI.out, ⟨by omega, hcc⟩, hbw⟩
        · have hp' : P2 part := hp.resolve_left hp0
          have hpB : part ≤ 8 := by unfold P2 at hp'; omega
          obtain ⟨f', rfl⟩ : ∃ f', f = f' + 1 := ⟨f - 1, by cases f with
            | zero => simp at hpf; omega
            | succ f => rfl⟩
          have hpf' : part / 2 < 2 ^ f' := by rw [Nat.pow_succ] at hpf; omega
          have HD2 : Hid (dn ++ (midB 9 n part T 0 part ++ outB f' n T (part / 2)) = BL) := Lib.hid (by have := HD.out; rwa [outB, if_neg hp0] at this)
          obtain ⟨OB, hOB⟩ : ∃ OB, outB f' n T (part / 2) = OB := ⟨_, rfl⟩
          rw [hOB] at HD2
          have HOB := Lib.hid hOB
          have hpN : 0 < part := by omega
          have hpI : (0 : Int) < (part : Int) := by omega
          clear HD hp hOB
          go_wp2_with fail
          go_loopw [5, 7, 8, 9] (fun s5 s7 s8 s9 wx => ∃ (k far rest apart : Nat) (dn : List Pr) (V : World), P2 far ∧ part ≤ far ∧ far < 2 ^ k ∧ rest ≤ 8 ∧ apart ≤ 8 ∧ s7 = .int .i64 (far : Nat) ∧ s8 = .int .i64 (rest : Nat) ∧ s9 = .int .i64 (apart : Nat) ∧ Hid (V = wx) ∧ Hid (dn ++ (midB k n part far rest apart ++ OB) = BL) ∧ Hid (V.ownsRow w.heap.size 101 2 s5 dn.length ((cst dn).flatMap encR)) ∧ Below w.heap.size w V) (fun _ s7 _ _ _ => (intOf s7).toNat)
          case atStart => exact ⟨9, T, 0, part, dn, _, hTP, hpT, by unfold P2 at hTP; omega, by omega, hpB, rfl, rfl, rfl, Lib.hid rfl, HD2, HO, hbw⟩
          case round =>
            clear HD2 HO hbw
            obtain ⟨k, far, rest, apart, dn, V, hf, hpf2, hfk, hr8, ha8, rfl, rfl, rfl, HV, HD, HO, hbw⟩ := hrel
            obtain rfl := HV.out
            clear HV
            have hf1 : 1 ≤ far := by unfold P2 at hf; omega
            obtain ⟨k', rfl⟩ : ∃ k', k = k' + 1 := ⟨k - 1, by cases k with
              | zero => simp at hfk; omega
              | succ k => rfl⟩
            have hfk' : far / 2 < 2 ^ k' := by rw [Nat.pow_succ] at hfk; omega
            have HD2 : Hid (dn ++ (innT part rest apart (n - apart) ++ ((if far = part then [] else midB k' n part (far / 2) part (far - part)) ++ OB)) = BL) := Lib.hid (by have := HD.out; rw [midB] at this; simpa [innT, innB] using this)
            clear HD
            go_wp2_with fail
            go_loopw [5, 34] (fun s5 s34 wx => ∃ (i len : Nat) (U : World), i ≤ n - apart ∧ len ≤ 1000 ∧ s34 = .int .i64 (i : Nat) ∧ Hid (U = wx) ∧ Hid (len = (dn ++ innT part rest apart i).length) ∧ Hid (U.ownsRow w.heap.size 101 2 s5 len ((cst (dn ++ innT part rest apart i)).flatMap encR)) ∧ Below w.heap.size w U) (fun _ s34 _ => n - (intOf s34).toNat)
            case atStart =>
              have hdl : dn.length ≤ 66 := by have h1 := HD2.out; have h3 := Hbl.out; rw [← h1] at h3; simp at h3; omega
              exact ⟨0, dn.length, _, Nat.zero_le _, by omega, rfl, Lib.hid rfl, Lib.hid (by simp [innT]), Lib.hid (by simpa [innT] using HO.out), hbw⟩
            case round =>
              clear HO hbw
              obtain ⟨i, len, U, hi, hlen, rfl, HU, Hlen, HO, hbw⟩ := hrel
              obtain rfl := HU.out
              clear HU
              have hsw := hbw.size
              by_cases hin : i < n - apart
              · have i1 : (i : Int) < (n : Int) - (apart : Int) := by omega
                have hand := i64_and_small i part (by omega) (by omega)
                have hstep := innT_succ part rest apart i
                obtain ⟨x, hx⟩ : ∃ x, i &&& part = x := ⟨_, rfl⟩
                rw [hx] at hand hstep
                have hl2 : len ≤ 66 := by
                  have h1 := HD2.out
                  have h3 := Hbl.out
                  have h4 := Hlen.out
                  have h5 : (innT part rest apart i).length ≤ (innT part rest apart (n - apart)).length := by
                    unfold innT
                    rw [List.length_map, List.length_map]
                    exact (List.Sublist.filter _ (List.range_sublist.2 (by omega))).length_le
                  rw [← h1] at h3
                  simp at h3 h4
                  omega
                by_cases hxr : x = rest
                · have Hn : Hid (dn ++ innT part rest apart (i + 1) = (dn ++ innT part rest apart i) ++ [(i, i + apart)]) := Lib.hid (by rw [hstep, if_pos hxr]; simp)
                  subst hxr
                  clear hstep hx
                  go_wp2_with (at_builtin; refine list_pair elPair rfl _ _ rfl w.heap.size len _ (cst (dn ++ innT part x apart i)) (by rfl) (HO.out.alloc _) U.heap.size (i : Nat) ((i : Int) + (apart : Int)) (by rfl) (by simp) (by simp) (by omega) (by simp; omega) ?_; intro g6 c6 w6 hO6 hb6)
                  go_wp2_with fail
                  go_roundw
                  case rel => exact ⟨i + 1, len + 1, _, by omega, by omega, by go_num, Lib.hid rfl, Lib.hid (by rw [Hn.out, List.length_append, ← Hlen.out]; rfl), Lib.hid (by rw [Hn.out]; exact (by simpa [cst] using hO6)), hbw.trans ((balloc' _ _ _ hbw.size).trans hb6)⟩
                  case measure => simp [intOf]; omega
                · have Hn : Hid (dn ++ innT part rest apart (i + 1) = dn ++ innT part rest apart i) := Lib.hid (by rw [hstep, if_neg hxr]; simp)
                  have hxr' : ¬ (x : Int) = (rest : Int) := by omega
                  clear hstep hx
                  go_wp2_with fail
                  go_roundw
                  case rel => exact ⟨i + 1, len, _, by omega, by omega, by go_num, Lib.hid rfl, Lib.hid (by rw [Hn.out]; exact Hlen.out), Lib.hid (by rw [Hn.out]; exact HO.out), hbw⟩
                  case measure => simp [intOf]; omega
              · have hie : i = n - apart := by omega
                subst hie
                have i1 : ¬ ((n - apart : Nat) : Int) < (n : Int) - (apart : Int) := by omega
                have hl := Hlen.out
                have HO2 := HO.out
                rw [hl] at HO2
                by_cases hfp : far = part
                · subst hfp
                  have HD3 : Hid ((dn ++ innT far rest apart (n - apart)) ++ outB f' n T (far / 2) = BL) := Lib.hid (by have := HD2.out; rw [if_pos rfl] at this; rw [HOB.out]; simpa using this)
                  have HO3 := Lib.hid HO2
                  clear HO HO2 HD2 Hlen hl
                  go_wp2_with fail
                  go_roundw
                  case rel => exact ⟨f', far / 2, _, _, by unfold P2 at hf ⊢; omega, by omega, hpf', by go_num, Lib.hid rfl, HD3, HO3, hbw⟩
                  case measure => simp [intOf]; omega
                · have HD3 : Hid ((dn ++ innT part rest apart (n - apart)) ++ (midB k' n part (far / 2) part (far - part) ++ OB) = BL) := Lib.hid (by have := HD2.out; rw [if_neg hfp] at this; simpa using this)
                  have HO3 := Lib.hid HO2
                  have hfp' : ¬ (far : Int) = (part : Int) := by omega
                  have e1 : ((far - part : Nat) : Int) = (far : Int) - (part : Int) := by omega
                  have q1 : P2 (far / 2) ∧ part ≤ far / 2 ∧ far - part ≤ 8 ∧ far / 2 < far := by
                    unfold P2 at hf hp' ⊢
                    rcases hf with h | h | h | h <;> rcases hp' with h' | h' | h' | h' <;> subst h <;> subst h' <;> first | exact absurd rfl hfp | (exfalso; omega) | (refine ⟨?_, ?_, ?_, ?_⟩ <;> omega)
                  have q2 : ((far / 2 : Nat) : Int) < (far : Int) := by omega
                  clear HO HO2 HD2 Hlen hl
                  go_wp2_with fail
                  go_roundw
                  case rel => exact ⟨k', far / 2, part, far - part, _, _, q1.1, q1.2.1, hfk', hpB, q1.2.2.1, by go_num, rfl, by go_num, Lib.hid rfl, HD3, HO3, hbw⟩
                  case measure =>
                    simp [intOf]
                    first | omega | (trace_state; done)


end Go.Proofs.YtminplfgadhnnaaGreatDoor
end

/- Walks of package bench: Useless, Trim, whatever comes in. -/
section
namespace Go.Proofs.YtminplfgadhnnaaGreatDoor
open Go.RowKit Go.Shelf
set_option linter.unusedSimpArgs false
set_option linter.unusedVariables false
open Bm (wd tab tabP runB Pr OkP usd uslL trmL)
attribute [local go_sem] Oper.semAt_some

set_option maxHeartbeats 1000000 in
theorem useless_any (l : Int) (A : Option Addr) (c C : Nat) (zs : List (Int × Int)) (w : World) (hz : Prs w A c zs) (hc : c ≤ 9223372036854775807) (hC : c ≤ C) :
    Calls Tryz.prog 74 #[.int .i64 l, .slice A c C] w (RetLE (useE l zs).1 (useE l zs).2 w) := by
  by_cases h0 : chkP l zs = 0
  · obtain ⟨n, p, rfl, h2, h12, rfl, hp, hl⟩ := chk_ok h0
    have hlc := hz.1
    rw [cst_len] at hlc
    have e : useE n (cst p) = ((uslL n [] 0 p).map fun x => ((x : Nat) : Int), 0) := by unfold useE; rw [if_neg (by simpa using h0), natP_cst, Int.toNat_natCast]
    rw [e]
    exact useless_ok A n c C p w hz (by omega) hC h2 h12 hp
  · have k1 := fun (W : World) (hb' : Below w.heap.size w W) => checkP_any l A c C zs W (hz.below hb') hc
    have e : useE l zs = ([], chkP l zs) := by unfold useE; rw [if_pos h0]
    rw [e]
    generalize chkP l zs = q at *
    have x1 : (q != 0) = true := by simpa using h0
    have x2 : (q == 0) = false := by simpa using h0
    clear e hz
    go_enter Tryz.func74, Tryz.ntmps74
    go_wp2_with fail
    refine (k1 _ blA).mono ?_
    rintro _ w1 ⟨rfl, hb1⟩
    replace hbw : Below w.heap.size w w1 := blA
    clear hb1
    clear k1
    go_wp2_with fail
    go_ret2
    exact RetLE.no blA rfl

theorem wpOpIn_round {l q : Nat} {P : Program} {ops : Array Oper} {Q : Exit → Act → World → Prop} {K K' : Act → World → Prop} {i : Nat} {a : Act} {w : World} (hd : ∀ (i : Nat) (o : Oper), ops[i]? = some o → ∀ c, o.op ≠ .defer c)
    (hQ : ¬ LetsOut Q) (hK : ∀ a w, K a w → K' a w) (h : wpOp P ops Q i K a w) : wpOpIn (Fence.wide.inRound l) q P ops Q i K' a w := by
  unfold wpOp at h
  unfold wpOpIn
  cases ho : ops[i]? with
  | none => simp only [ho] at h ⊢; exact hK _ _ h
  | some o =>
    simp only [ho] at h ⊢
    split
    · rename_i hw
      simp only [hw, if_true] at h
      rcases h with h | ⟨_, h⟩
      case inr => exact absurd h hQ
      refine ⟨fun _ _ => trivial, ?_⟩
      rw [show (Fence.wide.inRound l).round = some l from rfl, Oper.semAt_some l _ _ (hd i o ho)]
      unfold Oper.wp at h
      generalize (execOp a.eval o).run P w = r at *
      cases r with
      | ok n w' =>
        cases n <;> simp only [Oper.upon, Oper.uponIn] at h ⊢
        case value u => exact hK _ _ h
        case skip => exact hK _ _ h
        case defer d => exact hK _ _ h
        case enter f args =>
          refine ⟨fun hx => by simp [Fence.wide] at hx, CallsIn.inRound l (callsIn_wide.2 (h.mono fun e w2 he => ?_))⟩
          cases e with
          | returned v => exact hK _ _ he
          | panicked c => exact he
          | outgrown => exact he
        case row row args =>
          refine ⟨fun hx => by simp [Fence.wide] at hx, fun c cs _ => ?_⟩
          obtain ⟨v, w2, hr, hs⟩ := h c cs
          exact ⟨v, w2, hK _ _ hr, stepsIn_wide.2 hs⟩
      | halt x w' => cases x <;> simp only [Oper.upon, Oper.uponIn] at h ⊢; exact h
    · rename_i hw
      simp only [hw] at h
      exact ⟨fun _ _ => trivial, hK _ _ h⟩

theorem wpAnyIn_round {l q : Nat} {P : Program} {ops : Array Oper} {Q : Exit → Act → World → Prop} {md : Region.Mode} (hd : ∀ (i : Nat) (o : Oper), ops[i]? = some o → ∀ c, o.op ≠ .defer c) (hQ : ¬ LetsOut Q) :
    ∀ (fuel : Nat) (listed : Array Bool) (a : Act) (w : World), wpAny P md ops Q fuel listed a w → wpAnyIn (Fence.wide.inRound l) q P md ops Q fuel listed a w
  | 0, _, _, _, h => h
  | fuel + 1, listed, a, w, h => ⟨h.1, fun i hi => wpOpIn_round hd hQ (fun a w => wpAnyIn_round hd hQ fuel _ a w) (h.2 i hi)⟩

def noDefer (ops : Array Oper) : Bool := ops.all fun o => match o.op with | .defer _ => false | _ => true
theorem noDefer_spec {ops : Array Oper} (h : noDefer ops = true) (i : Nat) (o : Oper) (ho : ops[i]? = some o) (c : Call) : o.op ≠ .defer c := by
  intro e
  have := Array.all_eq_true_iff_forall_mem.1 h o (Array.mem_of_getElem? ho)
  rw [e] at this
  cases this

/-- a region in a round, as elsewhere -/
theorem region_round {l q id : Nat} {P : Program} {ops : Array Oper} {Q : Exit → Act → World → Prop} {a : Act} {w : World} (S : World → Prop) (hm : P.follows .mixedOrders = true) (hd : noDefer ops = true) (hQ : ¬ LetsOut Q)
    (h : wpAnyH P .any ops Q S ops.size (Array.replicate ops.size false) a w.drew) : (Code.region id ops true).wpIn (Fence.wide.inRound l) q P Q a w :=
  wpIn_region_any hm (wpAnyIn_round (noDefer_spec hd) hQ _ _ _ _ (wpAny_of_held _ _ _ _ h))


/-- an append of one pair, as one operation -/
theorem wp_pair {T e : TypeId} (hT : ElemT T e (.agg #[.int .i64 0, .int .i64 0]) 2 16) {o : Oper} {a : Act} {w : World} {K : Act → World → Prop} {Q : Exit → Act → World → Prop}
    (s x : Operand) (hop : o.op = Op.call { callee := Callee.builtin Builtin.append, args := #[s, x], argTypes := #[T, T] })
    (B n : Nat) (v : Value) (xs : List (Int × Int)) (hs : a.eval s = v) (hown : w.ownsRow B e 2 v n (xs.flatMap encR))
    (b : Nat) (y y' : Int) (hx : a.eval x = .slice (some ⟨b, 0, none⟩) 1 1) (hy : w.cell? ⟨b, 0, none⟩ = some (.int .i64 y)) (hy' : w.cell? ⟨b, 1, none⟩ = some (.int .i64 y')) (hn : n ≤ 5000) (hB : B ≤ w.heap.size)
    (hK : ∀ g c w', w'.ownsRow B e 2 (.slice (some ⟨g, 0, none⟩) (n + 1) c) (n + 1) ((xs ++ [(y, y')]).flatMap encR) → Turns (fun i => B ≤ i) w w' → K (a.put o.dst (.slice (some ⟨g, 0, none⟩) (n + 1) c)) w') :
    o.wp Tryz.prog a w K Q := by
  obtain ⟨hu, hinf, hzc, hs0, hby⟩ := hT
  obtain ⟨i0, hi0, hzz⟩ := Option.map_eq_some_iff.1 hinf
  simp only [Prod.mk.injEq] at hzz
  obtain ⟨hz0, hz1, hz2⟩ := hzz
  refine wp_append_own w s x T hop B e i0 _ 2 16 hu hi0 hz0 hz1 hz2 hzc hs0 v n _ hs hown ⟨b, 0, none⟩ 1 1 (encR (y, y')) hx rfl ?_ ?_ (by unfold maxLen; omega) (by omega) hB ?_
  · intro j u hu
    match j, hu with
    | 0, hu => simp [encR] at hu; subst hu; simpa [Addr.add] using hy
    | 1, hu => simp [encR] at hu; subst hu; simpa [Addr.add] using hy'
    | j + 2, hu => simp [encR] at hu
  · intro u hu
    simp [encR] at hu
    rcases hu with rfl | rfl <;> rfl
  · intro v' w' h1 h2 _
    have hlt := hown.lt
    rcases h1.2 with ⟨rfl, h0⟩ | ⟨g, cap, cur, rfl, hrest⟩
    · omega
    · refine hK g cap w' (by simpa using h1) ⟨h2.os, h2.tape, h2.output, h2.size, fun i hi hno => h2.block i (by omega) (fun e => ?_)⟩
      have := hlt i e.symm
      omega

theorem cst_snoc (p : List Pr) (a b : Nat) : cst (p ++ [(a, b)]) = cst p ++ [((a : Int), (b : Int))] := by simp [cst]

end Go.Proofs.YtminplfgadhnnaaGreatDoor
end
