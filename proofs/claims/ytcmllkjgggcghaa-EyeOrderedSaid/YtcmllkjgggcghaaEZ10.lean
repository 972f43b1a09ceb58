/- ED1 ED2 ED3 ED4 -/
import Derived.Test.YtcmllkjgggcghaaEZ09
import Derived.Test.YtcmllkjgggcghaaEZ01
import Derived.Shelf.RegionOpen
import Derived.Sort.CutIn
import Derived.OwnWalkIn
/- Walks of package eye: the iterator over all outcomes. -/
section
namespace Go.Proofs.Ytcmllkjgggcghaa
open Go.RowKit Go.Shelf
set_option linter.unusedSimpArgs false
set_option linter.unusedVariables false
attribute [local go_sem] Oper.semAt_some

theorem Ints.of_heap {w w' : World} {A : Option Addr} {n : Nat} {zs : List Int} (h : Ints w A n zs) (hs : w.heap.size ≤ w'.heap.size) (hb : ∀ i, i < w.heap.size → w'.heap[i]? = w.heap[i]?) : Ints w' A n zs := by
  refine ⟨h.1, fun hn => ?_⟩
  obtain ⟨b, off, rfl, hlt, hc⟩ := h.2 hn
  exact ⟨b, off, rfl, by omega, fun i hi => (World.cell?_of_block (w := w) (a := ⟨b, off + i, none⟩) (hb b hlt)).trans (hc i hi)⟩
theorem Cs.of_heap {w w' : World} {g : Nat} {cs : Array Value} (h : Cs w g cs) (hs : w.heap.size ≤ w'.heap.size) (hb : w'.heap[g]? = w.heap[g]?) : Cs w' g cs :=
  ⟨Nat.lt_of_lt_of_le h.1 hs, fun i => (World.cell?_of_block (w := w) (a := ⟨g, i, none⟩) hb).trans (h.2.1 i), fun i => (World.frozen?_of_block (w := w) (a := ⟨g, i, none⟩) hb).trans (h.2.2 i)⟩
theorem Cs.turns {A B : World} {O : Nat → Prop} {g : Nat} {cs : Array Value} (h : Cs A g cs) (ht : Turns O A B) (hg : ¬ O g) : Cs B g cs := h.of_heap ht.size (ht.block g h.1 hg)
theorem Plates.of_heap {w w' : World} {A : Option Addr} {n : Nat} {zs : List Pl} (h : Plates w A n zs) (hs : w.heap.size ≤ w'.heap.size) (hb : ∀ i, i < w.heap.size → w'.heap[i]? = w.heap[i]?) : Plates w' A n zs := by
  refine ⟨h.1, fun hn => ?_, fun p hp => ⟨(h.2.2 p hp).1.of_heap hs hb, (h.2.2 p hp).2.1.of_heap hs hb, (h.2.2 p hp).2.2⟩⟩
  obtain ⟨b, off, rfl, hlt, hc⟩ := h.2.1 hn
  exact ⟨b, off, rfl, by omega, fun i p hp => ⟨(World.cell?_of_block (w := w) (a := ⟨b, off + i * 2, none⟩) (hb b hlt)).trans (hc i p hp).1, (World.cell?_of_block (w := w) (a := ⟨b, off + i * 2 + 1, none⟩) (hb b hlt)).trans (hc i p hp).2⟩⟩

theorem many_le {zs : List Pl} {n : Nat} (hl : zs.length = n) (hn : n ≤ 6) (hg : ∀ p ∈ zs, Good p) : manyT zs ≤ 4096 := by
  have h1 := many_bd hg n (by omega)
  have h2 := pow4 n (by omega)
  rw [List.take_of_length_le (by omega)] at h1
  omega

/-- what the rounds of a range over the outcomes keep: what was there ahead, the test, its box, the iterator's own block -/
def KpO (S g Bs B : Nat) (W W' : World) : Prop := W.heap.size ≤ W'.heap.size ∧ ∀ i, i < W.heap.size → (i < S ∨ i = g ∨ i = Bs ∨ i = B) → W'.heap[i]? = W.heap[i]?
theorem KpO.trans {S g Bs B : Nat} {X Y Z : World} (h : KpO S g Bs B X Y) (k : KpO S g Bs B Y Z) : KpO S g Bs B X Z :=
  ⟨Nat.le_trans h.1 k.1, fun i hi hb => (k.2 i (Nat.lt_of_lt_of_le hi h.1) hb).trans (h.2 i hi hb)⟩
theorem KpO.of_turns {S g Bs B : Nat} {O : Nat → Prop} {X Y : World} (h : Turns O X Y) (hO : ∀ i, (i < S ∨ i = g ∨ i = Bs ∨ i = B) → ¬ O i) : KpO S g Bs B X Y :=
  ⟨h.size, fun i hi hb => h.block i hi (hO i hb)⟩

theorem int_info : ∃ i, Try.prog.info? 3 = some i := by
  have h := intT_info
  cases hi : Try.prog.info? 3 with
  | none => rw [hi] at h; cases h
  | some i => exact ⟨i, rfl⟩

@[local go_sem] theorem ans_eq (a b c d x y : Nat) (w : World) :
    (Op.equalIn 10000 101 (.agg #[.int .i64 a, .int .i64 b, .int .i64 c, .int .i64 d, .int .i64 x, .int .i64 y]) (.agg #[.int .i64 0, .int .i64 0, .int .i64 0, .int .i64 0, .int .i64 0, .int .i64 0])).run Try.prog w = .ok (decide (a = 0 ∧ b = 0 ∧ c = 0 ∧ d = 0 ∧ x = 0 ∧ y = 0)) w := by
  obtain ⟨i, hi⟩ := int_info
  rw [show (10000 : Nat) = 9999 + 1 from rfl, run_equalIn_array w 9999 _ _ (n := 6) (e := 3) (by kernel_rfl) hi]
  have hc : Try.prog.cellsOf 3 = 1 := by kernel_rfl
  simp [Op.eqItems, List.range, List.range.loop, go_sem, hc]
  by_cases h1 : a = 0 <;> by_cases h2 : b = 0 <;> by_cases h3 : c = 0 <;> by_cases h4 : d = 0 <;> by_cases h5 : x = 0 <;> by_cases h6 : y = 0 <;> simp [h1, h2, h3, h4, h5, h6]

/-- what an outcome is yielded as -/
def encO (zs : List Pl) (n k : Nat) : Array Value := #[.int .i64 (k : Nat), .agg #[.int .i64 (ocG zs n k), .int .i64 (ocE zs n k)]]

theorem turns_set6 {O : Nat → Prop} {w : World} {g : Nat} (f : Nat → Nat) (hg : O g) : Turns O w (set6 w g f) :=
  (((((Turns.setCell (p := ⟨g, 0, none⟩) _ hg).trans (Turns.setCell (p := ⟨g, 1, none⟩) _ hg)).trans (Turns.setCell (p := ⟨g, 2, none⟩) _ hg)).trans (Turns.setCell (p := ⟨g, 3, none⟩) _ hg)).trans (Turns.setCell (p := ⟨g, 4, none⟩) _ hg)).trans (Turns.setCell (p := ⟨g, 5, none⟩) _ hg)

set_option maxRecDepth 100000 in
set_option maxHeartbeats 1000000 in
theorem outcomes_in (q : Nat) (hq : 1 ≤ q) (Bs g n c m S : Nat) (A : Option Addr) (zs : List Pl) (w0 w : World) (hz : Plates w0 A n zs) (hn : n ≤ 6) (hg : ∀ p ∈ zs, Good p) (hb0 : Below w0.heap.size w0 w) (hS : S = w0.heap.size)
    (hBs : w.cell? ⟨Bs, 0, none⟩ = some (.pointer (some ⟨g, 0, none⟩))) (hB : Cs w g #[.slice A n c, .int .i64 (m : Nat)]) :
    SeqList Fence.wide q Try.prog 76 #[.pointer (some ⟨Bs, 0, none⟩)] (encO zs n) (fun B i => i = B) (KpO S g Bs) (List.range (manyT zs)) (fun _ => True) w := by
  intro l J Jx W hW hJ hJx hY hJ0
  subst hS
  have hl := hz.1
  refine callsIn_of_wp Try.func76 rfl trivial ?_ rfl
  simp only [Try.ntmps76, List.size_toArray, List.length_cons, List.length_nil, Nat.reduceAdd, Nat.reduceSub, Array.replicate_succ, Array.replicate_zero, List.push_toArray, List.append_toArray, List.nil_append, List.cons_append]
  have hBsW := (hW.cell (p := ⟨Bs, 0, none⟩) (World.block_lt_of_cell? w _ hBs)).trans hBs
  have hBlt : Bs < W.heap.size := Nat.lt_of_lt_of_le (World.block_lt_of_cell? w _ hBs) hW.size
  have hglt : g < W.heap.size := Nat.lt_of_lt_of_le hB.lt hW.size
  have hSW : w0.heap.size ≤ W.heap.size := Nat.le_trans hb0.size hW.size
  have hBW : Cs W g #[.slice A n c, .int .i64 (m : Nat)] := hB.of_heap hW.size (hW.block g hB.lt)
  have hzW : Hid (∀ i, i < w0.heap.size → W.heap[i]? = w0.heap[i]?) := Lib.hid fun i hi => (hW.block i (Nat.lt_of_lt_of_le hi hb0.size)).trans (hb0.block i hi)
  have HY := Lib.hid hY
  have HJ := Lib.hid hJ
  have HJx := Lib.hid hJx
  have Hz := Lib.hid hz
  have Hg := Lib.hid hg
  have HBW := Lib.hid hBW
  have hM : 0 < manyT zs := (At.start hl hg).lt hl
  have hM2 := many_le hl hn hg
  generalize hR : manyT zs = R at *
  have HR := Lib.hid hR
  have e0 : ans (fun _ => 0) = #[.int .i64 0, .int .i64 0, .int .i64 0, .int .i64 0, .int .i64 0, .int .i64 0] := rfl
  clear hY hJ hJx hz hg hBs hB hW hb0 hBW hR
  gi_wp2_with fail
  gi_loopw [4] (fun s4 wr => ∃ (k : Nat) (f : Nat → Nat), k < R ∧ s4 = .int .i64 (k : Nat) ∧ Hid (At zs n k f) ∧ W.heap.size ≤ wr.heap.size ∧ Cs wr W.heap.size (ans f) ∧ Hid (∀ i, i < w0.heap.size → wr.heap[i]? = w0.heap[i]?) ∧ wr.cell? ⟨Bs, 0, none⟩ = some (.pointer (some ⟨g, 0, none⟩)) ∧ Cs wr g #[.slice A n c, .int .i64 (m : Nat)] ∧ J (List.range k) wr) (fun s4 _ => R - (intOf s4).toNat)
  case atStart =>
    refine ⟨0, fun _ => 0, hM, rfl, Lib.hid (At.start hl Hg.out), by simp, ?_, Lib.hid (fun i hi => ?_), ?_, HBW.out.alloc _, ?_⟩
    · rw [e0]; exact Cs.new _ _ _ _ rfl
    · exact ((balloc (Below.refl W.heap.size W) _).block i (Nat.lt_of_lt_of_le hi hSW)).trans (hzW.out i hi)
    · exact ((balloc (Below.refl W.heap.size W) _).cell (p := ⟨Bs, 0, none⟩) hBlt).trans hBsW
    · exact HJ.out [] W _ hJ0 (Turns.of_below (balloc (Below.refl _ _) _))
  case round =>
    obtain ⟨k, f, hk, rfl, Hat, hsr, BA, Hbr, hBsr, hBr, hJr⟩ := hrel
    have hzr : Plates wr A n zs := Hz.out.of_heap (Nat.le_trans hSW hsr) Hbr.out
    have HJr := Lib.hid hJr
    have k1 := odds_any A n c m g zs f wr hzr hn Hg.out Hat.out.fit hBr
    obtain ⟨o1, o2⟩ := Hat.out.odds hl Hg.out
    rw [o1, o2] at k1
    have BAu : Cs wr W.heap.size #[.int .i64 (f 0 : Nat), .int .i64 (f 1 : Nat), .int .i64 (f 2 : Nat), .int .i64 (f 3 : Nat), .int .i64 (f 4 : Nat), .int .i64 (f 5 : Nat)] := BA
    have HBr := Lib.hid hBr
    clear hJr hzr hBsW hJ0 o1 o2 hBr
    have cBAu := BAu.c
    have fBAu := BAu.f
    have lBAu := BAu.lt
    gi_wp2_with fail
    refine ⟨trivial, (callsIn_wide.2 k1).mono ?_⟩
    rintro e w1 ⟨rfl, hb1⟩
    clear cBAu fBAu lBAu
    clear k1
    have T1 : Turns (fun i => i = W.heap.size) wr w1 := Turns.of_below hb1
    have B1 : Cs w1 W.heap.size (ans f) := BA.keep hb1
    have hbr1 : Hid (∀ i, i < w0.heap.size → w1.heap[i]? = w0.heap[i]?) := Lib.hid fun i hi => (hb1.block i (by omega)).trans (Hbr.out i hi)
    have hBs1 : w1.cell? ⟨Bs, 0, none⟩ = some (.pointer (some ⟨g, 0, none⟩)) := (hb1.cell (p := ⟨Bs, 0, none⟩) (Nat.lt_of_lt_of_le hBlt hsr)).trans hBsr
    have hB1 : Cs w1 g #[.slice A n c, .int .i64 (m : Nat)] := HBr.out.keep hb1
    have HJ1 := Lib.hid (HJ.out _ wr w1 HJr.out T1)
    have hs1 : W.heap.size ≤ w1.heap.size := Nat.le_trans hsr hb1.size
    have hpre : List.range k ++ [k] <+: List.range R := by
      rw [← List.range_succ]
      exact ⟨(List.range (R - (k + 1))).map (k + 1 + ·), by rw [← List.range_add]; congr 1; omega⟩
    have Hpre := Lib.hid hpre
    have hgt1 : W.heap.size < w1.heap.size := Nat.lt_of_lt_of_le BA.lt hb1.size
    clear T1 hb1 hBsr Hbr HBr HJr BA hpre
    obtain ⟨fn, tmps, assign, body, hy, hR⟩ := HY.out (List.range k) k w1 Hpre.out hgt1 HJ1.out
    unfold encO at hy
    gi_wp2_with fail
    refine hR.mono ?_
    rintro e W4 (⟨rfl, hJ4, hk4⟩ | ⟨rfl, hJx4⟩)
    · have HJ4 := Lib.hid hJ4
      have B4 : Cs W4 W.heap.size (ans f) := B1.of_heap hk4.1 (hk4.2 _ B1.lt (.inr (.inr (.inr rfl))))
      have hBs4 : W4.cell? ⟨Bs, 0, none⟩ = some (.pointer (some ⟨g, 0, none⟩)) := (World.cell?_of_block (w := w1) (a := ⟨Bs, 0, none⟩) (hk4.2 Bs (Nat.lt_of_lt_of_le hBlt hs1) (.inr (.inr (.inl rfl))))).trans hBs1
      have hB4 : Cs W4 g #[.slice A n c, .int .i64 (m : Nat)] := hB1.of_heap hk4.1 (hk4.2 _ hB1.lt (.inr (.inl rfl)))
      have hbr4 : Hid (∀ i, i < w0.heap.size → W4.heap[i]? = w0.heap[i]?) := Lib.hid fun i hi => (hk4.2 i (by omega) (.inl hi)).trans (hbr1.out i hi)
      have hs4 : W.heap.size ≤ W4.heap.size := Nat.le_trans hs1 hk4.1
      clear hJ4 hk4 hB1 hBs1 hbr1 hs1 B1 HJ1
      have hz4 : Plates W4 A n zs := Hz.out.of_heap (Nat.le_trans hSW hs4) hbr4.out
      have k2 := next_any A n c m g zs f W4 hz4 hn Hg.out Hat.out.fit hB4
      have Hlast := Lib.hid (fun (h : k + 1 = R) => Hat.out.last hl (h.trans HR.out.symm))
      have Hnext := Lib.hid (fun (h : k + 1 < R) => Hat.out.next hl (Nat.lt_of_lt_of_eq h HR.out.symm))
      generalize nextA (fun i => (plAt zs i).gn) n f = f2 at *
      unfold ans at k2
      have HB4 := Lib.hid hB4
      have B4u : Cs W4 W.heap.size #[.int .i64 (f 0 : Nat), .int .i64 (f 1 : Nat), .int .i64 (f 2 : Nat), .int .i64 (f 3 : Nat), .int .i64 (f 4 : Nat), .int .i64 (f 5 : Nat)] := B4
      clear hz4 hB4
      have cB4u := B4u.c
      have fB4u := B4u.f
      have lB4u := B4u.lt
      gi_wp2_with fail
      refine ⟨trivial, (callsIn_wide.2 k2).mono ?_⟩
      rintro e w5 ⟨rfl, hb5⟩
      clear cB4u fB4u lB4u
      have T5 : Turns (fun i => i = W.heap.size) W4 (set6 w5 W.heap.size f2) := (Turns.of_below hb5).trans (turns_set6 f2 rfl)
      have B5 : Cs w5 W.heap.size (ans f) := B4.keep hb5
      have B6 := B5.set6 f2

      have B5u : Cs w5 W.heap.size #[.int .i64 (f 0 : Nat), .int .i64 (f 1 : Nat), .int .i64 (f 2 : Nat), .int .i64 (f 3 : Nat), .int .i64 (f 4 : Nat), .int .i64 (f 5 : Nat)] := B5
      clear k2 hb5 B4 B4u B5
      unfold set6 at T5 B6
      have cB5u := B5u.c
      have fB5u := B5u.f
      have lB5u := B5u.lt
      gi_upto_region 5 with fail
      clear cB5u fB5u lB5u
      generalize (((((w5.setCell ⟨W.heap.size, 0, none⟩ (.int .i64 (f2 0 : Nat))).setCell ⟨W.heap.size, 1, none⟩ (.int .i64 (f2 1 : Nat))).setCell ⟨W.heap.size, 2, none⟩ (.int .i64 (f2 2 : Nat))).setCell ⟨W.heap.size, 3, none⟩ (.int .i64 (f2 3 : Nat))).setCell ⟨W.heap.size, 4, none⟩ (.int .i64 (f2 4 : Nat))).setCell ⟨W.heap.size, 5, none⟩ (.int .i64 (f2 5 : Nat)) = W6 at *
      have hbr6 : Hid (∀ i, i < w0.heap.size → W6.heap[i]? = w0.heap[i]?) := Lib.hid fun i hi => (T5.block i (by omega) (fun e => by omega)).trans (hbr4.out i hi)
      have hBs6 : W6.cell? ⟨Bs, 0, none⟩ = some (.pointer (some ⟨g, 0, none⟩)) := (World.cell?_of_block (w := W4) (a := ⟨Bs, 0, none⟩) (T5.block Bs (Nat.lt_of_lt_of_le hBlt hs4) (fun e => by have e' : Bs = W.heap.size := e; omega))).trans hBs4
      have hB6 := Lib.hid (Cs.turns HB4.out T5 (fun e => by have e' : g = W.heap.size := e; omega))
      have hs6' : W.heap.size ≤ W6.heap.size := Nat.le_trans hs4 T5.size
      have HJ6 := Lib.hid (HJ.out _ W4 W6 HJ4.out T5)
      have B6u : Cs W6 W.heap.size #[.int .i64 (f2 0 : Nat), .int .i64 (f2 1 : Nat), .int .i64 (f2 2 : Nat), .int .i64 (f2 3 : Nat), .int .i64 (f2 4 : Nat), .int .i64 (f2 5 : Nat)] := B6
      clear T5 B5u hs4 hbr4 hBs4 HB4 HJ4
      by_cases hkR : k + 1 < R
      · have hne : (decide (f2 0 = 0 ∧ f2 1 = 0 ∧ f2 2 = 0 ∧ f2 3 = 0 ∧ f2 4 = 0 ∧ f2 5 = 0)) = false := by
          rw [decide_eq_false_iff_not]
          rintro ⟨z0, z1, z2, z3, z4, z5⟩
          have := (Hnext.out hkR).zero hn (fun i hi => by
            match i, hi with
            | 0, _ => exact z0 | 1, _ => exact z1 | 2, _ => exact z2 | 3, _ => exact z3 | 4, _ => exact z4 | 5, _ => exact z5
            | _ + 6, h => exact absurd h (by omega))
          omega
        have Hn2 := Lib.hid (Hnext.out hkR)
        clear Hnext Hlast Hat
        have cB6u := B6u.c
        have fB6u := B6u.f
        have lB6u := B6u.lt
        gi_wp2_with fail
        go_roundw
        case rel => exact ⟨k + 1, f2, hkR, by go_num, Hn2, hs6', B6, hbr6, hBs6, hB6.out, by rw [List.range_succ]; exact HJ6.out⟩
        case measure => simp [intOf]; omega
      · have hkR2 : k + 1 = R := by omega
        have hz := Hlast.out hkR2
        have hne : (decide (f2 0 = 0 ∧ f2 1 = 0 ∧ f2 2 = 0 ∧ f2 3 = 0 ∧ f2 4 = 0 ∧ f2 5 = 0)) = true := by
          rw [decide_eq_true_eq]
          exact ⟨hz 0, hz 1, hz 2, hz 3, hz 4, hz 5⟩
        have Hend : Hid (J (List.range R) W6) := Lib.hid (by rw [← hkR2, List.range_succ]; exact HJ6.out)
        clear Hnext Hlast Hat hz
        have cB6u := B6u.c
        have fB6u := B6u.f
        have lB6u := B6u.lt
        gi_wp2_with fail
        refine bodyPost_ret (results_none rfl _ _ _) rfl ⟨⟨_, rfl⟩, .inl ⟨trivial, Hend.out⟩⟩
    · have HJx4 := Lib.hid hJx4
      clear hJx4
      gi_wp2_with fail
      refine bodyPost_ret (results_none rfl _ _ _) rfl ⟨⟨_, rfl⟩, .inr ⟨_, Hpre.out, HJx4.out⟩⟩

end Go.Proofs.Ytcmllkjgggcghaa
end

/- A range over all outcomes: the caller's law. -/
section
namespace Go.Proofs.Ytcmllkjgggcghaa
open Go.RowKit Go.Shelf
set_option linter.unusedSimpArgs false
set_option linter.unusedVariables false

/-- how the body of a round over the outcomes may be left -/
def postO (Ob : Nat → Prop) (I : Nat → World → Prop) (Ix : Code → Nat → World → Prop) (k : Nat) (W : World) : Exit → Act → World → Prop
  | .normal, _, W' => Turns Ob W W' ∧ I (k + 1) W'
  | .ret, _, W' => Turns Ob W W' ∧ Ix .ret (k + 1) W'
  | .exit id, _, W' => Turns Ob W W' ∧ Ix (.exit id) (k + 1) W'
  | _, _, _ => False

theorem range_outcomes {q : Nat} (hq : 6 ≤ q) {gop : Operand} {ps : Array Tmp} {assign body : Code} {Q : Exit → Act → World → Prop} {a : Act} {w : World}
    (Bs g n c m S : Nat) (A : Option Addr) (zs : List Pl) (w0 : World) (hz : Plates w0 A n zs) (hn : n ≤ 6) (hg : ∀ p ∈ zs, Good p) (hb0 : Below w0.heap.size w0 w) (hS : S = w0.heap.size)
    (hBs : w.cell? ⟨Bs, 0, none⟩ = some (.pointer (some ⟨g, 0, none⟩))) (hB : Cs w g #[.slice A n c, .int .i64 (m : Nat)])
    (hgo : a.eval gop = .func (.func 76) #[] #[.pointer (some ⟨Bs, 0, none⟩)]) (hps : ps.size = 2)
    (Ob : Nat → Prop) (hOb : ∀ i, Ob i → S ≤ i ∧ i ≠ g ∧ i ≠ Bs ∧ i < w.heap.size)
    (I : Nat → World → Prop) (hI : ∀ k W W', I k W → Turns (fun i => i = w.heap.size + 1 ∨ i = w.heap.size + 2) W W' → I k W')
    (Ix : Code → Nat → World → Prop) (hIx : ∀ c k W W', Ix c k W → Turns (fun i => i = w.heap.size + 1 ∨ i = w.heap.size + 2) W W' → Ix c k W') (h0 : I 0 w)
    (Ax : Nat → Act → World → Prop) (hAx : ∀ k a' W W', Ax k a' W → Turns (fun i => i = w.heap.size + 1) W W' → Ax k a' W')
    (hassign : ∀ (l k : Nat) (W : World) (K : Act → World → Prop), k < manyT zs → I k W → w.heap.size + 3 ≤ W.heap.size →
      (∀ a' W1, Turns (fun _ => False) W W1 → Ax k a' W1 → K a' W1) →
      assign.wpIn (Fence.wide.inRound l) (q - 1 - 1) Try.prog (Exit.then K (fun _ _ _ => False)) { tmps := (ps.zip (encO zs n k)).foldl (fun t (p, v) => t.setIfInBounds p v) a.tmps, defers := [] } W)
    (hbody : ∀ (l k : Nat) (a' : Act) (W : World), k < manyT zs → Ax k a' W → w.heap.size + 3 ≤ W.heap.size →
      body.wpIn (Fence.wide.inRound l) (q - 1 - 1) Try.prog (postO Ob I Ix k W) a' W)
    (hdone : ∀ (W : World), I (manyT zs) W → W.heap[w.heap.size]? = some (.deferred (some [])) → Q .normal { a with defers := { target := .collected w.heap.size, args := #[] } :: a.defers } W)
    (hstop : ∀ (c : Code) (k : Nat) (W : World), k ≤ manyT zs → Ix c k W → W.heap[w.heap.size]? = some (.deferred (some [])) → c.wpIn Fence.wide q Try.prog Q { a with defers := { target := .collected w.heap.size, args := #[] } :: a.defers } W) :
    (Code.rangeFunc gop ps assign body).wpIn Fence.wide q Try.prog Q a w := by
  have hSw : S ≤ w.heap.size := by rw [hS]; exact hb0.size
  have hglt := hB.lt
  have hBlt := World.block_lt_of_cell? w _ hBs
  have hKeep : ∀ i, (i < S ∨ i = g ∨ i = Bs ∨ i = w.heap.size + 2) → ¬ (i = w.heap.size + 1) := by
    intro i h e
    have : Bs < w.heap.size := hBlt
    omega
  have hKeep2 : ∀ i, (i < S ∨ i = g ∨ i = Bs ∨ i = w.heap.size + 2) → ¬ Ob i := by
    intro i h ho
    have := hOb i ho
    omega
  have hpr : ∀ {pre : List Nat} {x : Nat}, (pre ++ [x]) <+: List.range (manyT zs) → x < manyT zs ∧ pre.length = x ∧ (pre ++ [x]).length = x + 1 := by
    intro pre x h
    obtain ⟨h1, h2⟩ := range_prefix h
    have h3 : pre.length = x := by rw [h2, List.length_range]
    exact ⟨h1, h3, by simp [h3]⟩
  refine wpIn_rangeList rfl (by omega) (gf := 76) (lb := #[.pointer (some ⟨Bs, 0, none⟩)]) hgo trivial (enters_of Try.func76 (by kernel_rfl) rfl)
    (outcomes_in (q - 1) (by omega) Bs g n c m S A zs w0 w hz hn hg hb0 hS hBs hB)
    (fun i hi => by have hi' : i = w.heap.size + 2 := hi; omega) (fun h1 h2 => h1.trans h2)
    (fun W o' => KpO.of_turns (O := fun i => i = w.heap.size + 1) (Turns.putObj o' rfl) hKeep) (fun _ _ _ => trivial) (Below.refl _ _) (fun x => hps.symm ▸ rfl)
    (fun pre W => I pre.length W) (fun c pre W => Ix c pre.length W)
    (fun pre W W' h ht => hI _ W W' h (ht.mono fun i hi => by rcases hi with hi | hi <;> (have hi' := hi; omega)))
    (fun c pre W W' h ht => hIx c _ W W' h (ht.mono fun i hi => by rcases hi with hi | hi <;> (have hi' := hi; omega))) h0
    (fun pre x a' W => Ax x a' W) (fun pre x a' W o' h => hAx _ _ _ _ h (Turns.putObj o' rfl))
    ?assign ?body ?done ?stop
  case assign =>
    intro l pre x W K hpx hi hW hK
    obtain ⟨h1, h2, _⟩ := hpr hpx
    refine hassign l x W K h1 (h2 ▸ hi) hW fun a' W1 ht ha => hK a' W1 (Keeps2.of_turns ht id id (by omega)) (KpO.of_turns ht fun _ _ h => h) ha
  case body =>
    intro l pre x a' W hpx ha hW
    obtain ⟨h1, h2, h3⟩ := hpr hpx
    refine wpIn_mono (hbody l x a' W h1 ha hW) ?_
    have hk2 : ∀ W', Turns Ob W W' → Keeps2 w.heap.size W W' := fun W' ht => Keeps2.of_turns ht (fun ho => by have := (hOb _ ho).2.2.2; omega) (fun ho => by have := (hOb _ ho).2.2.2; omega) (by omega)
    intro e a3 W3 hp
    cases e with
    | normal => exact ⟨hk2 _ hp.1, KpO.of_turns hp.1 hKeep2, by show I (pre ++ [x]).length W3; rw [h3]; exact hp.2⟩
    | ret => exact ⟨hk2 _ hp.1, by show Ix .ret (pre ++ [x]).length W3; rw [h3]; exact hp.2⟩
    | exit id => exact ⟨hk2 _ hp.1, by show Ix (.exit id) (pre ++ [x]).length W3; rw [h3]; exact hp.2⟩
    | goto t => exact hp.elim
    | panic ch => exact hp.elim
    | outgrown => exact hp.elim
  case done =>
    intro W _ hi hD
    have hi' : I (List.range (manyT zs)).length W := hi
    rw [List.length_range] at hi'
    exact hdone W hi' hD
  case stop =>
    intro c pre W hpre hi hD
    exact hstop c _ W (range_pre hpre).2 hi hD

end Go.Proofs.Ytcmllkjgggcghaa
end

/- Walks of package eye: the errors of a set; sums of odds. -/
section
namespace Go.Proofs.Ytcmllkjgggcghaa
open Go.RowKit Go.Shelf
set_option linter.unusedSimpArgs false
set_option linter.unusedVariables false

set_option maxHeartbeats 400000 in
theorem indexI_any (A : Option Addr) (n c g : Nat) (zs : List Int) (lb : Array Value) (p : Int → Bool) (w : World) (eg : ∀ args w, (callFunc g args).run Try.prog w = .ok (.enter g args) w)
    (hz : Ints w A n zs) (hn : n ≤ 9223372036854775807) (hp : PredInts Try.prog g lb p zs w) :
    Calls Try.prog 84 #[.slice A n c, .func (.func g) #[] lb] w fun e w' => e = .returned (.int .i64 (Um.idx p zs)) ∧ Below w.heap.size w w' := by
  obtain ⟨hl, hcell⟩ := hz
  have Hcell := Lib.hid hcell
  have Hp := Lib.hid hp
  have Hl := Lib.hid hl
  clear hcell hp hl
  go_enter Try.func84, Try.ntmps84
  go_wp2
  go_loopw [5, 8] (fun _ i wr => ∃ k : Nat, k ≤ n ∧ i = .int .i64 k ∧ Hid (∀ i y, i < k → zs[i]? = some y → p y = false) ∧ Below w.heap.size w wr) (fun _ i _ => n - (intOf i).toNat)
  case atStart => exact ⟨0, Nat.zero_le _, rfl, fun i y hi => by omega, Below.refl _ _⟩
  case round =>
    obtain ⟨k, hk, rfl, hpre, hbl⟩ := hrel
    by_cases hlt : k < n
    · obtain ⟨b, off, rfl, hb, hc⟩ := Hcell.out (by omega)
      have hx : wr.cell? ⟨b, off + k, none⟩ = some (.int .i64 (zs.getD k 0)) := (hbl.cell (p := ⟨b, off + k, none⟩) hb).trans (hc k hlt)
      have hget : zs[k]? = some (zs.getD k 0) := by
        rw [List.getD_eq_getElem?_getD, List.getElem?_eq_getElem (by have := Hl.out; omega)]; rfl
      have Hget := Lib.hid hget
      have hcall := Hp.out (zs.getD k 0) (List.mem_of_getElem? hget) wr hbl
      clear hc hget
      generalize zs.getD k 0 = x at *
      cases hq : p x with
      | true =>
        rw [hq] at hcall
        have Hq := Lib.hid hq
        clear hq
        go_wp2_with (go_at_fn g; refine hcall.mono ?_; rintro e w' ⟨rfl, hb'⟩)
        go_ret
        exact ⟨ret_int (Um.idx_at p k zs x hpre.out Hget.out Hq.out).symm, hb'⟩
      | false =>
        rw [hq] at hcall
        have Hq := Lib.hid hq
        clear hq
        go_wp2_with (go_at_fn g; refine hcall.mono ?_; rintro e w' ⟨rfl, hb'⟩)
        go_roundw
        case rel =>
          refine ⟨k + 1, by omega, by go_num, fun i y hi hy => ?_, hb'⟩
          by_cases hik : i < k
          · exact hpre.out i y hik hy
          · have : i = k := by omega
            subst this
            have := Hget.out
            rw [hy] at this
            injection this with this
            rw [this]; exact Hq.out
        case measure => simp [intOf]; omega
    · go_wp2
      go_ret
      refine ⟨ret_int (Um.idx_none p zs (fun y hy => ?_)).symm, hbl⟩
      obtain ⟨i, hi, hiy⟩ := List.mem_iff_getElem.1 hy
      exact hpre.out i y (by have := Hl.out; omega) (by rw [List.getElem?_eq_getElem hi, hiy])

set_option maxHeartbeats 400000 in
theorem containsI_any (A : Option Addr) (n c g : Nat) (zs : List Int) (lb : Array Value) (p : Int → Bool) (w : World) (eg : ∀ args w, (callFunc g args).run Try.prog w = .ok (.enter g args) w)
    (hz : Ints w A n zs) (hn : n ≤ 9223372036854775807) (hp : PredInts Try.prog g lb p zs w) :
    Calls Try.prog 74 #[.slice A n c, .func (.func g) #[] lb] w fun e w' => e = .returned (.bool (zs.any p)) ∧ Below w.heap.size w w' := by
  have h1 := indexI_any A n c g zs lb p w eg hz hn hp
  have h2 := Um.idx_any p zs
  have H2 := Lib.hid h2
  clear h2 hz hp eg
  generalize zs.any p = r at *
  generalize Um.idx p zs = ix at *
  go_enter Try.func74, Try.ntmps74
  go_wp2_with (go_at_call 84; refine h1.mono ?_; rintro e w' ⟨rfl, hb'⟩)
  go_ret
  exact ⟨ret_bool H2.out, hb'⟩

/-- a number is none of an outcome -/
def outK (m : Nat) (k : Int) : Bool := decide (k < 0) || decide ((m : Int) ≤ k)

set_option maxHeartbeats 400000 in
theorem checkC_any (k : Int) (m Bs g n c : Nat) (A : Option Addr) (w : World) (hBs : w.cell? ⟨Bs, 0, none⟩ = some (.pointer (some ⟨g, 0, none⟩))) (hB : Cs w g #[.slice A n c, .int .i64 (m : Nat)]) :
    Calls Try.prog 75 #[.int .i64 k, .pointer (some ⟨Bs, 0, none⟩)] w fun e w' => e = .returned (.bool (outK m k)) ∧ Below w.heap.size w w' := by
  unfold outK
  have chB := hB.c
  have fhB := hB.f
  have lhB := hB.lt
  by_cases hn : k < 0
  · go_enter Try.func75, Try.ntmps75
    go_wp2
    go_ret
    exact ⟨ret_bool (by simp [hn]), Below.refl _ _⟩
  · have hn' : decide (k < 0) = false := by simp; omega
    have Hn := Lib.hid hn'
    clear hn'
    go_enter Try.func75, Try.ntmps75
    go_wp2
    go_ret
    exact ⟨ret_bool (by rw [Hn.out]; simp), Below.refl _ _⟩

/-- numbers that do not rise -/
def riseB : Int → List Int → Bool
  | _, [] => true
  | l, x :: xs => decide (l < x) && riseB x xs
/-- the errors of a set -/
def setE (m : Nat) (ks : List Int) : Int := if m < ks.length then 6 else if ks.any (outK m) then 3 else if riseB (-1) ks then 0 else 16

theorem riseB_drop {ks : List Int} {j : Nat} (l : Int) (hj : j < ks.length) : riseB l (ks.drop j) = (decide (l < ks.getD j 0) && riseB (ks.getD j 0) (ks.drop (j + 1))) := by
  rw [List.drop_eq_getElem_cons hj, riseB, List.getD_eq_getElem?_getD, List.getElem?_eq_getElem hj]
  rfl

set_option maxHeartbeats 1000000 in
theorem check_any (A B : Option Addr) (n c m g N C : Nat) (ks : List Int) (w : World) (hk : Ints w B N ks) (hN : N ≤ 9223372036854775807) (hB : Cs w g #[.slice A n c, .int .i64 (m : Nat)]) (r : Int) (hr : r = setE m ks) :
    Calls Try.prog 53 #[.pointer (some ⟨g, 0, none⟩), .slice B N C] w fun e w' => e = .returned (.int .i64 r) ∧ Below w.heap.size w w' := by
  have hl := hk.1
  have hglt := hB.lt
  have hw1 : Below w.heap.size w (w.alloc (.cells #[.pointer (some ⟨g, 0, none⟩)] 76)) := balloc (Below.refl _ _) _
  have kc := containsI_any B N C 75 ks #[.pointer (some ⟨w.heap.size, 0, none⟩)] (outK m) (w.alloc (.cells #[.pointer (some ⟨g, 0, none⟩)] 76))
    (enters_of Try.func75 (by kernel_rfl) rfl) (hk.below hw1) hN (fun x _ W hW => (checkC_any x m w.heap.size g n c A W
      ((hW.cell (p := ⟨w.heap.size, 0, none⟩) (by simp)).trans (by simp)) ((hB.alloc _).keep hW)).mono fun e W' ⟨he, hb⟩ => ⟨he, hW.trans (hb.mono hW.size)⟩)
  have Hk := Lib.hid hk
  unfold setE at hr
  rw [hl] at hr
  have h0 : (w.alloc (.cells #[.pointer (some ⟨g, 0, none⟩)] 76)).cell? ⟨g, 1, none⟩ = some (.int .i64 (m : Nat)) := (hB.alloc _).c 1
  have dg : ¬ g = w.heap.size := by omega
  clear hk
  by_cases h1 : m < N
  · rw [if_pos h1] at hr
    subst hr
    have h1I : (m : Int) < (N : Int) := by omega
    clear kc
    go_enter Try.func53, Try.ntmps53
    go_wp2_with fail
    go_ret
    exact ⟨rfl, hw1⟩
  · rw [if_neg h1] at hr
    have h1I : ¬ (m : Int) < (N : Int) := by omega
    cases hq : ks.any (outK m) with
    | true =>
      rw [hq] at kc
      rw [hq, if_pos rfl] at hr
      subst hr
      clear hq
      go_enter Try.func53, Try.ntmps53
      go_wp2_with fail
      refine kc.mono ?_
      rintro _ w1 ⟨rfl, hb1⟩
      go_wp2_with fail
      go_ret
      exact ⟨rfl, hw1.trans (hb1.mono (by simp))⟩
    | false =>
      rw [hq] at kc
      rw [hq, if_neg (by decide)] at hr
      have Hr := Lib.hid hr
      clear hq hr
      go_enter Try.func53, Try.ntmps53
      go_wp2_with fail
      refine kc.mono ?_
      rintro _ w1 ⟨rfl, hb1⟩
      have hbw : Below w.heap.size w w1 := hw1.trans (hb1.mono (by simp))
      clear kc hb1 hw1 h0
      go_wp2_with fail
      go_loopw [5, 20] (fun s5 s20 wr => ∃ (k : Nat) (l : Int), k ≤ N ∧ s20 = .int .i64 (k : Nat) ∧ s5 = .int .i64 l ∧ Hid (r = if riseB l (ks.drop k) then 0 else 16) ∧ wr = w1) (fun _ s20 _ => N - (intOf s20).toNat)
      case atStart => exact ⟨0, -1, Nat.zero_le _, rfl, rfl, Lib.hid Hr.out, rfl⟩
      case round =>
        obtain ⟨k, l, hkN, rfl, rfl, Hl, rfl⟩ := hrel
        by_cases hlt : k < N
        · obtain ⟨b, off, rfl, hb, hc⟩ := Hk.out.2 (by omega)
          have hx : wr.cell? ⟨b, off + k, none⟩ = some (.int .i64 (ks.getD k 0)) := (hbw.cell (p := ⟨b, off + k, none⟩) hb).trans (hc k hlt)
          have Hl2 : Hid (r = if (decide (l < ks.getD k 0) && riseB (ks.getD k 0) (ks.drop (k + 1))) then 0 else 16) := Lib.hid (by rw [← riseB_drop l (by omega)]; exact Hl.out)
          clear hc Hl
          generalize ks.getD k 0 = x at *
          by_cases hxl : l < x
          · have Hl3 : Hid (r = if riseB x (ks.drop (k + 1)) then 0 else 16) := Lib.hid (by rw [Hl2.out]; simp [hxl])
            clear Hl2
            go_wp2_with fail
            go_roundw
            case rel => exact ⟨k + 1, x, by omega, by go_num, rfl, Hl3, by trivial⟩
            case measure => simp [intOf]; omega
          · have Hl3 : Hid (r = 16) := Lib.hid (by rw [Hl2.out]; simp [hxl])
            clear Hl2
            go_wp2_with fail
            go_ret
            exact ⟨ret_int Hl3.out.symm, hbw⟩
        · obtain rfl : k = N := by omega
          have Hl3 : Hid (r = 0) := Lib.hid (by rw [Hl.out, List.drop_of_length_le (by omega)]; simp [riseB])
          clear Hl
          go_wp2_with fail
          go_ret
          exact ⟨ret_int Hl3.out.symm, hbw⟩

end Go.Proofs.Ytcmllkjgggcghaa
end

/- Walks of package eye: the iterator handed back; an append to a clipped list; sums of two odds. -/
section
namespace Go.Proofs.Ytcmllkjgggcghaa
open Go.RowKit Go.Shelf
set_option linter.unusedSimpArgs false
set_option linter.unusedVariables false

/-- the iterator over the outcomes of a test -/
def RetSeq (g : Nat) (w : World) (e : Ending) (w' : World) : Prop :=
  ∃ Bs : Nat, e = .returned (.func (.func 76) #[] #[.pointer (some ⟨Bs, 0, none⟩)]) ∧ w.heap.size ≤ Bs ∧ w'.cell? ⟨Bs, 0, none⟩ = some (.pointer (some ⟨g, 0, none⟩)) ∧ Below w.heap.size w w'

set_option maxHeartbeats 400000 in
theorem outcomes_any (g : Nat) (w : World) : Calls Try.prog 54 #[.pointer (some ⟨g, 0, none⟩)] w (RetSeq g w) := by
  unfold RetSeq
  go_enter Try.func54, Try.ntmps54
  go_wp2_with fail
  go_ret
  exact ⟨w.heap.size, rfl, Nat.le_refl _, by simp, balloc (Below.refl _ _) _⟩

/-- a list that is handed back -/
def RetInts (zs : List Int) (w : World) (e : Ending) (w' : World) : Prop :=
  ∃ A n c, e = .returned (.slice A n c) ∧ Ints w' A n zs ∧ Below w.heap.size w w' ∧ ∀ b off, 0 < n → A = some ⟨b, off, none⟩ → w.heap.size ≤ b
/-- the same, with the capacity -/
def RetIntsC (zs : List Int) (w : World) (e : Ending) (w' : World) : Prop :=
  ∃ A n c, e = .returned (.slice A n c) ∧ Ints w' A n zs ∧ Below w.heap.size w w' ∧ (∀ b off, 0 < n → A = some ⟨b, off, none⟩ → w.heap.size ≤ b) ∧ n ≤ c
theorem RetIntsC.weak {zs : List Int} {w w' : World} {e : Ending} (h : RetIntsC zs w e w') : RetInts zs w e w' := by
  obtain ⟨A, n, c, h1, h2, h3, h4, -⟩ := h
  exact ⟨A, n, c, h1, h2, h3, h4⟩

/-- how a list that grows is held -/
def Held (B : Nat) (A : Option Addr) (n c : Nat) : Prop := (n = 0 ∧ A = none ∧ c = 0) ∨ (0 < n ∧ n ≤ c ∧ ∃ g, A = some ⟨g, 0, none⟩ ∧ B ≤ g)

theorem run_clip {w : World} {A : Option Addr} {n : Nat} {zs : List Int} (hz : Ints w A n zs) {B c : Nat} (hh : Held B A n c) (b : Nat) (k : Int) (hb : w.cell? ⟨b, 0, none⟩ = some (.int .i64 k)) (hn : n ≤ 5000) (ty : TypeId) :
    ∃ c' w', (Builtin.append_ #[23, 23] ty #[.slice A n n, .slice (some ⟨b, 0, none⟩) 1 1]).run Try.prog w = .ok (.slice (some ⟨w.heap.size, 0, none⟩) (n + 1) c') w' ∧
      Ints w' (some ⟨w.heap.size, 0, none⟩) (n + 1) (zs ++ [k]) ∧ n + 1 ≤ c' ∧ Below w.heap.size w w' ∧ w.heap.size < w'.heap.size := by
  obtain ⟨i, hi, hzz⟩ := Option.map_eq_some_iff.1 intT_info
  simp only [Prod.mk.injEq] at hzz
  obtain ⟨hz0, hs, hby⟩ := hzz
  have hnews : ∀ j v, ([Value.int .i64 k] : List Value)[j]? = some v → w.cell? ((⟨b, 0, none⟩ : Addr).add j) = some v := by
    intro j v h
    match j, h with
    | 0, h => simp at h; subst h; simpa [Addr.add] using hb
    | j + 1, h => simp at h
  have hcells : ∀ (g : Nat) (w' : World) (zc : Array Value), g = w.heap.size → w' = w.drew.alloc (.cells ((zs.map (Value.int .i64)).toArray ++ ([Value.int .i64 k] : List Value).toArray ++ zc) 3) →
      Ints w' (some ⟨g, 0, none⟩) (n + 1) (zs ++ [k]) ∧ Below w.heap.size w w' ∧ w.heap.size < w'.heap.size := by
    intro g w' zc hg hw'
    have hbl : Below w.heap.size w w' := by rw [hw']; exact balloc (Below.drew (Below.refl _ _)) _
    refine ⟨⟨by simp [hz.1], fun _ => ⟨g, 0, rfl, by rw [hw', hg]; simp, fun j hj => ?_⟩⟩, hbl, by rw [hw']; simp⟩
    have hjl : j < (zs ++ [k]).length := by simp [hz.1]; omega
    rw [hw', World.cell?_alloc_at _ _ g (0 + j) (by rw [hg]; rfl), Nat.zero_add, Array.getElem?_append_left (by simp [hz.1]; omega)]
    rw [show (zs.map (Value.int .i64)).toArray ++ ([Value.int .i64 k] : List Value).toArray = ((zs ++ [k]).map (Value.int .i64)).toArray by simp]
    rw [List.getElem?_toArray, List.getElem?_map, List.getD_eq_getElem?_getD, List.getElem?_eq_getElem hjl]
    rfl
  rcases hh with ⟨rfl, rfl, rfl⟩ | ⟨h0, hc, g, rfl, hg⟩
  · have hzs : zs = [] := List.eq_nil_of_length_eq_zero hz.1
    subst hzs
    have hr := run_append_nil (P := Try.prog) w 23 ty 3 i (.int .i64 0) (by kernel_rfl) hi hz0 ⟨b, 0, none⟩ 1 1 [.int .i64 k] (by rw [hs]; rfl) hnews (by omega) (by omega) (by rw [hby]; omega)
    obtain ⟨h1, h2, h3⟩ := hcells w.heap.size (w.drew.alloc (.cells (([Value.int .i64 k] : List Value).toArray ++ Builtin.zeroCells (Value.int .i64 0).cells (grownCap w 1 0 3 - 1)) 3)) (Builtin.zeroCells (Value.int .i64 0).cells (grownCap w 1 0 3 - 1)) rfl (by simp)
    exact ⟨_, _, hr, by simpa using h1, grownCap_ge w 1 0 _, by simpa using h2, by simp⟩
  · have hr := run_append_grow (P := Try.prog) w 23 ty 3 i (.int .i64 0) (by kernel_rfl) hi hz0 ⟨g, 0, none⟩ n n (zs.map (Value.int .i64)) (by rw [hs]; simp [hz.1]) (by
        intro j v h
        rw [List.getElem?_map] at h
        obtain ⟨x, hx, rfl⟩ := Option.map_eq_some_iff.1 h
        have hj : j < n := by rw [← hz.1]; exact (List.getElem?_eq_some_iff.1 hx).1
        have := hz.cell0 j hj
        rw [List.getD_eq_getElem?_getD, hx] at this
        rw [show (⟨g, 0, none⟩ : Addr).add j = ⟨g, 0 + j, none⟩ by unfold Addr.add; split <;> simp_all]
        exact this) ⟨b, 0, none⟩ 1 1 [.int .i64 k] (by rw [hs]; rfl) hnews (by omega) (by omega) (by
        rw [hby]
        have := growslice_fits (need := n + 1) (old := n) (bytes := 8) (by omega) (by omega)
        exact this)
    obtain ⟨h1, h2, h3⟩ := hcells w.heap.size _ _ rfl rfl
    exact ⟨_, _, hr, h1, grownCap_ge w (n + 1) n _, h2, h3⟩

theorem clip_in {F : Fence} {nF : Nat} {ops : Array Oper} {rest : List Oper} {o : Oper} {a : Act} {w : World} {Q : Exit → Act → World → Prop}
    (hg : o.guard = none) (s x : Operand) (hop : o.op = Op.call { callee := Callee.builtin Builtin.append, args := #[s, x], argTypes := #[23, 23] })
    (B : Nat) (A : Option Addr) (n c : Nat) (zs : List Int) (hs : a.eval s = .slice A n n) (hz : Ints w A n zs) (hh : Held B A n c)
    (b : Nat) (k : Int) (hx : a.eval x = .slice (some ⟨b, 0, none⟩) 1 1) (hb : w.cell? ⟨b, 0, none⟩ = some (.int .i64 k)) (hn : n ≤ 5000) (H : Nat) (hH : w.heap.size = H) (hB : B ≤ H)
    (hK : ∀ c' w', Ints w' (some ⟨H, 0, none⟩) (n + 1) (zs ++ [k]) → Held B (some ⟨H, 0, none⟩) (n + 1) c' → Below w.heap.size w w' → H < w'.heap.size → wpListIn F nF Try.prog ops Q rest (a.put o.dst (.slice (some ⟨H, 0, none⟩) (n + 1) c')) w') :
    wpListIn F nF Try.prog ops Q (o :: rest) a w := by
  subst hH
  refine wpListIn_plain hg fun K hK' => ?_
  obtain ⟨c', w', hrun, r1, r2, r3, r4⟩ := run_clip hz hh b k hb hn o.type
  unfold Oper.wpIn
  refine ⟨?_, ?_⟩
  · simp [Oper.about, hop, resolve, Target.leads, Sem.run_pure]
  · rw [Oper.semAt_plain F _ _ (by rw [hop]; intro c hc'; cases hc')]
    simp [execOp, hop, resolve, invoke, builtin, hs, hx, hrun, Result.andThen]
    exact hK' _ _ (hK c' w' r1 (.inr ⟨by omega, r2, _, rfl, hB⟩) r3 r4)

set_option maxHeartbeats 1000000 in
theorem add_any (a b c d : Int) (gB : Nat) (w : World) (hB : Cs w gB #[.int .i64 a, .int .i64 b, .int .i64 c, .int .i64 d])
    (h : 0 ≤ a ∧ a ≤ 1000000000000 ∧ 0 ≤ b ∧ b ≤ 1000000000000 ∧ 0 ≤ c ∧ c ≤ 1000000000000 ∧ 0 ≤ d ∧ d ≤ 1000000000000) (x y : Int) (hx : x = a + c) (hy : y = b + d) :
    Calls Try.prog 66 #[.slice (some ⟨gB, 0, none⟩) 2 2] w fun e w' => e = .returned (.agg #[.int .i64 x, .int .i64 y]) ∧ Below w.heap.size w w' := by
  have hlt := hB.lt
  have HB := Lib.hid hB
  have Hx := Lib.hid hx
  have Hy := Lib.hid hy
  clear hB hx hy
  go_enter Try.func66, Try.ntmps66
  go_wp2_with fail
  go_loopw [8] (fun s8 wx => ∃ (k : Nat) (u v : Int) (W : World), s8 = .int .i64 (k : Nat) ∧ Hid (W = wx) ∧ Hid ((k = 0 ∧ u = 0 ∧ v = 0) ∨ (k = 1 ∧ u = a ∧ v = b) ∨ (k = 2 ∧ u = x ∧ v = y)) ∧ Cs W w.heap.size #[.int .i64 0, .int .i64 0] ∧ Cs W (w.heap.size + 1) #[.int .i64 u, .int .i64 v] ∧ Below w.heap.size w W) (fun s8 _ => 2 - (intOf s8).toNat)
  case atStart => exact ⟨0, 0, 0, _, rfl, Lib.hid rfl, Lib.hid (.inl ⟨rfl, rfl, rfl⟩), csA, csA, blA⟩
  case round =>
    obtain ⟨k, u, v, W, rfl, HW, Hk, B0, B1, hbw⟩ := hrel
    obtain rfl := HW.out
    clear HW
    by_cases hk2 : k < 2
    · obtain ⟨p1, p2, c0, c1, hu, hv, Hn⟩ : ∃ p1 p2 : Int, W.cell? ⟨gB, k * 2, none⟩ = some (.int .i64 p1) ∧ W.cell? ⟨gB, k * 2 + 1, none⟩ = some (.int .i64 p2) ∧ (0 ≤ u + p1 ∧ u + p1 ≤ 2000000000000) ∧ (0 ≤ v + p2 ∧ v + p2 ≤ 2000000000000) ∧
          Hid ((k + 1 = 0 ∧ u + p1 = 0 ∧ v + p2 = 0) ∨ (k + 1 = 1 ∧ u + p1 = a ∧ v + p2 = b) ∨ (k + 1 = 2 ∧ u + p1 = x ∧ v + p2 = y)) := by
        have hc : ∀ i, W.cell? ⟨gB, i, none⟩ = (#[Value.int .i64 a, .int .i64 b, .int .i64 c, .int .i64 d] : Array Value)[i]? := fun i => (hbw.cell (p := ⟨gB, i, none⟩) hlt).trans (HB.out.c i)
        rcases Hk.out with ⟨rfl, rfl, rfl⟩ | ⟨rfl, rfl, rfl⟩ | ⟨rfl, rfl, rfl⟩
        · exact ⟨a, b, hc 0, hc 1, by omega, by omega, Lib.hid (.inr (.inl ⟨rfl, by omega, by omega⟩))⟩
        · exact ⟨c, d, hc 2, hc 3, by omega, by omega, Lib.hid (.inr (.inr ⟨rfl, by rw [Hx.out], by rw [Hy.out]⟩))⟩
        · omega
      have hkI : (k : Int) < 2 := by omega
      have f1 : IntKind.i64.wrap (u + p1) = u + p1 := IntWalk.i64_in _ (by omega)
      have f2 : IntKind.i64.wrap (v + p2) = v + p2 := IntWalk.i64_in _ (by omega)
      clear h Hk hu hv
      have cB1 := B1.c
      have fB1 := B1.f
      have lB1 := B1.lt
      go_wp2_with fail
      go_roundw
      case rel => exact ⟨k + 1, u + p1, v + p2, _, by go_num, Lib.hid rfl, Hn, csA, (by first | exact B1.set2 _ _ | exact (B1.set2 _ _).alloc _), blA⟩
      case measure => simp [intOf]; omega
    · obtain ⟨rfl, rfl, rfl⟩ : k = 2 ∧ u = x ∧ v = y := by rcases Hk.out with ⟨rfl, _⟩ | ⟨rfl, _⟩ | h <;> first | omega | exact h
      clear Hk
      have cB0 := B0.c
      have fB0 := B0.f
      have lB0 := B0.lt
      have cB1 := B1.c
      have fB1 := B1.f
      have lB1 := B1.lt
      go_wp2_with fail
      have n1 := B1.lt
      have F0 := B0.set2 (.int .i64 u) (.int .i64 v)
      have cF := F0.c
      have fF := F0.f
      have lF := F0.lt
      have hbF := bset2 hbw (Nat.le_refl w.heap.size) (.int .i64 u) (.int .i64 v)
      exact bodyPost_ret (v := .agg #[.int .i64 u, .int .i64 v]) (by simp [results, Try.results66, go_sem, cF, fF, lF]) rfl ⟨rfl, hbF⟩

end Go.Proofs.Ytcmllkjgggcghaa
end
