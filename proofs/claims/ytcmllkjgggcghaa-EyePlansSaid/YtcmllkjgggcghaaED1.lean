/- Walks of package eye: the iterator over all outcomes. -/
import Derived.Test.YtcmllkjgggcghaaEM4
import Derived.Test.YtcmllkjgggcghaaERange
import Derived.Shelf.RegionOpen
import Derived.Sort.CutIn
namespace Go.Proofs.Ytcmllkjgggcghaa
open Go.RowKit Go.Shelf
set_option linter.unusedSimpArgs false
set_option linter.unusedVariables false
attribute [local go_sem] Oper.semAt_some

theorem Ints.of_heap {w w' : World} {A : Option Addr} {n : Nat} {zs : List Int} (h : Ints w A n zs) (hs : w.heap.size ≤ w'.heap.size) (hb : ∀ i, i < w.heap.size → w'.heap[i]? = w.heap[i]?) : Ints w' A n zs := by
  refine ⟨h.1, fun hn => ?_⟩
  obtain ⟨b, off, rfl, hlt, hc⟩ := h.2 hn
  exact ⟨b, off, rfl, by omega, fun i hi => (World.cell?_of_block (w := w) (a := ⟨b, off + i, none⟩) (hb b hlt)).trans (hc i hi)⟩
theorem Cs.of_heap {w w' : World} {g : Nat} {cs : Array Value} (h : Cs w g cs) (hs : w.heap.size ≤ w'.heap.size) (hb : w'.heap[g]? = w.heap[g]?) : Cs w' g cs :=
  ⟨Nat.lt_of_lt_of_le h.1 hs, fun i => (World.cell?_of_block (w := w) (a := ⟨g, i, none⟩) hb).trans (h.2.1 i), fun i => (World.frozen?_of_block (w := w) (a := ⟨g, i, none⟩) hb).trans (h.2.2 i)⟩
theorem Cs.turns {A B : World} {O : Nat → Prop} {g : Nat} {cs : Array Value} (h : Cs A g cs) (ht : Turns O A B) (hg : ¬ O g) : Cs B g cs := h.of_heap ht.size (ht.block g h.1 hg)
theorem Plates.of_heap {w w' : World} {A : Option Addr} {n : Nat} {zs : List Pl} (h : Plates w A n zs) (hs : w.heap.size ≤ w'.heap.size) (hb : ∀ i, i < w.heap.size → w'.heap[i]? = w.heap[i]?) : Plates w' A n zs := by
  refine ⟨h.1, fun hn => ?_, fun p hp => ⟨(h.2.2 p hp).1.of_heap hs hb, (h.2.2 p hp).2.1.of_heap hs hb, (h.2.2 p hp).2.2⟩⟩
  obtain ⟨b, off, rfl, hlt, hc⟩ := h.2.1 hn
  exact ⟨b, off, rfl, by omega, fun i p hp => ⟨(World.cell?_of_block (w := w) (a := ⟨b, off + i * 2, none⟩) (hb b hlt)).trans (hc i p hp).1, (World.cell?_of_block (w := w) (a := ⟨b, off + i * 2 + 1, none⟩) (hb b hlt)).trans (hc i p hp).2⟩⟩

theorem many_le {zs : List Pl} {n : Nat} (hl : zs.length = n) (hn : n ≤ 6) (hg : ∀ p ∈ zs, Good p) : manyT zs ≤ 4096 := by
  have h1 := many_bd hg n (by omega)
  have h2 := pow4 n (by omega)
  rw [List.take_of_length_le (by omega)] at h1
  omega

/-- what the rounds of a range over the outcomes keep: what was there ahead, the test, its box, the iterator's own block -/
def KpO (S g Bs B : Nat) (W W' : World) : Prop := W.heap.size ≤ W'.heap.size ∧ ∀ i, i < W.heap.size → (i < S ∨ i = g ∨ i = Bs ∨ i = B) → W'.heap[i]? = W.heap[i]?
theorem KpO.trans {S g Bs B : Nat} {X Y Z : World} (h : KpO S g Bs B X Y) (k : KpO S g Bs B Y Z) : KpO S g Bs B X Z :=
  ⟨Nat.le_trans h.1 k.1, fun i hi hb => (k.2 i (Nat.lt_of_lt_of_le hi h.1) hb).trans (h.2 i hi hb)⟩
theorem KpO.of_turns {S g Bs B : Nat} {O : Nat → Prop} {X Y : World} (h : Turns O X Y) (hO : ∀ i, (i < S ∨ i = g ∨ i = Bs ∨ i = B) → ¬ O i) : KpO S g Bs B X Y :=
  ⟨h.size, fun i hi hb => h.block i hi (hO i hb)⟩

theorem int_info : ∃ i, Try.prog.info? 3 = some i := by
  have h := intT_info
  cases hi : Try.prog.info? 3 with
  | none => rw [hi] at h; cases h
  | some i => exact ⟨i, rfl⟩

@[local go_sem] theorem ans_eq (a b c d x y : Nat) (w : World) :
    (Op.equalIn 10000 101 (.agg #[.int .i64 a, .int .i64 b, .int .i64 c, .int .i64 d, .int .i64 x, .int .i64 y]) (.agg #[.int .i64 0, .int .i64 0, .int .i64 0, .int .i64 0, .int .i64 0, .int .i64 0])).run Try.prog w = .ok (decide (a = 0 ∧ b = 0 ∧ c = 0 ∧ d = 0 ∧ x = 0 ∧ y = 0)) w := by
  obtain ⟨i, hi⟩ := int_info
  rw [show (10000 : Nat) = 9999 + 1 from rfl, run_equalIn_array w 9999 _ _ (n := 6) (e := 3) (by kernel_rfl) hi]
  have hc : Try.prog.cellsOf 3 = 1 := by kernel_rfl
  simp [Op.eqItems, List.range, List.range.loop, go_sem, hc]
  by_cases h1 : a = 0 <;> by_cases h2 : b = 0 <;> by_cases h3 : c = 0 <;> by_cases h4 : d = 0 <;> by_cases h5 : x = 0 <;> by_cases h6 : y = 0 <;> simp [h1, h2, h3, h4, h5, h6]

/-- what an outcome is yielded as -/
def encO (zs : List Pl) (n k : Nat) : Array Value := #[.int .i64 (k : Nat), .agg #[.int .i64 (ocG zs n k), .int .i64 (ocE zs n k)]]

theorem turns_set6 {O : Nat → Prop} {w : World} {g : Nat} (f : Nat → Nat) (hg : O g) : Turns O w (set6 w g f) :=
  (((((Turns.setCell (p := ⟨g, 0, none⟩) _ hg).trans (Turns.setCell (p := ⟨g, 1, none⟩) _ hg)).trans (Turns.setCell (p := ⟨g, 2, none⟩) _ hg)).trans (Turns.setCell (p := ⟨g, 3, none⟩) _ hg)).trans (Turns.setCell (p := ⟨g, 4, none⟩) _ hg)).trans (Turns.setCell (p := ⟨g, 5, none⟩) _ hg)

set_option maxRecDepth 100000 in
set_option maxHeartbeats 1000000 in
theorem outcomes_in (q : Nat) (hq : 1 ≤ q) (Bs g n c m S : Nat) (A : Option Addr) (zs : List Pl) (w0 w : World) (hz : Plates w0 A n zs) (hn : n ≤ 6) (hg : ∀ p ∈ zs, Good p) (hb0 : Below w0.heap.size w0 w) (hS : S = w0.heap.size)
    (hBs : w.cell? ⟨Bs, 0, none⟩ = some (.pointer (some ⟨g, 0, none⟩))) (hB : Cs w g #[.slice A n c, .int .i64 (m : Nat)]) :
    SeqList Fence.wide q Try.prog 76 #[.pointer (some ⟨Bs, 0, none⟩)] (encO zs n) (fun B i => i = B) (KpO S g Bs) (List.range (manyT zs)) (fun _ => True) w := by
  intro l J Jx W hW hJ hJx hY hJ0
  subst hS
  have hl := hz.1
  refine callsIn_of_wp Try.func76 rfl trivial ?_ rfl
  simp only [Try.ntmps76, List.size_toArray, List.length_cons, List.length_nil, Nat.reduceAdd, Nat.reduceSub, Array.replicate_succ, Array.replicate_zero, List.push_toArray, List.append_toArray, List.nil_append, List.cons_append]
  have hBsW := (hW.cell (p := ⟨Bs, 0, none⟩) (World.block_lt_of_cell? w _ hBs)).trans hBs
  have hBlt : Bs < W.heap.size := Nat.lt_of_lt_of_le (World.block_lt_of_cell? w _ hBs) hW.size
  have hglt : g < W.heap.size := Nat.lt_of_lt_of_le hB.lt hW.size
  have hSW : w0.heap.size ≤ W.heap.size := Nat.le_trans hb0.size hW.size
  have hBW : Cs W g #[.slice A n c, .int .i64 (m : Nat)] := hB.of_heap hW.size (hW.block g hB.lt)
  have hzW : Hid (∀ i, i < w0.heap.size → W.heap[i]? = w0.heap[i]?) := Lib.hid fun i hi => (hW.block i (Nat.lt_of_lt_of_le hi hb0.size)).trans (hb0.block i hi)
  have HY := Lib.hid hY
  have HJ := Lib.hid hJ
  have HJx := Lib.hid hJx
  have Hz := Lib.hid hz
  have Hg := Lib.hid hg
  have HBW := Lib.hid hBW
  have hM : 0 < manyT zs := (At.start hl hg).lt hl
  have hM2 := many_le hl hn hg
  generalize hR : manyT zs = R at *
  have HR := Lib.hid hR
  have e0 : ans (fun _ => 0) = #[.int .i64 0, .int .i64 0, .int .i64 0, .int .i64 0, .int .i64 0, .int .i64 0] := rfl
  clear hY hJ hJx hz hg hBs hB hW hb0 hBW hR
  gi_wp2_with fail
  gi_loopw [4] (fun s4 wr => ∃ (k : Nat) (f : Nat → Nat), k < R ∧ s4 = .int .i64 (k : Nat) ∧ Hid (At zs n k f) ∧ W.heap.size ≤ wr.heap.size ∧ Cs wr W.heap.size (ans f) ∧ Hid (∀ i, i < w0.heap.size → wr.heap[i]? = w0.heap[i]?) ∧ wr.cell? ⟨Bs, 0, none⟩ = some (.pointer (some ⟨g, 0, none⟩)) ∧ Cs wr g #[.slice A n c, .int .i64 (m : Nat)] ∧ J (List.range k) wr) (fun s4 _ => R - (intOf s4).toNat)
  case atStart =>
    refine ⟨0, fun _ => 0, hM, rfl, Lib.hid (At.start hl Hg.out), by simp, ?_, Lib.hid (fun i hi => ?_), ?_, HBW.out.alloc _, ?_⟩
    · rw [e0]; exact Cs.new _ _ _ _ rfl
    · exact ((balloc (Below.refl W.heap.size W) _).block i (Nat.lt_of_lt_of_le hi hSW)).trans (hzW.out i hi)
    · exact ((balloc (Below.refl W.heap.size W) _).cell (p := ⟨Bs, 0, none⟩) hBlt).trans hBsW
    · exact HJ.out [] W _ hJ0 (Turns.of_below (balloc (Below.refl _ _) _))
  case round =>
    obtain ⟨k, f, hk, rfl, Hat, hsr, BA, Hbr, hBsr, hBr, hJr⟩ := hrel
    have hzr : Plates wr A n zs := Hz.out.of_heap (Nat.le_trans hSW hsr) Hbr.out
    have HJr := Lib.hid hJr
    have k1 := odds_any A n c m g zs f wr hzr hn Hg.out Hat.out.fit hBr
    obtain ⟨o1, o2⟩ := Hat.out.odds hl Hg.out
    rw [o1, o2] at k1
    have BAu : Cs wr W.heap.size #[.int .i64 (f 0 : Nat), .int .i64 (f 1 : Nat), .int .i64 (f 2 : Nat), .int .i64 (f 3 : Nat), .int .i64 (f 4 : Nat), .int .i64 (f 5 : Nat)] := BA
    have HBr := Lib.hid hBr
    clear hJr hzr hBsW hJ0 o1 o2 hBr
    have cBAu := BAu.c
    have fBAu := BAu.f
    have lBAu := BAu.lt
    gi_wp2_with fail
    refine ⟨trivial, (callsIn_wide.2 k1).mono ?_⟩
    rintro e w1 ⟨rfl, hb1⟩
    clear cBAu fBAu lBAu
    clear k1
    have T1 : Turns (fun i => i = W.heap.size) wr w1 := Turns.of_below hb1
    have B1 : Cs w1 W.heap.size (ans f) := BA.keep hb1
    have hbr1 : Hid (∀ i, i < w0.heap.size → w1.heap[i]? = w0.heap[i]?) := Lib.hid fun i hi => (hb1.block i (by omega)).trans (Hbr.out i hi)
    have hBs1 : w1.cell? ⟨Bs, 0, none⟩ = some (.pointer (some ⟨g, 0, none⟩)) := (hb1.cell (p := ⟨Bs, 0, none⟩) (Nat.lt_of_lt_of_le hBlt hsr)).trans hBsr
    have hB1 : Cs w1 g #[.slice A n c, .int .i64 (m : Nat)] := HBr.out.keep hb1
    have HJ1 := Lib.hid (HJ.out _ wr w1 HJr.out T1)
    have hs1 : W.heap.size ≤ w1.heap.size := Nat.le_trans hsr hb1.size
    have hpre : List.range k ++ [k] <+: List.range R := by
      rw [← List.range_succ]
      exact ⟨(List.range (R - (k + 1))).map (k + 1 + ·), by rw [← List.range_add]; congr 1; omega⟩
    have Hpre := Lib.hid hpre
    have hgt1 : W.heap.size < w1.heap.size := Nat.lt_of_lt_of_le BA.lt hb1.size
    clear T1 hb1 hBsr Hbr HBr HJr BA hpre
    obtain ⟨fn, tmps, assign, body, hy, hR⟩ := HY.out (List.range k) k w1 Hpre.out hgt1 HJ1.out
    unfold encO at hy
    gi_wp2_with fail
    refine hR.mono ?_
    rintro e W4 (⟨rfl, hJ4, hk4⟩ | ⟨rfl, hJx4⟩)
    · have HJ4 := Lib.hid hJ4
      have B4 : Cs W4 W.heap.size (ans f) := B1.of_heap hk4.1 (hk4.2 _ B1.lt (.inr (.inr (.inr rfl))))
      have hBs4 : W4.cell? ⟨Bs, 0, none⟩ = some (.pointer (some ⟨g, 0, none⟩)) := (World.cell?_of_block (w := w1) (a := ⟨Bs, 0, none⟩) (hk4.2 Bs (Nat.lt_of_lt_of_le hBlt hs1) (.inr (.inr (.inl rfl))))).trans hBs1
      have hB4 : Cs W4 g #[.slice A n c, .int .i64 (m : Nat)] := hB1.of_heap hk4.1 (hk4.2 _ hB1.lt (.inr (.inl rfl)))
      have hbr4 : Hid (∀ i, i < w0.heap.size → W4.heap[i]? = w0.heap[i]?) := Lib.hid fun i hi => (hk4.2 i (by omega) (.inl hi)).trans (hbr1.out i hi)
      have hs4 : W.heap.size ≤ W4.heap.size := Nat.le_trans hs1 hk4.1
      clear hJ4 hk4 hB1 hBs1 hbr1 hs1 B1 HJ1
      have hz4 : Plates W4 A n zs := Hz.out.of_heap (Nat.le_trans hSW hs4) hbr4.out
      have k2 := next_any A n c m g zs f W4 hz4 hn Hg.out Hat.out.fit hB4
      have Hlast := Lib.hid (fun (h : k + 1 = R) => Hat.out.last hl (h.trans HR.out.symm))
      have Hnext := Lib.hid (fun (h : k + 1 < R) => Hat.out.next hl (Nat.lt_of_lt_of_eq h HR.out.symm))
      generalize nextA (fun i => (plAt zs i).gn) n f = f2 at *
      unfold ans at k2
      have HB4 := Lib.hid hB4
      have B4u : Cs W4 W.heap.size #[.int .i64 (f 0 : Nat), .int .i64 (f 1 : Nat), .int .i64 (f 2 : Nat), .int .i64 (f 3 : Nat), .int .i64 (f 4 : Nat), .int .i64 (f 5 : Nat)] := B4
      clear hz4 hB4
      have cB4u := B4u.c
      have fB4u := B4u.f
      have lB4u := B4u.lt
      gi_wp2_with fail
      refine ⟨trivial, (callsIn_wide.2 k2).mono ?_⟩
      rintro e w5 ⟨rfl, hb5⟩
      clear cB4u fB4u lB4u
      have T5 : Turns (fun i => i = W.heap.size) W4 (set6 w5 W.heap.size f2) := (Turns.of_below hb5).trans (turns_set6 f2 rfl)
      have B5 : Cs w5 W.heap.size (ans f) := B4.keep hb5
      have B6 := B5.set6 f2

      have B5u : Cs w5 W.heap.size #[.int .i64 (f 0 : Nat), .int .i64 (f 1 : Nat), .int .i64 (f 2 : Nat), .int .i64 (f 3 : Nat), .int .i64 (f 4 : Nat), .int .i64 (f 5 : Nat)] := B5
      clear k2 hb5 B4 B4u B5
      unfold set6 at T5 B6
      have cB5u := B5u.c
      have fB5u := B5u.f
      have lB5u := B5u.lt
      gi_upto_region 5 with fail
      clear cB5u fB5u lB5u
      generalize (((((w5.setCell ⟨W.heap.size, 0, none⟩ (.int .i64 (f2 0 : Nat))).setCell ⟨W.heap.size, 1, none⟩ (.int .i64 (f2 1 : Nat))).setCell ⟨W.heap.size, 2, none⟩ (.int .i64 (f2 2 : Nat))).setCell ⟨W.heap.size, 3, none⟩ (.int .i64 (f2 3 : Nat))).setCell ⟨W.heap.size, 4, none⟩ (.int .i64 (f2 4 : Nat))).setCell ⟨W.heap.size, 5, none⟩ (.int .i64 (f2 5 : Nat)) = W6 at *
      have hbr6 : Hid (∀ i, i < w0.heap.size → W6.heap[i]? = w0.heap[i]?) := Lib.hid fun i hi => (T5.block i (by omega) (fun e => by omega)).trans (hbr4.out i hi)
      have hBs6 : W6.cell? ⟨Bs, 0, none⟩ = some (.pointer (some ⟨g, 0, none⟩)) := (World.cell?_of_block (w := W4) (a := ⟨Bs, 0, none⟩) (T5.block Bs (Nat.lt_of_lt_of_le hBlt hs4) (fun e => by have e' : Bs = W.heap.size := e; omega))).trans hBs4
      have hB6 := Lib.hid (Cs.turns HB4.out T5 (fun e => by have e' : g = W.heap.size := e; omega))
      have hs6' : W.heap.size ≤ W6.heap.size := Nat.le_trans hs4 T5.size
      have HJ6 := Lib.hid (HJ.out _ W4 W6 HJ4.out T5)
      have B6u : Cs W6 W.heap.size #[.int .i64 (f2 0 : Nat), .int .i64 (f2 1 : Nat), .int .i64 (f2 2 : Nat), .int .i64 (f2 3 : Nat), .int .i64 (f2 4 : Nat), .int .i64 (f2 5 : Nat)] := B6
      clear T5 B5u hs4 hbr4 hBs4 HB4 HJ4
      by_cases hkR : k + 1 < R
      · have hne : (decide (f2 0 = 0 ∧ f2 1 = 0 ∧ f2 2 = 0 ∧ f2 3 = 0 ∧ f2 4 = 0 ∧ f2 5 = 0)) = false := by
          rw [decide_eq_false_iff_not]
          rintro ⟨z0, z1, z2, z3, z4, z5⟩
          have := (Hnext.out hkR).zero hn (fun i hi => by
            match i, hi with
            | 0, _ => exact z0 | 1, _ => exact z1 | 2, _ => exact z2 | 3, _ => exact z3 | 4, _ => exact z4 | 5, _ => exact z5
            | _ + 6, h => exact absurd h (by omega))
          omega
        have Hn2 := Lib.hid (Hnext.out hkR)
        clear Hnext Hlast Hat
        have cB6u := B6u.c
        have fB6u := B6u.f
        have lB6u := B6u.lt
        gi_wp2_with fail
        go_roundw
        case rel => exact ⟨k + 1, f2, hkR, by go_num, Hn2, hs6', B6, hbr6, hBs6, hB6.out, by rw [List.range_succ]; exact HJ6.out⟩
        case measure => simp [intOf]; omega
      · have hkR2 : k + 1 = R := by omega
        have hz := Hlast.out hkR2
        have hne : (decide (f2 0 = 0 ∧ f2 1 = 0 ∧ f2 2 = 0 ∧ f2 3 = 0 ∧ f2 4 = 0 ∧ f2 5 = 0)) = true := by
          rw [decide_eq_true_eq]
          exact ⟨hz 0, hz 1, hz 2, hz 3, hz 4, hz 5⟩
        have Hend : Hid (J (List.range R) W6) := Lib.hid (by rw [← hkR2, List.range_succ]; exact HJ6.out)
        clear Hnext Hlast Hat hz
        have cB6u := B6u.c
        have fB6u := B6u.f
        have lB6u := B6u.lt
        gi_wp2_with fail
        refine bodyPost_ret (results_none rfl _ _ _) rfl ⟨⟨_, rfl⟩, .inl ⟨trivial, Hend.out⟩⟩
    · have HJx4 := Lib.hid hJx4
      clear hJx4
      gi_wp2_with fail
      refine bodyPost_ret (results_none rfl _ _ _) rfl ⟨⟨_, rfl⟩, .inr ⟨_, Hpre.out, HJx4.out⟩⟩

end Go.Proofs.Ytcmllkjgggcghaa
