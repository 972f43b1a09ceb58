/- The walk of package unit's steps: what a path yields. -/
import Derived.Test.YtkjoamindolonaaDoorURange
import Derived.Test.YtkjoamindolonaaDoorUA8
import Derived.Shelf.RegionOpen
namespace Go.Proofs.YtkjoamindolonaaDoor
open Go.RowKit Go.Shelf
set_option linter.unusedSimpArgs false
set_option linter.unusedVariables false
open Um (frac S4 spanB spanE sp on St stepsL inl)
attribute [local go_sem] Oper.semAt_some

theorem Ints.of_heap {w w' : World} {A : Option Addr} {n : Nat} {zs : List Int} (h : Ints w A n zs) (hs : w.heap.size ≤ w'.heap.size) (hb : 0 < n → ∀ b off, A = some ⟨b, off, none⟩ → w'.heap[b]? = w.heap[b]?) : Ints w' A n zs := by
  refine ⟨h.1, fun hn => ?_⟩
  obtain ⟨b, off, rfl, hlt, hc⟩ := h.2 hn
  exact ⟨b, off, rfl, by omega, fun i hi => (World.cell?_of_block (w := w) (a := ⟨b, off + i, none⟩) (hb hn b off rfl)).trans (hc i hi)⟩

/-- what the rounds of a range over a path's steps keep -/
def KpS (A : Option Addr) (n B : Nat) (W W' : World) : Prop := W.heap.size ≤ W'.heap.size ∧ ∀ i, i < W.heap.size → (i = B ∨ (0 < n ∧ ∃ off, A = some ⟨i, off, none⟩)) → W'.heap[i]? = W.heap[i]?
theorem KpS.trans {A : Option Addr} {n B : Nat} {X Y Z : World} (h : KpS A n B X Y) (k : KpS A n B Y Z) : KpS A n B X Z :=
  ⟨Nat.le_trans h.1 k.1, fun i hi hb => (k.2 i (Nat.lt_of_lt_of_le hi h.1) hb).trans (h.2 i hi hb)⟩
theorem KpS.of_turns {A : Option Addr} {n B : Nat} {O : Nat → Prop} {X Y : World} (h : Turns O X Y) (hO : ∀ i, (i = B ∨ (0 < n ∧ ∃ off, A = some ⟨i, off, none⟩)) → ¬ O i) : KpS A n B X Y :=
  ⟨h.size, fun i hi hb => h.block i hi (hO i hb)⟩

/-- the package's first step -/
def FirstAt (w : World) : Prop := 0 < w.heap.size ∧ ∀ i, w.cell? ⟨0, i, none⟩ = (#[.int .i64 1, .int .i64 0, .int .i64 0, .int .i64 1] : Array Value)[i]?
theorem FirstAt.below {w w' : World} (h : FirstAt w) (hb : Below w.heap.size w w') : FirstAt w' := ⟨Nat.lt_of_lt_of_le h.1 hb.size, fun i => (hb.cell (p := ⟨_, i, none⟩) h.1).trans (h.2 i)⟩

theorem Cs.of_heap {w w' : World} {g : Nat} {cs : Array Value} (h : Cs w g cs) (hs : w.heap.size ≤ w'.heap.size) (hb : w'.heap[g]? = w.heap[g]?) : Cs w' g cs :=
  ⟨Nat.lt_of_lt_of_le h.1 hs, fun i => (World.cell?_of_block (w := w) (a := ⟨g, i, none⟩) hb).trans (h.2.1 i), fun i => (World.frozen?_of_block (w := w) (a := ⟨g, i, none⟩) hb).trans (h.2.2 i)⟩

theorem all_inl (t : St) : ([t.1, t.2.1].all fun x => !out 0 1000000000 x) = inl t := by
  rw [Bool.eq_iff_iff]
  simp [out, inl]
  omega

theorem turns_set4 {O : Nat → Prop} {w : World} {g : Nat} (x y z u : Value) (hg : O g) : Turns O w ((((w.setCell ⟨g, 0, none⟩ x).setCell ⟨g, 1, none⟩ y).setCell ⟨g, 2, none⟩ z).setCell ⟨g, 3, none⟩ u) :=
  (((Turns.setCell (p := ⟨g, 0, none⟩) x hg).trans (Turns.setCell (p := ⟨g, 1, none⟩) y hg)).trans (Turns.setCell (p := ⟨g, 2, none⟩) z hg)).trans (Turns.setCell (p := ⟨g, 3, none⟩) u hg)

set_option maxRecDepth 100000 in
set_option maxHeartbeats 1000000 in
theorem steps_in (n : Nat) (hn : 1 ≤ n) (Bs len cap : Nat) (A : Option Addr) (zs : List Int) (w : World) (hBs : w.cell? ⟨Bs, 0, none⟩ = some (.slice A len cap)) (hz : Ints w A len zs) (hlen : len ≤ 1000)
    (h0 : ∀ x ∈ zs, 0 ≤ x) (hfa : FirstAt w) :
    SeqList Fence.wide n Tryd.prog 69 #[.pointer (some ⟨Bs, 0, none⟩)] (fun x : St => #[.agg #[.int .i64 x.1, .int .i64 x.2.1, .int .i64 x.2.2.1, .int .i64 x.2.2.2]]) (fun B i => i = B) (KpS A len) (stepsL Um.first zs) (fun _ => True) w := by
  intro l J Jx W hW hJ hJx hY hJ0
  refine callsIn_of_wp Tryd.func69 rfl trivial ?_ rfl
  simp only [Tryd.ntmps69, List.size_toArray, List.length_cons, List.length_nil, Nat.reduceAdd, Nat.reduceSub, Array.replicate_succ, Array.replicate_zero, List.push_toArray, List.append_toArray, List.nil_append, List.cons_append]
  have hBsW := (hW.cell (p := ⟨Bs, 0, none⟩) (World.block_lt_of_cell? w _ hBs)).trans hBs
  have hzW := hz.below hW
  have hfW := (hfa.below hW).2
  have hBlt : Bs < W.heap.size := Nat.lt_of_lt_of_le (World.block_lt_of_cell? w _ hBs) hW.size
  have HA : Hid (∀ b off, 0 < len → A = some ⟨b, off, none⟩ → b < W.heap.size) := by
    intro b off h e
    obtain ⟨b', off', e', hl, _⟩ := hzW.2 h
    rw [e] at e'
    injection e' with e'
    injection e' with e'
    omega
  have HY := Lib.hid hY
  have HJ := Lib.hid hJ
  have HJx := Lib.hid hJx
  have HzW := Lib.hid hzW
  have H0 := Lib.hid h0
  clear hY hJ hJx hzW h0 hz hBs
  gi_wp2_with fail
  gi_loopw [9] (fun i wr => ∃ (k : Nat) (pre : List St) (s : St), k ≤ len ∧ i = .int .i64 k ∧ Hid (stepsL Um.first zs = pre ++ stepsL s (zs.drop k)) ∧ 0 ≤ s.1 ∧ s.1 ≤ 1000000000 ∧ 0 ≤ s.2.1 ∧ s.2.1 ≤ 1000000000 ∧ 0 ≤ s.2.2.1 ∧ s.2.2.1 ≤ 1000000000 ∧ 0 ≤ s.2.2.2 ∧ s.2.2.2 ≤ 1000000000 ∧
      Cs wr W.heap.size #[.int .i64 s.1, .int .i64 s.2.1, .int .i64 s.2.2.1, .int .i64 s.2.2.2] ∧ Ints wr A len zs ∧ J pre wr) (fun i _ => len - (intOf i).toNat)
  case atStart =>
    refine ⟨0, [], Um.first, Nat.zero_le _, rfl, rfl, by decide, by decide, by decide, by decide, by decide, by decide, by decide, by decide, ?_, HzW.out.alloc _, ?_⟩
    · exact Cs.new _ _ _ _ rfl
    · exact HJ.out [] W _ hJ0 (Turns.of_below (balloc (Below.refl _ _) _))
  case round =>
    obtain ⟨k, pre, s, hk, rfl, Hst, s1, s2, s3, s4, s5, s6, s7, s8, BS, hzr, hJr⟩ := hrel
    by_cases hlt : k < len
    · obtain ⟨b, off, rfl, hbl, hc⟩ := hzr.2 (by omega)
      have hbW := HA.out b off (by omega) rfl
      have hx := hc k hlt
      have hget : zs[k]? = some (zs.getD k 0) := by
        rw [List.getD_eq_getElem?_getD, List.getElem?_eq_getElem (by rw [hzr.1]; exact hlt)]; rfl
      have hxp := H0.out _ (List.mem_of_getElem? hget)
      have hdrop : zs.drop k = zs.getD k 0 :: zs.drop (k + 1) := by
        have hl : k < zs.length := by rw [hzr.1]; exact hlt
        rw [List.drop_eq_getElem_cons hl, List.getD_eq_getElem?_getD, List.getElem?_eq_getElem hl]; rfl
      have Hzr := Lib.hid hzr
      have HJr := Lib.hid hJr
      clear hc hget hzr hJr
      generalize zs.getD k 0 = x at *
      have Hdrop := Lib.hid hdrop
      clear hdrop
      have hstep : stepsL s (x :: zs.drop (k + 1)) = if 1000000000 < x then [] else if inl (on s x) = true then on s x :: stepsL (on s x) (zs.drop (k + 1)) else [] := rfl
      by_cases hbig : 1000000000 < x
      · have hend : stepsL Um.first zs = pre := by rw [Hst.out, Hdrop.out, hstep, if_pos hbig, List.append_nil]
        clear hstep
        gi_wp2_with fail
        refine bodyPost_ret (results_none rfl _ _ _) rfl ⟨⟨_, rfl⟩, .inl ⟨trivial, ?_⟩⟩
        rw [hend]; exact HJr.out
      · have hx2 : x ≤ 1000000000 := by omega
        have k1 : ∀ w', Calls Tryd.prog 70 #[.agg #[.int .i64 s.1, .int .i64 s.2.1, .int .i64 s.2.2.1, .int .i64 s.2.2.2], .int .i64 x] w' fun e w'' => e = .returned (.agg #[.int .i64 (on s x).1, .int .i64 (on s x).2.1, .int .i64 (on s x).2.2.1, .int .i64 (on s x).2.2.2]) ∧ Below w'.heap.size w' w'' :=
          fun w' => on_any s.1 s.2.1 s.2.2.1 s.2.2.2 x w' s1 s3 s5 s7 s2 s4 s6 s8 hxp hx2
        have e3 : (on s x).2.2.1 = s.1 := rfl
        have e4 : (on s x).2.2.2 = s.2.1 := rfl
        have t5 : 0 ≤ (on s x).2.2.1 := s1
        have t6 : (on s x).2.2.1 ≤ 1000000000 := s2
        have t7 : 0 ≤ (on s x).2.2.2 := s3
        have t8 : (on s x).2.2.2 ≤ 1000000000 := s4
        have Hstep : Hid (stepsL s (x :: zs.drop (k + 1)) = if inl (on s x) = true then on s x :: stepsL (on s x) (zs.drop (k + 1)) else []) := by
          show _ = _
          rw [hstep, if_neg hbig]
        clear hbig hstep e3 e4
        generalize on s x = t at *
        have k2 := fun W' A' hz => within_any 0 1000000000 A' 2 2 [t.1, t.2.1] W' hz (by omega)
        rw [all_inl t] at k2
        have cBS := BS.c
        have fBS := BS.f
        have lBS := BS.lt
        gi_wp2_with fail
        refine ⟨trivial, (callsIn_wide.2 (k1 _)).mono ?_⟩
        rintro e w1 ⟨rfl, hb1⟩
        clear cBS fBS lBS
        have B1 := BS.keep hb1
        have cB1 := B1.c
        have fB1 := B1.f
        have lB1 := B1.lt
        gi_wp2_with fail
        clear cB1 fB1 lB1
        have B2 := B1.set4 (.int .i64 t.1) (.int .i64 t.2.1) (.int .i64 t.2.2.1) (.int .i64 t.2.2.2)
        have T2 : Turns (fun i => i = W.heap.size) wr ((((w1.setCell ⟨W.heap.size, 0, none⟩ (.int .i64 t.1)).setCell ⟨W.heap.size, 1, none⟩ (.int .i64 t.2.1)).setCell ⟨W.heap.size, 2, none⟩ (.int .i64 t.2.2.1)).setCell ⟨W.heap.size, 3, none⟩ (.int .i64 t.2.2.2)) :=
          (Turns.of_below hb1).trans (turns_set4 _ _ _ _ rfl)
        have hsz2 : Hid (((((w1.setCell ⟨W.heap.size, 0, none⟩ (.int .i64 t.1)).setCell ⟨W.heap.size, 1, none⟩ (.int .i64 t.2.1)).setCell ⟨W.heap.size, 2, none⟩ (.int .i64 t.2.2.1)).setCell ⟨W.heap.size, 3, none⟩ (.int .i64 t.2.2.2)).heap.size = w1.heap.size) := by
          show _ = _
          simp [World.setCell]
        have hbK : ∀ b' off', some (⟨b, off, none⟩ : Addr) = some ⟨b', off', none⟩ → b' ≠ W.heap.size := by
          intro b' off' h
          injection h with h
          injection h with h _
          omega
        generalize ((((w1.setCell ⟨W.heap.size, 0, none⟩ (.int .i64 t.1)).setCell ⟨W.heap.size, 1, none⟩ (.int .i64 t.2.1)).setCell ⟨W.heap.size, 2, none⟩ (.int .i64 t.2.2.1)).setCell ⟨W.heap.size, 3, none⟩ (.int .i64 t.2.2.2)) = w2 at *
        refine ⟨trivial, (callsIn_wide.2 (k2 _ _ (Ints.new2 w2 _ _ _ _ hsz2.out))).mono ?_⟩
        rintro e w3 ⟨rfl, hb3⟩
        have T3 : Turns (fun i => i = W.heap.size) wr w3 := (T2.trans (Turns.of_below (balloc (Below.refl _ _) _))).trans (Turns.of_below hb3)
        have B3 := (B2.alloc (.cells #[.int .i64 t.1, .int .i64 t.2.1] 2)).keep hb3
        have hz3 : Ints w3 (some ⟨b, off, none⟩) len zs := Hzr.out.of_heap T3.size (fun _ b' off' h => T3.block b' (by injection h with h; injection h with h _; rw [← h]; exact hbl) (hbK b' off' h))
        have hJ3 : J pre w3 := HJ.out pre wr w3 HJr.out T3
        have Hz3 := Lib.hid hz3
        have HJ3 := Lib.hid hJ3
        clear hz3 hJ3 T2 T3 hsz2 k1 k2 hb1 hb3 B1 B2 hx
        cases hin : inl t with
        | false =>
          have hend : stepsL Um.first zs = pre := by rw [Hst.out, Hdrop.out, Hstep.out, if_neg (by rw [hin]; decide), List.append_nil]
          have Hend := Lib.hid hend
          clear hin hend
          gi_wp2_with fail
          refine ⟨fun _ h => (by cases h), ?_⟩
          gi_wp2_with fail
          refine bodyPost_ret (results_none rfl _ _ _) rfl ⟨⟨_, rfl⟩, .inl ⟨trivial, ?_⟩⟩
          rw [Hend.out]; exact HJ3.out
        | true =>
          have hst' : stepsL Um.first zs = (pre ++ [t]) ++ stepsL t (zs.drop (k + 1)) := by rw [Hst.out, Hdrop.out, Hstep.out, if_pos hin]; simp
          have Hst' := Lib.hid hst'
          obtain ⟨u1, u2, u3, u4⟩ : 0 ≤ t.1 ∧ t.1 ≤ 1000000000 ∧ 0 ≤ t.2.1 ∧ t.2.1 ≤ 1000000000 := by simpa [inl] using hin
          obtain ⟨fn, tmps, assign, body, hy, hR⟩ := HY.out pre t w3 (by rw [hst']; exact List.prefix_append _ _) HJ3.out
          clear hin hst'
          have cB3 := B3.c
          have fB3 := B3.f
          have lB3 := B3.lt
          gi_wp2_with fail
          refine hR.mono ?_
          rintro e W4 (⟨rfl, hJ4, hk4⟩ | ⟨rfl, hJx4⟩)
          · have hz4 : Ints W4 (some ⟨b, off, none⟩) len zs := Hz3.out.of_heap hk4.1 (fun hp b' off' e => hk4.2 b' (by injection e with e; injection e with e _; have := (Hz3.out.2 hp); obtain ⟨b2, o2, e2, l2, _⟩ := this; injection e2 with e2; injection e2 with e2 _; omega) (.inr ⟨hp, off', e⟩))
            have B4 : Cs W4 W.heap.size #[.int .i64 t.1, .int .i64 t.2.1, .int .i64 t.2.2.1, .int .i64 t.2.2.2] := B3.of_heap hk4.1 (hk4.2 _ B3.lt (.inl rfl))
            have HJ4 := Lib.hid hJ4
            have Hz4 := Lib.hid hz4
            clear hJ4 hz4 hk4
            clear cB3 fB3 lB3
            gi_wp2_with fail
            go_roundw
            case rel => exact ⟨k + 1, pre ++ [t], t, by omega, by go_num, Hst'.out, u1, u2, u3, u4, t5, t6, t7, t8, B4, Hz4.out, HJ4.out⟩
            case measure => simp [intOf]; omega
          · have HJx4 := Lib.hid hJx4
            clear hJx4
            gi_wp2_with fail
            refine bodyPost_ret (results_none rfl _ _ _) rfl ⟨⟨_, rfl⟩, .inr ⟨_, ?_, HJx4.out⟩⟩
            rw [Hst'.out]; exact List.prefix_append _ _
    · have hend : stepsL Um.first zs = pre := by
        have : k = len := by omega
        rw [Hst.out, List.drop_of_length_le (by rw [hzr.1]; omega)]
        simp [stepsL]
      gi_wp2_with fail
      go_end0
      exact ⟨⟨_, rfl⟩, .inl ⟨trivial, by rw [hend]; exact hJr⟩⟩

end Go.Proofs.YtkjoamindolonaaDoor
