/- UA10 UA9 UA11 UMath3 UA12 UA14 -/
import Derived.Test.YtminplfgadhnnaaGreatDoorSS02
import Derived.Shelf.RegionOpen
import Derived.Deep.DeepCutAuto
import Derived.Test.YtminplfgadhnnaaGreatDoorSS01
/- The walk of package unit's steps: what a path yields. -/
section
namespace Go.Proofs.YtminplfgadhnnaaGreatDoor
open Go.RowKit Go.Shelf
set_option linter.unusedSimpArgs false
set_option linter.unusedVariables false
open Um (frac S4 spanB spanE sp on St stepsL inl)
attribute [local go_sem] Oper.semAt_some

theorem Ints.of_heap {w w' : World} {A : Option Addr} {n : Nat} {zs : List Int} (h : Ints w A n zs) (hs : w.heap.size ≤ w'.heap.size) (hb : 0 < n → ∀ b off, A = some ⟨b, off, none⟩ → w'.heap[b]? = w.heap[b]?) : Ints w' A n zs := by
  refine ⟨h.1, fun hn => ?_⟩
  obtain ⟨b, off, rfl, hlt, hc⟩ := h.2 hn
  exact ⟨b, off, rfl, by omega, fun i hi => (World.cell?_of_block (w := w) (a := ⟨b, off + i, none⟩) (hb hn b off rfl)).trans (hc i hi)⟩

/-- what the rounds of a range over a path's steps keep -/
def KpS (A : Option Addr) (n B : Nat) (W W' : World) : Prop := W.heap.size ≤ W'.heap.size ∧ ∀ i, i < W.heap.size → (i = B ∨ (0 < n ∧ ∃ off, A = some ⟨i, off, none⟩)) → W'.heap[i]? = W.heap[i]?
theorem KpS.trans {A : Option Addr} {n B : Nat} {X Y Z : World} (h : KpS A n B X Y) (k : KpS A n B Y Z) : KpS A n B X Z :=
  ⟨Nat.le_trans h.1 k.1, fun i hi hb => (k.2 i (Nat.lt_of_lt_of_le hi h.1) hb).trans (h.2 i hi hb)⟩
theorem KpS.of_turns {A : Option Addr} {n B : Nat} {O : Nat → Prop} {X Y : World} (h : Turns O X Y) (hO : ∀ i, (i = B ∨ (0 < n ∧ ∃ off, A = some ⟨i, off, none⟩)) → ¬ O i) : KpS A n B X Y :=
  ⟨h.size, fun i hi hb => h.block i hi (hO i hb)⟩

/-- the package's first step -/
def FirstAt (w : World) : Prop := 0 < w.heap.size ∧ ∀ i, w.cell? ⟨0, i, none⟩ = (#[.int .i64 1, .int .i64 0, .int .i64 0, .int .i64 1] : Array Value)[i]?
theorem FirstAt.below {w w' : World} (h : FirstAt w) (hb : Below w.heap.size w w') : FirstAt w' := ⟨Nat.lt_of_lt_of_le h.1 hb.size, fun i => (hb.cell (p := ⟨_, i, none⟩) h.1).trans (h.2 i)⟩

theorem Cs.of_heap {w w' : World} {g : Nat} {cs : Array Value} (h : Cs w g cs) (hs : w.heap.size ≤ w'.heap.size) (hb : w'.heap[g]? = w.heap[g]?) : Cs w' g cs :=
  ⟨Nat.lt_of_lt_of_le h.1 hs, fun i => (World.cell?_of_block (w := w) (a := ⟨g, i, none⟩) hb).trans (h.2.1 i), fun i => (World.frozen?_of_block (w := w) (a := ⟨g, i, none⟩) hb).trans (h.2.2 i)⟩

theorem all_inl (t : St) : ([t.1, t.2.1].all fun x => !out 0 1000000000 x) = inl t := by
  rw [Bool.eq_iff_iff]
  simp [out, inl]
  omega

theorem turns_set4 {O : Nat → Prop} {w : World} {g : Nat} (x y z u : Value) (hg : O g) : Turns O w ((((w.setCell ⟨g, 0, none⟩ x).setCell ⟨g, 1, none⟩ y).setCell ⟨g, 2, none⟩ z).setCell ⟨g, 3, none⟩ u) :=
  (((Turns.setCell (p := ⟨g, 0, none⟩) x hg).trans (Turns.setCell (p := ⟨g, 1, none⟩) y hg)).trans (Turns.setCell (p := ⟨g, 2, none⟩) z hg)).trans (Turns.setCell (p := ⟨g, 3, none⟩) u hg)

set_option maxRecDepth 100000 in
set_option maxHeartbeats 1000000 in
theorem steps_in (n : Nat) (hn : 1 ≤ n) (Bs len cap : Nat) (A : Option Addr) (zs : List Int) (w : World) (hBs : w.cell? ⟨Bs, 0, none⟩ = some (.slice A len cap)) (hz : Ints w A len zs) (hlen : len ≤ 1000)
    (h0 : ∀ x ∈ zs, 0 ≤ x) (hfa : FirstAt w) :
    SeqList Fence.wide n Tryz.prog 148 #[.pointer (some ⟨Bs, 0, none⟩)] (fun x : St => #[.agg #[.int .i64 x.1, .int .i64 x.2.1, .int .i64 x.2.2.1, .int .i64 x.2.2.2]]) (fun B i => i = B) (KpS A len) (stepsL Um.first zs) (fun _ => True) w := by
  intro l J Jx W hW hJ hJx hY hJ0
  refine callsIn_of_wp Tryz.func148 rfl trivial ?_ rfl
  simp only [Tryz.ntmps148, List.size_toArray, List.length_cons, List.length_nil, Nat.reduceAdd, Nat.reduceSub, Array.replicate_succ, Array.replicate_zero, List.push_toArray, List.append_toArray, List.nil_append, List.cons_append]
  have hBsW := (hW.cell (p := ⟨Bs, 0, none⟩) (World.block_lt_of_cell? w _ hBs)).trans hBs
  have hzW := hz.below hW
  have hfW := (hfa.below hW).2
  have hBlt : Bs < W.heap.size := Nat.lt_of_lt_of_le (World.block_lt_of_cell? w _ hBs) hW.size
  have HA : Hid (∀ b off, 0 < len → A = some ⟨b, off, none⟩ → b < W.heap.size) := by
    intro b off h e
    obtain ⟨b', off', e', hl, _⟩ := hzW.2 h
    rw [e] at e'
    injection e' with e'
    injection e' with e'
    omega
  have HY := Lib.hid hY
  have HJ := Lib.hid hJ
  have HJx := Lib.hid hJx
  have HzW := Lib.hid hzW
  have H0 := Lib.hid h0
  clear hY hJ hJx hzW h0 hz hBs
  gi_wp2_with fail
  gi_loopw [9] (fun i wr => ∃ (k : Nat) (pre : List St) (s : St), k ≤ len ∧ i = .int .i64 k ∧ Hid (stepsL Um.first zs = pre ++ stepsL s (zs.drop k)) ∧ 0 ≤ s.1 ∧ s.1 ≤ 1000000000 ∧ 0 ≤ s.2.1 ∧ s.2.1 ≤ 1000000000 ∧ 0 ≤ s.2.2.1 ∧ s.2.2.1 ≤ 1000000000 ∧ 0 ≤ s.2.2.2 ∧ s.2.2.2 ≤ 1000000000 ∧
      Cs wr W.heap.size #[.int .i64 s.1, .int .i64 s.2.1, .int .i64 s.2.2.1, .int .i64 s.2.2.2] ∧ Ints wr A len zs ∧ J pre wr) (fun i _ => len - (intOf i).toNat)
  case atStart =>
    refine ⟨0, [], Um.first, Nat.zero_le _, rfl, rfl, by decide, by decide, by decide, by decide, by decide, by decide, by decide, by decide, ?_, HzW.out.alloc _, ?_⟩
    · exact Cs.new _ _ _ _ rfl
    · exact HJ.out [] W _ hJ0 (Turns.of_below (balloc (Below.refl _ _) _))
  case round =>
    obtain ⟨k, pre, s, hk, rfl, Hst, s1, s2, s3, s4, s5, s6, s7, s8, BS, hzr, hJr⟩ := hrel
    by_cases hlt : k < len
    · obtain ⟨b, off, rfl, hbl, hc⟩ := hzr.2 (by omega)
      have hbW := HA.out b off (by omega) rfl
      have hx := hc k hlt
      have hget : zs[k]? = some (zs.getD k 0) := by
        rw [List.getD_eq_getElem?_getD, List.getElem?_eq_getElem (by rw [hzr.1]; exact hlt)]; rfl
      have hxp := H0.out _ (List.mem_of_getElem? hget)
      have hdrop : zs.drop k = zs.getD k 0 :: zs.drop (k + 1) := by
        have hl : k < zs.length := by rw [hzr.1]; exact hlt
        rw [List.drop_eq_getElem_cons hl, List.getD_eq_getElem?_getD, List.getElem?_eq_getElem hl]; rfl
      have Hzr := Lib.hid hzr
      have HJr := Lib.hid hJr
      clear hc hget hzr hJr
      generalize zs.getD k 0 = x at *
      have Hdrop := Lib.hid hdrop
      clear hdrop
      have hstep : stepsL s (x :: zs.drop (k + 1)) = if 1000000000 < x then [] else if inl (on s x) = true then on s x :: stepsL (on s x) (zs.drop (k + 1)) else [] := rfl
      by_cases hbig : 1000000000 < x
      · have hend : stepsL Um.first zs = pre := by rw [Hst.out, Hdrop.out, hstep, if_pos hbig, List.append_nil]
        clear hstep
        gi_wp2_with fail
        refine bodyPost_ret (results_none rfl _ _ _) rfl ⟨⟨_, rfl⟩, .inl ⟨trivial, ?_⟩⟩
        rw [hend]; exact HJr.out
      · have hx2 : x ≤ 1000000000 := by omega
        have k1 : ∀ w', Calls Tryz.prog 149 #[.agg #[.int .i64 s.1, .int .i64 s.2.1, .int .i64 s.2.2.1, .int .i64 s.2.2.2], .int .i64 x] w' fun e w'' => e = .returned (.agg #[.int .i64 (on s x).1, .int .i64 (on s x).2.1, .int .i64 (on s x).2.2.1, .int .i64 (on s x).2.2.2]) ∧ Below w'.heap.size w' w'' :=
          fun w' => on_any s.1 s.2.1 s.2.2.1 s.2.2.2 x w' s1 s3 s5 s7 s2 s4 s6 s8 hxp hx2
        have e3 : (on s x).2.2.1 = s.1 := rfl
        have e4 : (on s x).2.2.2 = s.2.1 := rfl
        have t5 : 0 ≤ (on s x).2.2.1 := s1
        have t6 : (on s x).2.2.1 ≤ 1000000000 := s2
        have t7 : 0 ≤ (on s x).2.2.2 := s3
        have t8 : (on s x).2.2.2 ≤ 1000000000 := s4
        have Hstep : Hid (stepsL s (x :: zs.drop (k + 1)) = if inl (on s x) = true then on s x :: stepsL (on s x) (zs.drop (k + 1)) else []) := by
          show _ = _
          rw [hstep, if_neg hbig]
        clear hbig hstep e3 e4
        generalize on s x = t at *
        have k2 := fun W' A' hz => within_any 0 1000000000 A' 2 2 [t.1, t.2.1] W' hz (by omega)
        rw [all_inl t] at k2
        have cBS := BS.c
        have fBS := BS.f
        have lBS := BS.lt
        gi_wp2_with fail
        refine ⟨trivial, (callsIn_wide.2 (k1 _)).mono ?_⟩
        rintro e w1 ⟨rfl, hb1⟩
        clear cBS fBS lBS
        have B1 := BS.keep hb1
        have cB1 := B1.c
        have fB1 := B1.f
        have lB1 := B1.lt
        gi_wp2_with fail
        clear cB1 fB1 lB1
        have B2 := B1.set4 (.int .i64 t.1) (.int .i64 t.2.1) (.int .i64 t.2.2.1) (.int .i64 t.2.2.2)
        have T2 : Turns (fun i => i = W.heap.size) wr ((((w1.setCell ⟨W.heap.size, 0, none⟩ (.int .i64 t.1)).setCell ⟨W.heap.size, 1, none⟩ (.int .i64 t.2.1)).setCell ⟨W.heap.size, 2, none⟩ (.int .i64 t.2.2.1)).setCell ⟨W.heap.size, 3, none⟩ (.int .i64 t.2.2.2)) :=
          (Turns.of_below hb1).trans (turns_set4 _ _ _ _ rfl)
        have hsz2 : Hid (((((w1.setCell ⟨W.heap.size, 0, none⟩ (.int .i64 t.1)).setCell ⟨W.heap.size, 1, none⟩ (.int .i64 t.2.1)).setCell ⟨W.heap.size, 2, none⟩ (.int .i64 t.2.2.1)).setCell ⟨W.heap.size, 3, none⟩ (.int .i64 t.2.2.2)).heap.size = w1.heap.size) := by
          show _ = _
          simp [World.setCell]
        have hbK : ∀ b' off', some (⟨b, off, none⟩ : Addr) = some ⟨b', off', none⟩ → b' ≠ W.heap.size := by
          intro b' off' h
          injection h with h
          injection h with h _
          omega
        generalize ((((w1.setCell ⟨W.heap.size, 0, none⟩ (.int .i64 t.1)).setCell ⟨W.heap.size, 1, none⟩ (.int .i64 t.2.1)).setCell ⟨W.heap.size, 2, none⟩ (.int .i64 t.2.2.1)).setCell ⟨W.heap.size, 3, none⟩ (.int .i64 t.2.2.2)) = w2 at *
        refine ⟨trivial, (callsIn_wide.2 (k2 _ _ (Ints.new2 w2 _ _ _ _ hsz2.out))).mono ?_⟩
        rintro e w3 ⟨rfl, hb3⟩
        have T3 : Turns (fun i => i = W.heap.size) wr w3 := (T2.trans (Turns.of_below (balloc (Below.refl _ _) _))).trans (Turns.of_below hb3)
        have B3 := (B2.alloc (.cells #[.int .i64 t.1, .int .i64 t.2.1] 2)).keep hb3
        have hz3 : Ints w3 (some ⟨b, off, none⟩) len zs := Hzr.out.of_heap T3.size (fun _ b' off' h => T3.block b' (by injection h with h; injection h with h _; rw [← h]; exact hbl) (hbK b' off' h))
        have hJ3 : J pre w3 := HJ.out pre wr w3 HJr.out T3
        have Hz3 := Lib.hid hz3
        have HJ3 := Lib.hid hJ3
        clear hz3 hJ3 T2 T3 hsz2 k1 k2 hb1 hb3 B1 B2 hx
        cases hin : inl t with
        | false =>
          have hend : stepsL Um.first zs = pre := by rw [Hst.out, Hdrop.out, Hstep.out, if_neg (by rw [hin]; decide), List.append_nil]
          have Hend := Lib.hid hend
          clear hin hend
          gi_wp2_with fail
          refine ⟨fun _ h => (by cases h), ?_⟩
          gi_wp2_with fail
          refine bodyPost_ret (results_none rfl _ _ _) rfl ⟨⟨_, rfl⟩, .inl ⟨trivial, ?_⟩⟩
          rw [Hend.out]; exact HJ3.out
        | true =>
          have hst' : stepsL Um.first zs = (pre ++ [t]) ++ stepsL t (zs.drop (k + 1)) := by rw [Hst.out, Hdrop.out, Hstep.out, if_pos hin]; simp
          have Hst' := Lib.hid hst'
          obtain ⟨u1, u2, u3, u4⟩ : 0 ≤ t.1 ∧ t.1 ≤ 1000000000 ∧ 0 ≤ t.2.1 ∧ t.2.1 ≤ 1000000000 := by simpa [inl] using hin
          obtain ⟨fn, tmps, assign, body, hy, hR⟩ := HY.out pre t w3 (by rw [hst']; exact List.prefix_append _ _) HJ3.out
          clear hin hst'
          have cB3 := B3.c
          have fB3 := B3.f
          have lB3 := B3.lt
          gi_wp2_with fail
          refine hR.mono ?_
          rintro e W4 (⟨rfl, hJ4, hk4⟩ | ⟨rfl, hJx4⟩)
          · have hz4 : Ints W4 (some ⟨b, off, none⟩) len zs := Hz3.out.of_heap hk4.1 (fun hp b' off' e => hk4.2 b' (by injection e with e; injection e with e _; have := (Hz3.out.2 hp); obtain ⟨b2, o2, e2, l2, _⟩ := this; injection e2 with e2; injection e2 with e2 _; omega) (.inr ⟨hp, off', e⟩))
            have B4 : Cs W4 W.heap.size #[.int .i64 t.1, .int .i64 t.2.1, .int .i64 t.2.2.1, .int .i64 t.2.2.2] := B3.of_heap hk4.1 (hk4.2 _ B3.lt (.inl rfl))
            have HJ4 := Lib.hid hJ4
            have Hz4 := Lib.hid hz4
            clear hJ4 hz4 hk4
            clear cB3 fB3 lB3
            gi_wp2_with fail
            go_roundw
            case rel => exact ⟨k + 1, pre ++ [t], t, by omega, by go_num, Hst'.out, u1, u2, u3, u4, t5, t6, t7, t8, B4, Hz4.out, HJ4.out⟩
            case measure => simp [intOf]; omega
          · have HJx4 := Lib.hid hJx4
            clear hJx4
            gi_wp2_with fail
            refine bodyPost_ret (results_none rfl _ _ _) rfl ⟨⟨_, rfl⟩, .inr ⟨_, ?_, HJx4.out⟩⟩
            rw [Hst'.out]; exact List.prefix_append _ _
    · have hend : stepsL Um.first zs = pre := by
        have : k = len := by omega
        rw [Hst.out, List.drop_of_length_le (by rw [hzr.1]; omega)]
        simp [stepsL]
      gi_wp2_with fail
      go_end0
      exact ⟨⟨_, rfl⟩, .inl ⟨trivial, by rw [hend]; exact hJr⟩⟩

end Go.Proofs.YtminplfgadhnnaaGreatDoor
end

/- The walk of package unit's simplest. -/
section
namespace Go.Proofs.YtminplfgadhnnaaGreatDoor
open Go.RowKit Go.Shelf
set_option linter.unusedSimpArgs false
set_option linter.unusedVariables false
open Um (frac S4 spanB spanE sp)

/-- a slice of numbers is handed back -/
def RetInts (zs : List Int) (w : World) (e : Ending) (w' : World) : Prop := ∃ g c, e = .returned (.slice (some ⟨g, 0, none⟩) zs.length c) ∧ Ints w' (some ⟨g, 0, none⟩) zs.length zs ∧ zs.length ≤ c ∧ Below w.heap.size w w'

theorem RetInts.app {w wR : World} {x0 : Int} {L : List Int} {gr cr : Nat} (hI : Ints wR (some ⟨gr, 0, none⟩) (1 + L.length) ([x0] ++ L)) (hc : 1 + L.length ≤ cr) (hb : Below w.heap.size w wR) :
    RetInts (x0 :: L) w (.returned (.slice (some ⟨gr, 0, none⟩) (1 + L.length) cr)) wR := by
  rw [Nat.add_comm] at hI hc ⊢
  exact ⟨gr, cr, rfl, hI, hc, hb⟩

set_option maxRecDepth 100000 in
set_option maxHeartbeats 2000000 in
theorem simplest_any (k : Nat) : ∀ (a b c d : Int) (w : World), 1 ≤ a → a ≤ 1000000000 → 1 ≤ b → b ≤ 1000000000 → 1 ≤ c → c ≤ 1000000000 → 1 ≤ d → d ≤ 1000000000 → a * d ≤ c * b → b + d ≤ k → (sp k a b c d).length ≤ 70 →
    Calls Tryz.prog 46 #[.agg #[.int .i64 a, .int .i64 b], .agg #[.int .i64 c, .int .i64 d]] w (RetInts (sp k a b c d) w) := by
  induction k with
  | zero => intro a b c d w _ _ hb _ _ _ hd _ _ hk; omega
  | succ k ih =>
    intro a b c d w a1 a2 b1 b2 c1 c2 d1 d2 hle hk hlen
    have hdm := Int.mul_ediv_add_emod a b
    have hr0 := Int.emod_nonneg a (b := b) (by omega)
    have hr1 := Int.emod_lt_of_pos a (by omega : 0 < b)
    have hw0 : 0 ≤ a / b := Int.ediv_nonneg (by omega) (by omega)
    have hw1 : a / b ≤ a := Int.ediv_le_self _ (by omega)
    by_cases h0 : a % b = 0
    · have hsp : sp (k + 1) a b c d = [a / b] := by rw [sp, if_pos h0]
      rw [hsp]
      have e0 : (a % b == 0) = true := by simp [h0]
      clear hsp h0 ih hdm hlen hle
      go_enter Tryz.func46, Tryz.ntmps46
      go_wp2_with fail
      go_ret
      exact ⟨_, _, rfl, Ints.new1 _ _ _ _ (by simp), Nat.le_refl _, (by repeat (first | with_reducible exact Below.refl _ _ | with_reducible assumption | with_reducible refine balloc ?_ _ | with_reducible refine bdrewN ?_ _ | with_reducible refine Below.drew ?_ | (with_reducible refine bset ?_ ?_ _; rotate_left; focus (first | assumption | omega | (simp; done) | (simp; omega))) | with_reducible refine bstep ?_ (by assumption) | assumption))⟩
    · have e0 : (a % b == 0) = false := by simp [h0]
      have hm0 : 0 ≤ (a / b + 1) * d := Int.mul_nonneg (by omega) (by omega)
      have hm1 : (a / b + 1) * d ≤ (1000000000 + 1) * 1000000000 := Int.mul_le_mul (by omega) d2 (by omega) (by omega)
      by_cases h1 : (a / b + 1) * d ≤ c
      · have hsp : sp (k + 1) a b c d = [a / b + 1] := by rw [sp, if_neg h0, if_pos h1]
        rw [hsp]
        clear hsp h0 ih hdm hlen hle
        go_enter Tryz.func46, Tryz.ntmps46
        go_wp2_with fail
        go_ret
        exact ⟨_, _, rfl, Ints.new1 _ _ _ _ (by simp), Nat.le_refl _, (by repeat (first | with_reducible exact Below.refl _ _ | with_reducible assumption | with_reducible refine balloc ?_ _ | with_reducible refine bdrewN ?_ _ | with_reducible refine Below.drew ?_ | (with_reducible refine bset ?_ ?_ _; rotate_left; focus (first | assumption | omega | (simp; done) | (simp; omega))) | with_reducible refine bstep ?_ (by assumption) | assumption))⟩
      · have hsp : sp (k + 1) a b c d = a / b :: sp k d (c - a / b * d) b (a % b) := by rw [sp, if_neg h0, if_neg h1]
        rw [hsp] at hlen ⊢
        clear hsp
        have hac : a = a / b * b + a % b := by rw [Int.mul_comm]; omega
        have hrp : 1 ≤ a % b := by omega
        have hq0 : 0 ≤ a / b * d := Int.mul_nonneg hw0 (by omega)
        have hqc : a / b * d < c := by
          apply Um.lt_of_mul_lt (by omega : 0 < b)
          have e : a * d = a / b * d * b + a % b * d := by
            conv => lhs; rw [hac]
            simp only [Int.add_mul, Int.mul_add, Int.mul_assoc, Int.mul_comm, Int.mul_left_comm]
          have : 0 < a % b * d := Int.mul_pos (by omega) (by omega)
          omega
        have hcq : c < a / b * d + d := by rw [Int.add_mul] at h1; omega
        have key : d * (a % b) ≤ b * (c - a / b * d) := by
          have e : a * d = b * (a / b * d) + d * (a % b) := by
            conv => lhs; rw [hac]
            simp only [Int.add_mul, Int.mul_add, Int.mul_assoc, Int.mul_comm, Int.mul_left_comm]
          rw [Int.mul_sub]; rw [Int.mul_comm c b] at hle; omega
        have e1 : ¬ (a / b + 1) * d ≤ c := h1
        have hlt1 : c < (a / b + 1) * d := by omega
        have Hlen := Lib.hid hlen
        have Hkey := Lib.hid key
        have f1 : IntKind.i64.wrap (a / b * d) = a / b * d := IntWalk.i64_in _ (by omega)
        have f2 : IntKind.i64.wrap (c - a / b * d) = c - a / b * d := IntWalk.i64_in _ (by omega)
        have f3 : a.tmod b = a % b := Int.tmod_eq_emod_of_nonneg (by omega)
        have f4 : (b == 0) = false := by simp; omega
        have f5 : (b = 0) = False := by simp; omega
        clear h0 hlen hle hac hdm key h1 e1
        go_enter Tryz.func46, Tryz.ntmps46
        go_upto_region 6 with fail
        go_cut [6, 7] (fun s6 s7 wx => ∃ g6 g7 : Nat, s6 = .pointer (some ⟨g6, 0, none⟩) ∧ s7 = .pointer (some ⟨g7, 0, none⟩) ∧ Cs wx g6 #[.int .i64 (a % b), .int .i64 b] ∧ Cs wx g7 #[.int .i64 (c - a / b * d), .int .i64 d] ∧ Below w.heap.size w wx)
        case first =>
          obtain ⟨W, hW⟩ : ∃ W, ((w.alloc (.cells #[.int .i64 a, .int .i64 b] 41)).alloc (.cells #[.int .i64 c, .int .i64 d] 41)) = W := ⟨_, rfl⟩
          have A0 : Cs W w.heap.size #[.int .i64 a, .int .i64 b] := by rw [← hW]; exact (by repeat (first | with_reducible assumption | (with_reducible refine Cs.new _ _ _ _ ?_; first | rfl | (simp; done)) | with_reducible refine Cs.alloc ?_ _ | with_reducible refine Cs.drewN ?_ _ | with_reducible refine Cs.drew ?_ | with_reducible refine Cs.set4 ?_ _ _ _ _ | (with_reducible refine Cs.other4 ?_ ?_ _ _ _ _; rotate_left; focus (first | assumption | omega | (simp; done) | (simp; omega))) | with_reducible refine Cs.set2 ?_ _ _ | (with_reducible refine Cs.other2 ?_ ?_ _ _; rotate_left; focus (first | assumption | omega | (simp; done) | (simp; omega))) | (with_reducible refine Cs.other ?_ ?_ _; rotate_left; focus (first | assumption | omega | (simp; done) | (simp; omega))) | with_reducible refine Cs.keep ?_ (by assumption) | assumption))
          have A1 : Cs W (w.heap.size + 1) #[.int .i64 c, .int .i64 d] := by rw [← hW]; exact (by repeat (first | with_reducible assumption | (with_reducible refine Cs.new _ _ _ _ ?_; first | rfl | (simp; done)) | with_reducible refine Cs.alloc ?_ _ | with_reducible refine Cs.drewN ?_ _ | with_reducible refine Cs.drew ?_ | with_reducible refine Cs.set4 ?_ _ _ _ _ | (with_reducible refine Cs.other4 ?_ ?_ _ _ _ _; rotate_left; focus (first | assumption | omega | (simp; done) | (simp; omega))) | with_reducible refine Cs.set2 ?_ _ _ | (with_reducible refine Cs.other2 ?_ ?_ _ _; rotate_left; focus (first | assumption | omega | (simp; done) | (simp; omega))) | (with_reducible refine Cs.other ?_ ?_ _; rotate_left; focus (first | assumption | omega | (simp; done) | (simp; omega))) | with_reducible refine Cs.keep ?_ (by assumption) | assumption))
          have hbW : Below w.heap.size w W := by rw [← hW]; exact (by repeat (first | with_reducible exact Below.refl _ _ | with_reducible assumption | with_reducible refine balloc ?_ _ | with_reducible refine bdrewN ?_ _ | with_reducible refine Below.drew ?_ | (with_reducible refine bset ?_ ?_ _; rotate_left; focus (first | assumption | omega | (simp; done) | (simp; omega))) | with_reducible refine bstep ?_ (by assumption) | assumption))
          rw [hW]
          clear hW
          have cA0 := A0.c
          have fA0 := A0.f
          have lA0 := A0.lt
          have cA1 := A1.c
          have fA1 := A1.f
          have lA1 := A1.lt
          go_region_held3 (fun w' => w'.cell? ⟨w.heap.size, 0, none⟩ = some (.int .i64 a) ∧ w'.cell? ⟨w.heap.size, 1, none⟩ = some (.int .i64 b) ∧ w'.cell? ⟨w.heap.size + 1, 0, none⟩ = some (.int .i64 c) ∧ w'.cell? ⟨w.heap.size + 1, 1, none⟩ = some (.int .i64 d))
            (go_keep) (fail)
          all_goals (go_wp2_with fail; go_meet; exact ⟨_, _, rfl, rfl, (by repeat (first | with_reducible assumption | (with_reducible refine Cs.new _ _ _ _ ?_; first | rfl | (simp; done)) | with_reducible refine Cs.alloc ?_ _ | with_reducible refine Cs.drewN ?_ _ | with_reducible refine Cs.drew ?_ | with_reducible refine Cs.set4 ?_ _ _ _ _ | (with_reducible refine Cs.other4 ?_ ?_ _ _ _ _; rotate_left; focus (first | assumption | omega | (simp; done) | (simp; omega))) | with_reducible refine Cs.set2 ?_ _ _ | (with_reducible refine Cs.other2 ?_ ?_ _ _; rotate_left; focus (first | assumption | omega | (simp; done) | (simp; omega))) | (with_reducible refine Cs.other ?_ ?_ _; rotate_left; focus (first | assumption | omega | (simp; done) | (simp; omega))) | with_reducible refine Cs.keep ?_ (by assumption) | assumption)), (by repeat (first | with_reducible assumption | (with_reducible refine Cs.new _ _ _ _ ?_; first | rfl | (simp; done)) | with_reducible refine Cs.alloc ?_ _ | with_reducible refine Cs.drewN ?_ _ | with_reducible refine Cs.drew ?_ | with_reducible refine Cs.set4 ?_ _ _ _ _ | (with_reducible refine Cs.other4 ?_ ?_ _ _ _ _; rotate_left; focus (first | assumption | omega | (simp; done) | (simp; omega))) | with_reducible refine Cs.set2 ?_ _ _ | (with_reducible refine Cs.other2 ?_ ?_ _ _; rotate_left; focus (first | assumption | omega | (simp; done) | (simp; omega))) | (with_reducible refine Cs.other ?_ ?_ _; rotate_left; focus (first | assumption | omega | (simp; done) | (simp; omega))) | with_reducible refine Cs.keep ?_ (by assumption) | assumption)), (by repeat (first | with_reducible exact Below.refl _ _ | with_reducible assumption | with_reducible refine balloc ?_ _ | with_reducible refine bdrewN ?_ _ | with_reducible refine Below.drew ?_ | (with_reducible refine bset ?_ ?_ _; rotate_left; focus (first | assumption | omega | (simp; done) | (simp; omega))) | with_reducible refine bstep ?_ (by assumption) | assumption))⟩)
        case rest =>
          obtain ⟨g6, g7, rfl, rfl, Bn6, Bn7, hbx⟩ := hcut
          clear f1 f2 f3 f4 f5 e0 hlt1
          have kt7 := fun W => turned_any (c - a / b * d) d W
          have kt6 := fun W => turned_any (a % b) b W
          have ks := fun W => ih d (c - a / b * d) b (a % b) W d1 d2 (by omega) (by omega) b1 b2 hrp (by omega) Hkey.out (by omega) (by have := Hlen.out; simp at this; omega)
          have hl := Hlen.out
          simp only [List.length_cons] at hl
          have hpos : 0 < (sp k d (c - a / b * d) b (a % b)).length := by
            have h := Um.sp_canon k d (c - a / b * d) b (a % b) (by omega) (by omega) (by omega) Hkey.out (by omega)
            cases hsp : sp k d (c - a / b * d) b (a % b) with
            | nil => rw [hsp] at h; exact h.elim
            | cons x l => simp
          clear Hkey Hlen ih
          generalize sp k d (c - a / b * d) b (a % b) = L at *
          unfold RetInts at ks
          generalize hx0 : a / b = x0 at *
          generalize hq0' : c - x0 * d = y0 at *
          generalize hr0' : a % b = r0 at *
          clear hx0 hq0' hr0' hm0 hm1 hq0 hqc hcq hw0 hw1 hr0 hr1 hrp hk
          have cBn6 := Bn6.c
          have fBn6 := Bn6.f
          have lBn6 := Bn6.lt
          have cBn7 := Bn7.c
          have fBn7 := Bn7.f
          have lBn7 := Bn7.lt
          go_wp2_with fail
          go_region_held3 (fun w' => w'.cell? ⟨g6, 0, none⟩ = some (.int .i64 r0) ∧ w'.cell? ⟨g6, 1, none⟩ = some (.int .i64 b) ∧ w'.cell? ⟨g7, 0, none⟩ = some (.int .i64 y0) ∧ w'.cell? ⟨g7, 1, none⟩ = some (.int .i64 d))
            (first | exact ⟨Bn6.c 0, Bn6.c 1, Bn7.c 0, Bn7.c 1⟩ | exact ⟨(Bn6.alloc _).c 0, (Bn6.alloc _).c 1, (Bn7.alloc _).c 0, (Bn7.alloc _).c 1⟩ | go_keep)
            (first
              | (go_at_call_of 103 (Value.agg #[.int .i64 y0, .int .i64 d]); refine (kt7 _).mono ?_; rintro e w1 ⟨rfl, hb1⟩; have Bn6 : Cs w1 g6 #[.int .i64 r0, .int .i64 b] := (by repeat (first | with_reducible assumption | (with_reducible refine Cs.new _ _ _ _ ?_; first | rfl | (simp; done)) | with_reducible refine Cs.alloc ?_ _ | with_reducible refine Cs.drewN ?_ _ | with_reducible refine Cs.drew ?_ | with_reducible refine Cs.set4 ?_ _ _ _ _ | (with_reducible refine Cs.other4 ?_ ?_ _ _ _ _; rotate_left; focus (first | assumption | omega | (simp; done) | (simp; omega))) | with_reducible refine Cs.set2 ?_ _ _ | (with_reducible refine Cs.other2 ?_ ?_ _ _; rotate_left; focus (first | assumption | omega | (simp; done) | (simp; omega))) | (with_reducible refine Cs.other ?_ ?_ _; rotate_left; focus (first | assumption | omega | (simp; done) | (simp; omega))) | with_reducible refine Cs.keep ?_ (by assumption) | assumption)); have Bn7 : Cs w1 g7 #[.int .i64 y0, .int .i64 d] := (by repeat (first | with_reducible assumption | (with_reducible refine Cs.new _ _ _ _ ?_; first | rfl | (simp; done)) | with_reducible refine Cs.alloc ?_ _ | with_reducible refine Cs.drewN ?_ _ | with_reducible refine Cs.drew ?_ | with_reducible refine Cs.set4 ?_ _ _ _ _ | (with_reducible refine Cs.other4 ?_ ?_ _ _ _ _; rotate_left; focus (first | assumption | omega | (simp; done) | (simp; omega))) | with_reducible refine Cs.set2 ?_ _ _ | (with_reducible refine Cs.other2 ?_ ?_ _ _; rotate_left; focus (first | assumption | omega | (simp; done) | (simp; omega))) | (with_reducible refine Cs.other ?_ ?_ _; rotate_left; focus (first | assumption | omega | (simp; done) | (simp; omega))) | with_reducible refine Cs.keep ?_ (by assumption) | assumption)))
              | (go_at_call_of 103 (Value.agg #[.int .i64 r0, .int .i64 b]); refine (kt6 _).mono ?_; rintro e w1 ⟨rfl, hb1⟩; have Bn6 : Cs w1 g6 #[.int .i64 r0, .int .i64 b] := (by repeat (first | with_reducible assumption | (with_reducible refine Cs.new _ _ _ _ ?_; first | rfl | (simp; done)) | with_reducible refine Cs.alloc ?_ _ | with_reducible refine Cs.drewN ?_ _ | with_reducible refine Cs.drew ?_ | with_reducible refine Cs.set4 ?_ _ _ _ _ | (with_reducible refine Cs.other4 ?_ ?_ _ _ _ _; rotate_left; focus (first | assumption | omega | (simp; done) | (simp; omega))) | with_reducible refine Cs.set2 ?_ _ _ | (with_reducible refine Cs.other2 ?_ ?_ _ _; rotate_left; focus (first | assumption | omega | (simp; done) | (simp; omega))) | (with_reducible refine Cs.other ?_ ?_ _; rotate_left; focus (first | assumption | omega | (simp; done) | (simp; omega))) | with_reducible refine Cs.keep ?_ (by assumption) | assumption)); have Bn7 : Cs w1 g7 #[.int .i64 y0, .int .i64 d] := (by repeat (first | with_reducible assumption | (with_reducible refine Cs.new _ _ _ _ ?_; first | rfl | (simp; done)) | with_reducible refine Cs.alloc ?_ _ | with_reducible refine Cs.drewN ?_ _ | with_reducible refine Cs.drew ?_ | with_reducible refine Cs.set4 ?_ _ _ _ _ | (with_reducible refine Cs.other4 ?_ ?_ _ _ _ _; rotate_left; focus (first | assumption | omega | (simp; done) | (simp; omega))) | with_reducible refine Cs.set2 ?_ _ _ | (with_reducible refine Cs.other2 ?_ ?_ _ _; rotate_left; focus (first | assumption | omega | (simp; done) | (simp; omega))) | (with_reducible refine Cs.other ?_ ?_ _; rotate_left; focus (first | assumption | omega | (simp; done) | (simp; omega))) | with_reducible refine Cs.keep ?_ (by assumption) | assumption)))
              | (go_at_call 46; refine (ks _).mono ?_; rintro e w1 ⟨g, cc, rfl, hI, hcc, hb1⟩; have Bn6 : Cs w1 g6 #[.int .i64 r0, .int .i64 b] := (by repeat (first | with_reducible assumption | (with_reducible refine Cs.new _ _ _ _ ?_; first | rfl | (simp; done)) | with_reducible refine Cs.alloc ?_ _ | with_reducible refine Cs.drewN ?_ _ | with_reducible refine Cs.drew ?_ | with_reducible refine Cs.set4 ?_ _ _ _ _ | (with_reducible refine Cs.other4 ?_ ?_ _ _ _ _; rotate_left; focus (first | assumption | omega | (simp; done) | (simp; omega))) | with_reducible refine Cs.set2 ?_ _ _ | (with_reducible refine Cs.other2 ?_ ?_ _ _; rotate_left; focus (first | assumption | omega | (simp; done) | (simp; omega))) | (with_reducible refine Cs.other ?_ ?_ _; rotate_left; focus (first | assumption | omega | (simp; done) | (simp; omega))) | with_reducible refine Cs.keep ?_ (by assumption) | assumption)); have Bn7 : Cs w1 g7 #[.int .i64 y0, .int .i64 d] := (by repeat (first | with_reducible assumption | (with_reducible refine Cs.new _ _ _ _ ?_; first | rfl | (simp; done)) | with_reducible refine Cs.alloc ?_ _ | with_reducible refine Cs.drewN ?_ _ | with_reducible refine Cs.drew ?_ | with_reducible refine Cs.set4 ?_ _ _ _ _ | (with_reducible refine Cs.other4 ?_ ?_ _ _ _ _; rotate_left; focus (first | assumption | omega | (simp; done) | (simp; omega))) | with_reducible refine Cs.set2 ?_ _ _ | (with_reducible refine Cs.other2 ?_ ?_ _ _; rotate_left; focus (first | assumption | omega | (simp; done) | (simp; omega))) | (with_reducible refine Cs.other ?_ ?_ _; rotate_left; focus (first | assumption | omega | (simp; done) | (simp; omega))) | with_reducible refine Cs.keep ?_ (by assumption) | assumption)))
              | (refine step_appI (by rfl) _ _ (by rfl) _ 1 1 [x0] (by rfl) (by repeat (first | with_reducible assumption | (with_reducible refine Ints.new1 _ _ _ _ ?_; first | rfl | (simp; done)) | (with_reducible refine Ints.new2 _ _ _ _ _ ?_; first | rfl | (simp; done)) | with_reducible refine Ints.alloc ?_ _ | with_reducible refine Ints.drewN ?_ _ | with_reducible refine Ints.drew ?_ | with_reducible refine Ints.below ?_ (by assumption) | assumption)) (by simp) _ L.length _ L (by rfl) (by repeat (first | with_reducible assumption | (with_reducible refine Ints.new1 _ _ _ _ ?_; first | rfl | (simp; done)) | (with_reducible refine Ints.new2 _ _ _ _ _ ?_; first | rfl | (simp; done)) | with_reducible refine Ints.alloc ?_ _ | with_reducible refine Ints.drewN ?_ _ | with_reducible refine Ints.drew ?_ | with_reducible refine Ints.below ?_ (by assumption) | assumption)) hpos (by omega) (by omega) ?_; intro gr cr wR hIR hcR hbR; have Bn6 : Cs wR g6 #[.int .i64 r0, .int .i64 b] := (by repeat (first | with_reducible assumption | (with_reducible refine Cs.new _ _ _ _ ?_; first | rfl | (simp; done)) | with_reducible refine Cs.alloc ?_ _ | with_reducible refine Cs.drewN ?_ _ | with_reducible refine Cs.drew ?_ | with_reducible refine Cs.set4 ?_ _ _ _ _ | (with_reducible refine Cs.other4 ?_ ?_ _ _ _ _; rotate_left; focus (first | assumption | omega | (simp; done) | (simp; omega))) | with_reducible refine Cs.set2 ?_ _ _ | (with_reducible refine Cs.other2 ?_ ?_ _ _; rotate_left; focus (first | assumption | omega | (simp; done) | (simp; omega))) | (with_reducible refine Cs.other ?_ ?_ _; rotate_left; focus (first | assumption | omega | (simp; done) | (simp; omega))) | with_reducible refine Cs.keep ?_ (by assumption) | assumption)); have Bn7 : Cs wR g7 #[.int .i64 y0, .int .i64 d] := (by repeat (first | with_reducible assumption | (with_reducible refine Cs.new _ _ _ _ ?_; first | rfl | (simp; done)) | with_reducible refine Cs.alloc ?_ _ | with_reducible refine Cs.drewN ?_ _ | with_reducible refine Cs.drew ?_ | with_reducible refine Cs.set4 ?_ _ _ _ _ | (with_reducible refine Cs.other4 ?_ ?_ _ _ _ _; rotate_left; focus (first | assumption | omega | (simp; done) | (simp; omega))) | with_reducible refine Cs.set2 ?_ _ _ | (with_reducible refine Cs.other2 ?_ ?_ _ _; rotate_left; focus (first | assumption | omega | (simp; done) | (simp; omega))) | (with_reducible refine Cs.other ?_ ?_ _; rotate_left; focus (first | assumption | omega | (simp; done) | (simp; omega))) | with_reducible refine Cs.keep ?_ (by assumption) | assumption))))
          all_goals (go_wp2_with fail; go_ret; exact RetInts.app hIR hcR (by repeat (first | with_reducible exact Below.refl _ _ | with_reducible assumption | with_reducible refine balloc ?_ _ | with_reducible refine bdrewN ?_ _ | with_reducible refine Below.drew ?_ | (with_reducible refine bset ?_ ?_ _; rotate_left; focus (first | assumption | omega | (simp; done) | (simp; omega))) | with_reducible refine bstep ?_ (by assumption) | assumption)))

end Go.Proofs.YtminplfgadhnnaaGreatDoor
end

/- The walk of package unit's last, Simplest, Proof. -/
section
namespace Go.Proofs.YtminplfgadhnnaaGreatDoor
open Go.RowKit Go.Shelf
set_option linter.unusedSimpArgs false
set_option linter.unusedVariables false
open Um (frac S4 spanB spanE sp on St stepsL inl)
attribute [local go_sem] Oper.semAt_some

/-- the last step of some, or the first one -/
def lastSt (l : List St) : St := l.getLastD Um.first
theorem lastSt_concat (l : List St) (x : St) : lastSt (l ++ [x]) = x := by unfold lastSt; rw [List.getLastD_concat]

theorem Cs.turns {A B : World} {O : Nat → Prop} {g : Nat} {cs : Array Value} (h : Cs A g cs) (ht : Turns O A B) (hg : ¬ O g) : Cs B g cs := h.of_heap ht.size (ht.block g h.1 hg)

set_option maxHeartbeats 400000 in
theorem steps_any (A : Option Addr) (n c : Nat) (w : World) :
    Calls Tryz.prog 102 #[.slice A n c] w fun e w' => e = .returned (.func (.func 148) #[] #[.pointer (some ⟨w.heap.size, 0, none⟩)]) ∧ w.alloc (.cells #[.slice A n c] 22) = w' := by
  go_enter Tryz.func102, Tryz.ntmps102
  go_wp2_with fail
  go_ret
  exact ⟨rfl, rfl⟩

set_option maxRecDepth 100000 in
set_option maxHeartbeats 1000000 in
theorem last_any (A : Option Addr) (len cap : Nat) (zs : List Int) (w : World) (hz : Ints w A len zs) (hlen : len ≤ 1000) (h0 : ∀ x ∈ zs, 0 ≤ x) (hfa : FirstAt w) :
    Calls Tryz.prog 45 #[.slice A len cap] w fun e w' => e = .returned (.agg #[.int .i64 (lastSt (stepsL Um.first zs)).1, .int .i64 (lastSt (stepsL Um.first zs)).2.1, .int .i64 (lastSt (stepsL Um.first zs)).2.2.1, .int .i64 (lastSt (stepsL Um.first zs)).2.2.2]) ∧ Below w.heap.size w w' := by
  refine (callsIn_wide (n := 6)).1 ?_
  refine callsIn_of_wp_marks Tryz.func45 rfl trivial ?_ rfl
  simp only [Tryz.ntmps45, List.size_toArray, List.length_cons, List.length_nil, Nat.reduceAdd, Nat.reduceSub, Array.replicate_succ, Array.replicate_zero, List.push_toArray, List.append_toArray, List.nil_append, List.cons_append]
  have hf := hfa.2
  have hfl := hfa.1
  have Hz := Lib.hid hz
  have H0 := Lib.hid h0
  have Hfa := Lib.hid hfa
  clear hz h0 hfa
  gi_wp2_with fail
  refine ⟨trivial, (callsIn_wide.2 (steps_any _ _ _ _)).mono ?_⟩
  rintro e w1 ⟨rfl, rfl⟩
  gi_wp2_with fail
  obtain ⟨Wl, hWl⟩ : ∃ Wl, (((w.alloc (.cells #[.int .i64 0, .int .i64 0, .int .i64 0, .int .i64 0] 95)).alloc (.cells #[.int .i64 1, .int .i64 0, .int .i64 0, .int .i64 1] 95)).alloc (.cells #[.slice A len cap] 22)) = Wl := ⟨_, rfl⟩
  have Br : Cs Wl w.heap.size #[.int .i64 0, .int .i64 0, .int .i64 0, .int .i64 0] := by rw [← hWl]; exact (by repeat (first | with_reducible assumption | (with_reducible refine Cs.new _ _ _ _ ?_; first | rfl | (simp; done)) | with_reducible refine Cs.alloc ?_ _ | with_reducible refine Cs.drewN ?_ _ | with_reducible refine Cs.drew ?_ | with_reducible refine Cs.set4 ?_ _ _ _ _ | (with_reducible refine Cs.other4 ?_ ?_ _ _ _ _; rotate_left; focus (first | assumption | omega | (simp; done) | (simp; omega))) | with_reducible refine Cs.set2 ?_ _ _ | (with_reducible refine Cs.other2 ?_ ?_ _ _; rotate_left; focus (first | assumption | omega | (simp; done) | (simp; omega))) | (with_reducible refine Cs.other ?_ ?_ _; rotate_left; focus (first | assumption | omega | (simp; done) | (simp; omega))) | with_reducible refine Cs.keep ?_ (by assumption) | assumption))
  have Bo : Cs Wl (w.heap.size + 1) #[.int .i64 1, .int .i64 0, .int .i64 0, .int .i64 1] := by rw [← hWl]; exact (by repeat (first | with_reducible assumption | (with_reducible refine Cs.new _ _ _ _ ?_; first | rfl | (simp; done)) | with_reducible refine Cs.alloc ?_ _ | with_reducible refine Cs.drewN ?_ _ | with_reducible refine Cs.drew ?_ | with_reducible refine Cs.set4 ?_ _ _ _ _ | (with_reducible refine Cs.other4 ?_ ?_ _ _ _ _; rotate_left; focus (first | assumption | omega | (simp; done) | (simp; omega))) | with_reducible refine Cs.set2 ?_ _ _ | (with_reducible refine Cs.other2 ?_ ?_ _ _; rotate_left; focus (first | assumption | omega | (simp; done) | (simp; omega))) | (with_reducible refine Cs.other ?_ ?_ _; rotate_left; focus (first | assumption | omega | (simp; done) | (simp; omega))) | with_reducible refine Cs.keep ?_ (by assumption) | assumption))
  have hbox : Wl.cell? ⟨w.heap.size + 1 + 1, 0, none⟩ = some (.slice A len cap) := by rw [← hWl]; exact ((Cs.new _ (w.heap.size + 1 + 1) #[.slice A len cap] 22 (by simp)).c 0)
  have hbl : Below w.heap.size w Wl := by rw [← hWl]; exact (by repeat (first | with_reducible exact Below.refl _ _ | with_reducible assumption | with_reducible refine balloc ?_ _ | with_reducible refine bdrewN ?_ _ | with_reducible refine Below.drew ?_ | (with_reducible refine bset ?_ ?_ _; rotate_left; focus (first | assumption | omega | (simp; done) | (simp; omega))) | with_reducible refine bstep ?_ (by assumption) | assumption))
  have hsz : Wl.heap.size = w.heap.size + 3 := by rw [← hWl]; simp
  rw [hWl]
  clear hWl
  have HA : ∀ b off, 0 < len → A = some ⟨b, off, none⟩ → b < w.heap.size := by
    intro b off h e
    obtain ⟨b', off', e', hl, _⟩ := Hz.out.2 h
    rw [e] at e'
    injection e' with e'
    injection e' with e'
    omega
  obtain ⟨I, hIdef⟩ : ∃ I : List St → World → Prop, I = fun pre W => Cs W w.heap.size #[.int .i64 0, .int .i64 0, .int .i64 0, .int .i64 0] ∧ Cs W (w.heap.size + 1) #[.int .i64 (lastSt pre).1, .int .i64 (lastSt pre).2.1, .int .i64 (lastSt pre).2.2.1, .int .i64 (lastSt pre).2.2.2] ∧ Below w.heap.size w W := ⟨_, rfl⟩
  have hI : Bears (fun i => (i = Wl.heap.size + 2) ∨ i = Wl.heap.size + 1) I := by
    intro pre W W' h ht
    rw [hIdef] at h ⊢
    exact ⟨h.1.turns ht (fun k => by rcases k with k | k <;> omega), h.2.1.turns ht (fun k => by rcases k with k | k <;> omega), Turns.below h.2.2 ht (fun i k => by rcases k with k | k <;> omega) (by have := h.1.lt; omega)⟩
  have hK1 : ∀ i, (i = Wl.heap.size + 2 ∨ (0 < len ∧ ∃ off, A = some ⟨i, off, none⟩)) → ¬ (i = Wl.heap.size + 1) := by
    rintro i (h | ⟨hp, off, e⟩)
    · omega
    · have := HA i off hp e
      omega
  have hK2 : ∀ i, (i = Wl.heap.size + 2 ∨ (0 < len ∧ ∃ off, A = some ⟨i, off, none⟩)) → ¬ (i = w.heap.size + 1) := by
    rintro i (h | ⟨hp, off, e⟩)
    · omega
    · have := HA i off hp e
      omega
  refine wpIn_rangeList rfl (by omega) (gf := 148) (lb := #[.pointer (some ⟨w.heap.size + 1 + 1, 0, none⟩)]) rfl trivial (enters_of Tryz.func148 (by kernel_rfl) rfl)
    (steps_in 5 (by omega) (w.heap.size + 1 + 1) len cap A zs Wl hbox (Hz.out.below hbl) hlen H0.out (Hfa.out.below hbl))
    (fun i hi => by have hi' : i = Wl.heap.size + 2 := hi; omega) (fun h1 h2 => h1.trans h2)
    (fun W o' => KpS.of_turns (O := fun i => i = Wl.heap.size + 1) (Turns.putObj o' rfl) hK1) (fun _ _ _ => trivial) (Below.refl _ _) (fun _ => rfl)
    I (fun _ _ _ => False) hI (fun _ _ _ _ h _ => h.elim) (by rw [hIdef]; exact ⟨Br, Bo, hbl⟩)
    (fun pre x a' W => ∃ b4 : Nat, Wl.heap.size + 2 ≤ b4 ∧ Cs W b4 #[.int .i64 x.1, .int .i64 x.2.1, .int .i64 x.2.2.1, .int .i64 x.2.2.2] ∧ I pre W ∧
      a' = { tmps := #[.slice A len cap, undef, .pointer (some ⟨w.heap.size, 0, none⟩), .pointer (some ⟨w.heap.size + 1, 0, none⟩), .pointer (some ⟨b4, 0, none⟩), .agg #[.int .i64 1, .int .i64 0, .int .i64 0, .int .i64 1], .slice A len cap, .func (.func 148) #[] #[.pointer (some ⟨w.heap.size + 1 + 1, 0, none⟩)], .agg #[.int .i64 x.1, .int .i64 x.2.1, .int .i64 x.2.2.1, .int .i64 x.2.2.2], undef, undef], defers := [] })
    ?hax ?assign ?body ?done ?stop
  case hax =>
    rintro pre x a' W o' ⟨b4, h4, B4, hi, rfl⟩
    exact ⟨b4, h4, B4.turns (O := fun i => i = Wl.heap.size + 1) (Turns.putObj o' rfl) (fun k => by have k' : b4 = Wl.heap.size + 1 := k; omega), hI _ _ _ hi (Turns.putObj o' (.inr rfl)), rfl⟩
  case assign =>
    intro l pre x W K hpx hi hW hK
    gi_wp2_with fail
    have T : Turns (fun _ => False) W (W.alloc (.cells #[.int .i64 x.1, .int .i64 x.2.1, .int .i64 x.2.2.1, .int .i64 x.2.2.2] 95)) := Turns.of_below (balloc (Below.refl _ _) _)
    exact hK _ _ (Keeps2.of_turns T id id hW) (KpS.of_turns T (fun _ _ h => h)) ⟨W.heap.size, hW, Cs.new _ _ _ _ rfl, hI _ _ _ hi (T.mono (fun _ h => h.elim)), rfl⟩
  case body =>
    rintro l pre x a' W hpx ⟨b4, h4, B4, hi, rfl⟩ hW
    have hi' := hi
    rw [hIdef] at hi'
    obtain ⟨hi1, hi2, hi3⟩ := hi'
    have T := turns_set4 (O := fun i => i = w.heap.size + 1) (w := W) (g := w.heap.size + 1) (.int .i64 x.1) (.int .i64 x.2.1) (.int .i64 x.2.2.1) (.int .i64 x.2.2.2) rfl
    have hpost : I (pre ++ [x]) ((((W.setCell ⟨w.heap.size + 1, 0, none⟩ (.int .i64 x.1)).setCell ⟨w.heap.size + 1, 1, none⟩ (.int .i64 x.2.1)).setCell ⟨w.heap.size + 1, 2, none⟩ (.int .i64 x.2.2.1)).setCell ⟨w.heap.size + 1, 3, none⟩ (.int .i64 x.2.2.2)) := by
      rw [hIdef]
      refine ⟨hi1.other4 (by omega) _ _ _ _, ?_, bset4 hi3 (by omega) _ _ _ _⟩
      rw [lastSt_concat]
      exact hi2.set4 _ _ _ _
    have Hpost := Lib.hid hpost
    have hT := Lib.hid T
    clear hpost T
    have cB4 := B4.c
    have fB4 := B4.f
    have lB4 := B4.lt
    have chi2 := hi2.c
    have fhi2 := hi2.f
    have lhi2 := hi2.lt
    gi_wp2_with fail
    exact ⟨Keeps2.of_turns hT.out (fun k => by have k' : Wl.heap.size = w.heap.size + 1 := k; omega) (fun k => by have k' : Wl.heap.size + 1 = w.heap.size + 1 := k; omega) hW, KpS.of_turns hT.out hK2, Hpost.out⟩
  case done =>
    intro W _ hi hD
    rw [hIdef] at hi
    obtain ⟨hi1, hi2, hi3⟩ := hi
    generalize hr : lastSt (stepsL Um.first zs) = r at *
    have Hr := Lib.hid hr
    clear hr
    have T := turns_set4 (O := fun i => i = w.heap.size) (w := W) (g := w.heap.size) (.int .i64 r.1) (.int .i64 r.2.1) (.int .i64 r.2.2.1) (.int .i64 r.2.2.2) rfl
    have hD5 := (T.block Wl.heap.size (Array.getElem?_eq_some_iff.1 hD).1 (fun k => by have k' : Wl.heap.size = w.heap.size := k; omega)).trans hD
    have B5 := hi1.set4 (.int .i64 r.1) (.int .i64 r.2.1) (.int .i64 r.2.2.1) (.int .i64 r.2.2.2)
    have hb5 := bset4 hi3 (Nat.le_refl w.heap.size) (.int .i64 r.1) (.int .i64 r.2.1) (.int .i64 r.2.2.1) (.int .i64 r.2.2.2)
    have HD5 := Lib.hid hD5
    have Hb5 := Lib.hid hb5
    clear T hD5 hb5 hD
    have chi1 := hi1.c
    have fhi1 := hi1.f
    have lhi1 := hi1.lt
    have chi2 := hi2.c
    have fhi2 := hi2.f
    have lhi2 := hi2.lt
    gi_wp2_with fail
    clear chi1 fhi1 lhi1 chi2 fhi2 lhi2
    generalize ((((W.setCell ⟨w.heap.size, 0, none⟩ (.int .i64 r.1)).setCell ⟨w.heap.size, 1, none⟩ (.int .i64 r.2.1)).setCell ⟨w.heap.size, 2, none⟩ (.int .i64 r.2.2.1)).setCell ⟨w.heap.size, 3, none⟩ (.int .i64 r.2.2.2)) = W5 at *
    have T6 : Turns (fun i => i = Wl.heap.size) W5 (W5.putObj Wl.heap.size (.deferred none)) := Turns.putObj _ rfl
    have B6 := B5.turns T6 (fun k => by have k' : w.heap.size = Wl.heap.size := k; omega)
    have hb6 := Turns.below Hb5.out T6 (fun i k => by have k' : i = Wl.heap.size := k; omega) (by have := B5.lt; omega)
    refine ⟨by simp, .inl ⟨_, _, rfl, run_takeDeferred HD5.out, ?_⟩⟩
    have c6 := B6.c
    exact ⟨.agg #[.int .i64 r.1, .int .i64 r.2.1, .int .i64 r.2.2.1, .int .i64 r.2.2.2], by simp [results, Tryz.results45, go_sem, c6], by rw [Hr.out], hb6⟩
  case stop => intro c pre W _ h; exact h.elim

end Go.Proofs.YtminplfgadhnnaaGreatDoor
end

/- Plain definitions of what package unit's Simplest, Proof, CheckProof compute. -/
section
set_option linter.unusedSimpArgs false
set_option linter.unusedVariables false
namespace Um

/-- the path of the simplest fraction of a span -/
def best (s : S4) : List Int := sp (s.2.1 + s.2.2.2).toNat s.1 s.2.1 s.2.2.1 s.2.2.2

structure Best (s : S4) (l : List Int) : Prop where
  can : canon l
  len : l.length ≤ 60
  simp : Simp s.1 s.2.1 s.2.2.1 s.2.2.2 (ev l).1 (ev l).2
  n : (ev l).1 ≤ 1000000000
  m : (ev l).2 ≤ 1000000000
  last : (stepsL first l).getLastD first = fw first l
  pos : ∀ x ∈ l, 0 ≤ x
  x0 : (fw first l).1 = (ev l).1
  x1 : (fw first l).2.1 = (ev l).2
  p0 : 0 ≤ (fw first l).2.2.1
  p1 : 0 ≤ (fw first l).2.2.2
  q0 : (fw first l).2.2.1 ≤ (fw first l).1
  q1 : (fw first l).2.2.2 ≤ (fw first l).2.1

theorem canon_pos (l : List Int) (h : canon l) : ∀ x ∈ l, 0 ≤ x := by
  obtain ⟨h1, h2, h3⟩ := canon_ge l h
  intro x hx
  cases l with
  | nil => exact absurd rfl h1
  | cons y l =>
    rcases List.mem_cons.1 hx with e | e
    · exact h2 x (by rw [e]; rfl)
    · have := h3 x e; omega

theorem best_ok (s : S4) (h : spanB s = true) : Best s (best s) := by
  obtain ⟨h1, h2, h3⟩ := (spanB_iff s).1 h
  have b1 := frac_bd h1
  have b2 := frac_bd h2
  have hk : s.2.1 + s.2.2.2 ≤ ((s.2.1 + s.2.2.2).toNat : Int) := by omega
  have hs := sp_simp (s.2.1 + s.2.2.2).toNat s.1 s.2.1 s.2.2.1 s.2.2.2 (by omega) (by omega) (by omega) (by omega) h3 hk
  have hc := sp_canon (s.2.1 + s.2.2.2).toNat s.1 s.2.1 s.2.2.1 s.2.2.2 (by omega) (by omega) (by omega) h3 hk
  have hm := hs.min s.1 s.2.1 (by omega) (by omega) (Int.le_refl _) h3
  obtain ⟨g1, g2, g3⟩ := canon_ge _ hc
  obtain ⟨c1, c2, c3, c4⟩ := canon_parts _ hc
  obtain ⟨f1, f2⟩ := fw_first (sp (s.2.1 + s.2.2.2).toNat s.1 s.2.1 s.2.2.1 s.2.2.2)
  unfold best
  exact ⟨hc, canon_len _ hc (by omega), hs, by omega, by omega, last_first _ g1 g2 g3 (by omega) (by omega), canon_pos _ hc, f1, f2, c1, c2, c3, c4⟩

/-- a proof out of a last step -/
def parts (x : St) : S4 := if (x.1 - x.2.2.1) * x.2.2.2 < x.2.2.1 * (x.2.1 - x.2.2.2) then (x.1 - x.2.2.1, x.2.1 - x.2.2.2, x.2.2.1, x.2.2.2) else (x.2.2.1, x.2.2.2, x.1 - x.2.2.1, x.2.1 - x.2.2.2)

/-- the bound of a proof, and the error -/
def checkP (s p : S4) : Int × Int :=
  if spanB s = false then (0, 2)
  else if ¬ (0 ≤ p.1 ∧ p.1 ≤ 1000000000 ∧ 0 ≤ p.2.2.2 ∧ p.2.2.2 ≤ 1000000000 ∧ 1 ≤ p.2.1 ∧ p.2.1 ≤ 1000000000 ∧ 1 ≤ p.2.2.1 ∧ p.2.2.1 ≤ 1000000000) then (0, 3)
  else if ¬ (p.1 * s.2.1 < s.1 * p.2.1 ∧ s.2.2.1 * p.2.2.2 < p.2.2.1 * s.2.2.2 ∧ p.2.1 * p.2.2.1 - p.1 * p.2.2.2 = 1) then (0, 14)
  else (p.2.1 + p.2.2.2, 0)

end Um
end

/- The walk of package unit's Simplest, Proof, CheckProof. -/
section
namespace Go.Proofs.YtminplfgadhnnaaGreatDoor
open Go.RowKit Go.Shelf
set_option linter.unusedSimpArgs false
set_option linter.unusedVariables false
open Um (frac S4 spanB spanE sp on St stepsL)

/-- a fraction and an error are handed back -/
def RetFE (r : (Int × Int) × Int) : Ending := .returned (.tuple #[.agg #[.int .i64 r.1.1, .int .i64 r.1.2], .int .i64 r.2])


set_option maxHeartbeats 1000000 in
theorem simplestE_ok (a b c d : Int) (w : World) (h : spanB (a, b, c, d) = true) (hfa : FirstAt w) :
    Calls Tryz.prog 15 #[.agg #[.int .i64 a, .int .i64 b, .int .i64 c, .int .i64 d]] w fun e w' => e = RetFE (Um.ev (Um.best (a, b, c, d)), 0) ∧ Below w.heap.size w w' := by
  have hB := Um.best_ok _ h
  obtain ⟨h1, h2, h3⟩ := (Um.spanB_iff _).1 h
  obtain ⟨a1, a2, b1, b2⟩ := Um.frac_bd (n := a) (d := b) h1
  obtain ⟨c1, c2, d1, d2⟩ := Um.frac_bd (n := c) (d := d) h2
  have k1 := fun W => checkSpan_ok a b c d W h
  have hlen := hB.len
  have k2 := fun W => simplest_any (b + d).toNat a b c d W a1 a2 b1 b2 c1 c2 d1 d2 h3 (by omega) (Nat.le_trans hlen (by omega))
  have k3 := fun A n cap W hz (hb : Below w.heap.size w W) => last_any A n cap (Um.best (a, b, c, d)) W hz (by have := hz.1; omega) hB.pos (hfa.below hb)
  have e0 : lastSt (stepsL Um.first (Um.best (a, b, c, d))) = Um.fw Um.first (Um.best (a, b, c, d)) := hB.last
  rw [e0] at k3
  have hx0 := hB.x0
  have hx1 := hB.x1
  unfold RetFE
  rw [← hx0, ← hx1]
  have k2' : ∀ W, Calls Tryz.prog 46 #[.agg #[.int .i64 a, .int .i64 b], .agg #[.int .i64 c, .int .i64 d]] W (RetInts (Um.best (a, b, c, d)) W) := k2
  unfold RetInts at k2'
  clear k2 hB hlen e0 hx0 hx1 h1 h2 h3 h hfa
  generalize Um.fw Um.first (Um.best (a, b, c, d)) = x at *
  generalize Um.best (a, b, c, d) = L at *
  obtain ⟨x0, x1, x2, x3⟩ := x
  dsimp only at k3 ⊢
  clear a1 a2 b1 b2 c1 c2 d1 d2
  go_enter Tryz.func15, Tryz.ntmps15
  go_wp2_with fail
  refine (k1 _).mono ?_
  rintro e w1 ⟨rfl, hb1⟩
  have B0 : Cs w1 (w.heap.size) #[.int .i64 a, .int .i64 b, .int .i64 c, .int .i64 d] := Cs.keep (by repeat (first | with_reducible assumption | (with_reducible refine Cs.new _ _ _ _ ?_; first | rfl | (simp; done)) | with_reducible refine Cs.alloc ?_ _ | with_reducible refine Cs.drewN ?_ _ | with_reducible refine Cs.drew ?_ | with_reducible refine Cs.set4 ?_ _ _ _ _ | (with_reducible refine Cs.other4 ?_ ?_ _ _ _ _; rotate_left; focus (first | assumption | omega | (simp; done) | (simp; omega))) | with_reducible refine Cs.set2 ?_ _ _ | (with_reducible refine Cs.other2 ?_ ?_ _ _; rotate_left; focus (first | assumption | omega | (simp; done) | (simp; omega))) | (with_reducible refine Cs.other ?_ ?_ _; rotate_left; focus (first | assumption | omega | (simp; done) | (simp; omega))) | with_reducible refine Cs.keep ?_ (by assumption) | assumption)) hb1
  have B1 : Cs w1 (w.heap.size + 1) #[.int .i64 0, .int .i64 0] := Cs.keep (by repeat (first | with_reducible assumption | (with_reducible refine Cs.new _ _ _ _ ?_; first | rfl | (simp; done)) | with_reducible refine Cs.alloc ?_ _ | with_reducible refine Cs.drewN ?_ _ | with_reducible refine Cs.drew ?_ | with_reducible refine Cs.set4 ?_ _ _ _ _ | (with_reducible refine Cs.other4 ?_ ?_ _ _ _ _; rotate_left; focus (first | assumption | omega | (simp; done) | (simp; omega))) | with_reducible refine Cs.set2 ?_ _ _ | (with_reducible refine Cs.other2 ?_ ?_ _ _; rotate_left; focus (first | assumption | omega | (simp; done) | (simp; omega))) | (with_reducible refine Cs.other ?_ ?_ _; rotate_left; focus (first | assumption | omega | (simp; done) | (simp; omega))) | with_reducible refine Cs.keep ?_ (by assumption) | assumption)) hb1
  have hbw1 : Below w.heap.size w w1 := (by repeat (first | with_reducible exact Below.refl _ _ | with_reducible assumption | with_reducible refine balloc ?_ _ | with_reducible refine bdrewN ?_ _ | with_reducible refine Below.drew ?_ | (with_reducible refine bset ?_ ?_ _; rotate_left; focus (first | assumption | omega | (simp; done) | (simp; omega))) | with_reducible refine bstep ?_ (by assumption) | assumption))
  have cB0 := B0.c
  have fB0 := B0.f
  have lB0 := B0.lt
  have cB1 := B1.c
  have fB1 := B1.f
  have lB1 := B1.lt
  go_wp2_with fail
  refine (k2' _).mono ?_
  rintro e w2 ⟨g, cc, rfl, hI, hcc, hb2⟩
  clear cB0 fB0 lB0 cB1 fB1 lB1
  have C1 : Cs w2 (w.heap.size + 1) #[.int .i64 0, .int .i64 0] := Cs.keep (by repeat (first | with_reducible assumption | (with_reducible refine Cs.new _ _ _ _ ?_; first | rfl | (simp; done)) | with_reducible refine Cs.alloc ?_ _ | with_reducible refine Cs.drewN ?_ _ | with_reducible refine Cs.drew ?_ | with_reducible refine Cs.set4 ?_ _ _ _ _ | (with_reducible refine Cs.other4 ?_ ?_ _ _ _ _; rotate_left; focus (first | assumption | omega | (simp; done) | (simp; omega))) | with_reducible refine Cs.set2 ?_ _ _ | (with_reducible refine Cs.other2 ?_ ?_ _ _; rotate_left; focus (first | assumption | omega | (simp; done) | (simp; omega))) | (with_reducible refine Cs.other ?_ ?_ _; rotate_left; focus (first | assumption | omega | (simp; done) | (simp; omega))) | with_reducible refine Cs.keep ?_ (by assumption) | assumption)) hb2
  have hbw2 : Below w.heap.size w w2 := (by repeat (first | with_reducible exact Below.refl _ _ | with_reducible assumption | with_reducible refine balloc ?_ _ | with_reducible refine bdrewN ?_ _ | with_reducible refine Below.drew ?_ | (with_reducible refine bset ?_ ?_ _; rotate_left; focus (first | assumption | omega | (simp; done) | (simp; omega))) | with_reducible refine bstep ?_ (by assumption) | assumption))
  have cC1 := C1.c
  have fC1 := C1.f
  have lC1 := C1.lt
  go_wp2_with fail
  refine (k3 _ _ _ _ hI hbw2).mono ?_
  rintro e w3 ⟨rfl, hb3⟩
  clear cC1 fC1 lC1
  have D1 : Cs w3 (w.heap.size + 1) #[.int .i64 0, .int .i64 0] := Cs.keep (by repeat (first | with_reducible assumption | (with_reducible refine Cs.new _ _ _ _ ?_; first | rfl | (simp; done)) | with_reducible refine Cs.alloc ?_ _ | with_reducible refine Cs.drewN ?_ _ | with_reducible refine Cs.drew ?_ | with_reducible refine Cs.set4 ?_ _ _ _ _ | (with_reducible refine Cs.other4 ?_ ?_ _ _ _ _; rotate_left; focus (first | assumption | omega | (simp; done) | (simp; omega))) | with_reducible refine Cs.set2 ?_ _ _ | (with_reducible refine Cs.other2 ?_ ?_ _ _; rotate_left; focus (first | assumption | omega | (simp; done) | (simp; omega))) | (with_reducible refine Cs.other ?_ ?_ _; rotate_left; focus (first | assumption | omega | (simp; done) | (simp; omega))) | with_reducible refine Cs.keep ?_ (by assumption) | assumption)) hb3
  have hbw3 : Below w.heap.size w w3 := (by repeat (first | with_reducible exact Below.refl _ _ | with_reducible assumption | with_reducible refine balloc ?_ _ | with_reducible refine bdrewN ?_ _ | with_reducible refine Below.drew ?_ | (with_reducible refine bset ?_ ?_ _; rotate_left; focus (first | assumption | omega | (simp; done) | (simp; omega))) | with_reducible refine bstep ?_ (by assumption) | assumption))
  have cD1 := D1.c
  have fD1 := D1.f
  have lD1 := D1.lt
  go_wp2_with fail
  refine (now_any _ _ _ _ _).mono ?_
  rintro e w4 ⟨rfl, hb4⟩
  clear cD1 fD1 lD1
  have E1 : Cs w4 (w.heap.size + 1) #[.int .i64 0, .int .i64 0] := Cs.keep (by repeat (first | with_reducible assumption | (with_reducible refine Cs.new _ _ _ _ ?_; first | rfl | (simp; done)) | with_reducible refine Cs.alloc ?_ _ | with_reducible refine Cs.drewN ?_ _ | with_reducible refine Cs.drew ?_ | with_reducible refine Cs.set4 ?_ _ _ _ _ | (with_reducible refine Cs.other4 ?_ ?_ _ _ _ _; rotate_left; focus (first | assumption | omega | (simp; done) | (simp; omega))) | with_reducible refine Cs.set2 ?_ _ _ | (with_reducible refine Cs.other2 ?_ ?_ _ _; rotate_left; focus (first | assumption | omega | (simp; done) | (simp; omega))) | (with_reducible refine Cs.other ?_ ?_ _; rotate_left; focus (first | assumption | omega | (simp; done) | (simp; omega))) | with_reducible refine Cs.keep ?_ (by assumption) | assumption)) hb4
  have cE1 := E1.c
  have fE1 := E1.f
  have lE1 := E1.lt
  go_wp2_with fail
  exact bodyPost_ret (v := .tuple #[.agg #[.int .i64 x0, .int .i64 x1], .int .i64 0]) (by simp [results, Tryz.results15, go_sem, cE1, fE1, lE1]) rfl ⟨rfl, (by repeat (first | with_reducible exact Below.refl _ _ | with_reducible assumption | with_reducible refine balloc ?_ _ | with_reducible refine bdrewN ?_ _ | with_reducible refine Below.drew ?_ | (with_reducible refine bset ?_ ?_ _; rotate_left; focus (first | assumption | omega | (simp; done) | (simp; omega))) | with_reducible refine bstep ?_ (by assumption) | assumption))⟩

end Go.Proofs.YtminplfgadhnnaaGreatDoor
end

/- The walk of package unit's CheckProof. -/
section
namespace Go.Proofs.YtminplfgadhnnaaGreatDoor
open Go.RowKit Go.Shelf
set_option linter.unusedSimpArgs false
set_option linter.unusedVariables false
open Um (frac S4 spanB spanE sp on St stepsL)

/-- a number and an error are handed back -/
def RetIE (r : Int × Int) : Ending := .returned (.tuple #[.int .i64 r.1, .int .i64 r.2])

end Go.Proofs.YtminplfgadhnnaaGreatDoor
end
