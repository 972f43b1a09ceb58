/- PE3 -/
import Derived.Test.YtlbjnkopbabcnaaGreatDoorYP15
import Derived.Test.YtlbjnkopbabcnaaGreatDoorYB01
import Derived.Shelf.RegionOpen
/- Walks of package metamer: the places in which a spectrum is open, one by one. -/
section
namespace Go.Proofs.YtlbjnkopbabcnaaGreatDoor
open Go.RowKit Go.Shelf
set_option linter.unusedSimpArgs false
set_option linter.unusedVariables false
attribute [local go_sem] Oper.semAt_some

/-- the places that are open, from one on -/
def opL (p : Nat → Bool) (k m : Nat) : List (Nat × Nat) := ((List.range' k m).filter p).map fun q => (q % 3, q / 3)
theorem opL_zero (p : Nat → Bool) (k : Nat) : opL p k 0 = [] := rfl
theorem opL_succ (p : Nat → Bool) (k m : Nat) : opL p k (m + 1) = if p k then (k % 3, k / 3) :: opL p (k + 1) m else opL p (k + 1) m := by
  unfold opL
  rw [List.range'_succ, List.filter_cons]
  split <;> rfl
/-- whether a place is open -/
def opB (L : Nat → Int × Int) (E : Nat → Nat → Int × Int) (d : Nat → Int) (q : Nat) : Bool := decide (d (q / 3) ≠ 0) && decide (Mm.low L E (q % 3) (q / 3) ≠ Mm.high L E (q % 3) (q / 3))
theorem Cs.of_heapP {w w' : World} {g : Nat} {cs : Array Value} (h : Cs w g cs) (hs : w.heap.size ≤ w'.heap.size) (hb : w'.heap[g]? = w.heap[g]?) : Cs w' g cs :=
  ⟨Nat.lt_of_lt_of_le h.1 hs, fun i => (World.cell?_of_block (w := w) (a := ⟨g, i, none⟩) hb).trans (h.2.1 i), fun i => (World.frozen?_of_block (w := w) (a := ⟨g, i, none⟩) hb).trans (h.2.2 i)⟩
theorem Cs.turnsP {O : Nat → Prop} {w w' : World} {g : Nat} {cs : Array Value} (h : Cs w g cs) (ht : Turns O w w') (hg : ¬ O g) : Cs w' g cs := h.of_heapP ht.size (ht.block g h.lt hg)
/-- what the rounds of a range over open places keep -/
def KpO (w0 : World) (b1 b2 : Nat) (_ : Nat) (W W' : World) : Prop := W.heap.size ≤ W'.heap.size ∧ (Below w0.heap.size w0 W → Below w0.heap.size w0 W') ∧ W'.heap[b1]? = W.heap[b1]? ∧ W'.heap[b2]? = W.heap[b2]?
theorem KpO.trans {w0 : World} {b1 b2 B : Nat} {X Y Z : World} (h : KpO w0 b1 b2 B X Y) (k : KpO w0 b1 b2 B Y Z) : KpO w0 b1 b2 B X Z :=
  ⟨Nat.le_trans h.1 k.1, fun q => k.2.1 (h.2.1 q), k.2.2.1.trans h.2.2.1, k.2.2.2.trans h.2.2.2⟩
/-- the world of the iterator between two yields -/
structure OpS (w0 W : World) (b1 b2 : Nat) (A : Option Addr) (n c : Nat) (E : Option Addr) (ce : Nat) (L : Option Addr) (cl : Nat) : Prop where
  bl : Below w0.heap.size w0 W
  s : Cs W b1 #[.slice A n c]
  m : Cs W b2 #[.slice E 3 ce, .slice L n cl]
theorem OpS.below {w0 W W' : World} {b1 b2 : Nat} {A : Option Addr} {n c : Nat} {E : Option Addr} {ce : Nat} {L : Option Addr} {cl : Nat} (h : OpS w0 W b1 b2 A n c E ce L cl) (hb : Below W.heap.size W W') : OpS w0 W' b1 b2 A n c E ce L cl :=
  ⟨h.bl.trans (hb.mono h.bl.size), h.s.keep hb, h.m.keep hb⟩
theorem OpS.kp {w0 W W' : World} {b1 b2 B : Nat} {A : Option Addr} {n c : Nat} {E : Option Addr} {ce : Nat} {L : Option Addr} {cl : Nat} (h : OpS w0 W b1 b2 A n c E ce L cl) (hb : KpO w0 b1 b2 B W W') : OpS w0 W' b1 b2 A n c E ce L cl :=
  ⟨hb.2.1 h.bl, h.s.of_heapP hb.1 hb.2.2.1, h.m.of_heapP hb.1 hb.2.2.2⟩


set_option maxRecDepth 100000 in
set_option maxHeartbeats 4000000 in
theorem open_in (q : Nat) (hq : 1 ≤ q) (b1 b2 : Nat) (A : Option Addr) (n c : Nat) (E : Option Addr) (ce : Nat) (L : Option Addr) (cl : Nat) (rs : List (RowR (Int × Int))) (ls : List (Int × Int)) (ds : List Int) (w0 w : World)
    (hC : Cse w0 E 3 L n rs ls) (hc : CaseOk n ls 3 rs) (hd : Ints w0 A n ds) (hS : OpS w0 w b1 b2 A n c E ce L cl) :
    SeqList Fence.wide q Tryz.prog 230 #[.pointer (some ⟨b1, 0, none⟩), .pointer (some ⟨b2, 0, none⟩)] (fun x : Nat × Nat => #[.int .i64 (x.1 : Nat), .int .i64 (x.2 : Nat)]) (fun _ _ => False) (KpO w0 b1 b2) (opL (opB (rgA ls) (egA rs) (zF ds)) 0 (3 * n)) (fun _ => True) w := by
  intro l J Jx W hWb hJ hJx hY hJ0
  refine callsIn_of_wp Tryz.func230 rfl trivial ?_ rfl
  simp only [Tryz.ntmps230, List.size_toArray, List.length_cons, List.length_nil, Nat.reduceAdd, Nat.reduceSub, Array.replicate_succ, Array.replicate_zero, List.push_toArray, List.append_toArray, List.nil_append, List.cons_append]
  have hS0 := hS.below hWb
  have hn8 := hc.2.1
  have kl := fun (i b : Nat) (W : World) (hW : Below w0.heap.size w0 W) (hi : i < 3) (hb : b < n) => low_any i b E 3 ce L n cl rs ls W (hC.below hW) hc hi hb
  have kh := fun (i b : Nat) (W : World) (hW : Below w0.heap.size w0 W) (hi : i < 3) (hb : b < n) => high_any i b E 3 ce L n cl rs ls W (hC.below hW) hc hi hb
  generalize hp : opB (rgA ls) (egA rs) (zF ds) = p at *
  have Hp := Lib.hid hp
  have Kl := Lib.hid kl
  have Kh := Lib.hid kh
  have HY := Lib.hid hY
  have HJ := Lib.hid hJ
  have HJx := Lib.hid hJx
  have HS := Lib.hid hS0
  have Hd := Lib.hid hd
  have cB := hS0.s.c
  have lB := hS0.s.lt
  clear hY hJ hJx hS hS0 kl kh hC hc hd hp
  gi_wp2_with fail
  clear cB lB
  gi_loopw [9] (fun s9 wr => ∃ (b : Nat) (pre : List (Nat × Nat)) (WR : World), b ≤ n ∧ s9 = .int .i64 (b : Nat) ∧ Hid (WR = wr) ∧ Hid (opL p 0 (3 * n) = pre ++ opL p (3 * b) (3 * n - 3 * b)) ∧ Hid (OpS w0 WR b1 b2 A n c E ce L cl) ∧ Hid (J pre WR)) (fun s9 _ => n - (intOf s9).toNat)
  case atStart => exact ⟨0, [], _, Nat.zero_le _, rfl, Lib.hid rfl, Lib.hid (by simp), HS, Lib.hid hJ0⟩
  case round =>
    obtain ⟨b, pre, WR, hb, rfl, HWR, Hpre, HSR, HJR⟩ := hrel
    obtain rfl := HWR.out
    clear HWR HS hJ0
    by_cases hbn : b < n
    · have hbi : (b : Int) < (n : Int) := by omega
      obtain ⟨ab, ao, rfl, alt, c0⟩ := Hd.out.at0 HSR.out.bl hbn
      obtain ⟨u, hu⟩ : ∃ u, ds.getD b 0 = u := ⟨_, rfl⟩
      rw [hu] at c0
      have Hu := Lib.hid (show zF ds b = u from hu)
      clear hu
      gi_wp2_with fail
      clear c0
      gi_loopw [14] (fun s14 wr => ∃ (i : Nat) (pre : List (Nat × Nat)) (WV : World), i ≤ 3 ∧ s14 = .int .i64 (i : Nat) ∧ Hid (WV = wr) ∧ Hid (opL p 0 (3 * n) = pre ++ opL p (3 * b + i) (3 * n - (3 * b + i))) ∧ Hid (OpS w0 WV b1 b2 (some ⟨ab, ao, none⟩) n c E ce L cl) ∧ Hid (J pre WV)) (fun s14 _ => 3 - (intOf s14).toNat)
      case atStart => exact ⟨0, pre, _, Nat.zero_le _, rfl, Lib.hid rfl, Hpre, HSR, HJR⟩
      case round =>
        clear Hpre HSR HJR
        obtain ⟨i, pre, WV, hi, rfl, HWV, Hpre, HSR, HJR⟩ := hrel
        obtain rfl := HWV.out
        clear HWV
        by_cases hi3 : i < 3
        · have hii : (i : Int) < 3 := by omega
          have hstep : opL p (3 * b + i) (3 * n - (3 * b + i)) = if p (3 * b + i) then (i, b) :: opL p (3 * b + (i + 1)) (3 * n - (3 * b + (i + 1))) else opL p (3 * b + (i + 1)) (3 * n - (3 * b + (i + 1))) := by
            obtain ⟨m, hm⟩ : ∃ m, 3 * n - (3 * b + i) = m + 1 := ⟨3 * n - (3 * b + i) - 1, by omega⟩
            rw [hm, opL_succ, show (3 * b + i) % 3 = i by omega, show (3 * b + i) / 3 = b by omega, show 3 * n - (3 * b + (i + 1)) = m by omega]; rfl
          have hpv : p (3 * b + i) = (decide (u ≠ 0) && decide (Mm.low (rgA ls) (egA rs) i b ≠ Mm.high (rgA ls) (egA rs) i b)) := by
            rw [← Hp.out]; unfold opB; rw [show (3 * b + i) % 3 = i by omega, show (3 * b + i) / 3 = b by omega, Hu.out]
          by_cases hu0 : u = 0
          · have hnx : opL p 0 (3 * n) = pre ++ opL p (3 * b + (i + 1)) (3 * n - (3 * b + (i + 1))) := by rw [Hpre.out, hstep, hpv, hu0]; simp
            have Hnx := Lib.hid hnx
            clear hnx hstep hpv Hpre
            subst hu0
            gi_wp2_with fail
            refine wpIn_region_tree (.t 0 1 (.t 1 3 (.t 2 7 (.t 3 15 (.t 4 31 (.t 5 63 (.t 7 191 (.t 8 447 (.t 9 959 (.o 6 1023 (.o 10 2047 (.t 11 4095 (.t 12 8191 (.t 13 16383 (.t 14 32767 (.t 15 65535 (.t 16 131071 (.o 17 262143 (.t 18 524287 (.t 19 1048575 .nil)))))))))))))))))))) rfl (by kernel_rfl) (by kernel_rfl) (by as_aux_lemma => kernel_rfl) (by kernel_rfl) (fun c a d v w h => by cases d <;> exact h) ?_
            iterate 3 (refine treeI_take (v := ?_) rfl (by rfl) (fun _ => rfl) ?_ ?_; rotate_left; focus (intro w9; (go_simp <;> with_reducible rfl)); try simp only [Act.put, List.setIfInBounds_toArray, List.set_cons_zero, List.set_cons_succ])
            iterate 6 (refine treeI_pass rfl (by rfl) (fun _ => rfl) ?_; try simp only [Act.put, List.setIfInBounds_toArray, List.set_cons_zero, List.set_cons_succ])
            iterate 2 (refine treeI_skip rfl (by rfl) (fun _ => trivial) ?_; try simp only [Act.put, List.setIfInBounds_toArray, List.set_cons_zero, List.set_cons_succ])
            (refine treeI_pass rfl (by rfl) (fun _ => rfl) ?_; try simp only [Act.put, List.setIfInBounds_toArray, List.set_cons_zero, List.set_cons_succ])
            (refine treeI_take (v := ?_) rfl (by rfl) (fun _ => rfl) ?_ ?_; rotate_left; focus (intro w9; (go_simp <;> with_reducible rfl)); try simp only [Act.put, List.setIfInBounds_toArray, List.set_cons_zero, List.set_cons_succ])
            (refine treeI_take (v := ?_) rfl (by rfl) (fun _ => rfl) ?_ ?_; rotate_left; focus (intro w9; (go_simp <;> with_reducible rfl)); try simp only [Act.put, List.setIfInBounds_toArray, List.set_cons_zero, List.set_cons_succ])
            iterate 3 (refine treeI_pass rfl (by rfl) (fun _ => rfl) ?_; try simp only [Act.put, List.setIfInBounds_toArray, List.set_cons_zero, List.set_cons_succ])
            (refine treeI_skip rfl (by rfl) (fun _ => trivial) ?_; try simp only [Act.put, List.setIfInBounds_toArray, List.set_cons_zero, List.set_cons_succ])
            (refine treeI_pass rfl (by rfl) (fun _ => rfl) ?_; try simp only [Act.put, List.setIfInBounds_toArray, List.set_cons_zero, List.set_cons_succ])
            (refine treeI_take (v := ?_) rfl (by rfl) (fun _ => rfl) ?_ ?_; rotate_left; focus (intro w9; (go_simp <;> with_reducible rfl)); try simp only [Act.put, List.setIfInBounds_toArray, List.set_cons_zero, List.set_cons_succ])
            refine treeI_done ?_
            gi_wp2_with fail
            go_roundw
            case rel => exact ⟨i + 1, pre, _, by omega, by go_num, Lib.hid rfl, Hnx, Lib.hid (HSR.out.below (Below.drew (Below.refl _ _))), Lib.hid (HJ.out pre _ _ HJR.out (Turns.of_below (Below.drew (Below.refl _ _))))⟩
            case measure => simp [intOf]; omega
          · have hu1 : (u = 0) = False := eq_false hu0
            obtain ⟨x, hx⟩ : ∃ x, Mm.low (rgA ls) (egA rs) i b = x := ⟨_, rfl⟩
            obtain ⟨y, hy⟩ : ∃ y, Mm.high (rgA ls) (egA rs) i b = y := ⟨_, rfl⟩
            have kl := fun W hW => Kl.out i b W hW hi3 hbn
            have kh := fun W hW => Kh.out i b W hW hi3 hbn
            rw [hx] at kl hpv
            rw [hy] at kh hpv
            have Kl1 := Lib.hid kl
            have Kh1 := Lib.hid kh
            have Hstep := Lib.hid hstep
            have Hpv := Lib.hid hpv
            have cB2 := HSR.out.m.c
            have lB2 := HSR.out.m.lt
            clear hstep hpv kl kh
            gi_wp2_with fail
            refine wpIn_region_tree (.t 0 1 (.t 1 3 (.t 2 7 (.t 4 23 (.t 5 55 (.t 8 311 (.t 9 823 (.c 3 7 831 951 (.c 6 7 895 959 (.o 7 1023 (.o 10 2047 (.t 11 4095 (.t 12 8191 (.t 13 16383 (.t 14 32767 (.t 15 65535 (.t 16 131071 (.o 17 262143 (.t 18 524287 (.t 19 1048575 .nil))))))))))) (.o 6 1023 (.o 10 2047 (.t 11 4095 (.t 12 8191 (.t 13 16383 (.t 14 32767 (.t 15 65535 (.t 16 131071 (.o 17 262143 (.t 18 524287 (.t 19 1048575 .nil)))))))))))) (.o 3 959 (.o 6 1023 (.o 10 2047 (.t 11 4095 (.t 12 8191 (.t 13 16383 (.t 14 32767 (.t 15 65535 (.t 16 131071 (.o 17 262143 (.t 18 524287 (.t 19 1048575 .nil)))))))))))))))))))) rfl (by kernel_rfl) (by kernel_rfl) (by as_aux_lemma => kernel_rfl) (by kernel_rfl) (fun c a d v w h => by cases d <;> exact h) ?_
            have HSR0 := Lib.hid (HSR.out.below (Below.drew (Below.refl _ _)))
            have HJR0 := Lib.hid (HJ.out pre _ _ HJR.out (Turns.of_below (Below.drew (Below.refl _ _))))
            replace cB2 := HSR0.out.m.c
            replace lB2 := HSR0.out.m.lt
            clear HSR HJR
            generalize WV.drew = V0 at *
            (refine treeI_take (v := ?_) rfl (by rfl) (fun _ => rfl) ?_ ?_; rotate_left; focus (intro w9; (go_simp <;> with_reducible rfl)); try simp only [Act.put, List.setIfInBounds_toArray, List.set_cons_zero, List.set_cons_succ])
            refine treeI_take (v := .bool true) rfl (by rfl) (fun _ => rfl) (fun w9 => ?_) ?_
            focus (go_simp <;> simp [hu0])
            try simp only [Act.put, List.setIfInBounds_toArray, List.set_cons_zero, List.set_cons_succ]
            iterate 5 (refine treeI_take (v := ?_) rfl (by rfl) (fun _ => rfl) ?_ ?_; rotate_left; focus (intro w9; (go_simp <;> with_reducible rfl)); try simp only [Act.put, List.setIfInBounds_toArray, List.set_cons_zero, List.set_cons_succ])
            refine treeI_two ?c3 ?c7
            case' c3 =>
              (refine treeI_one rfl (fun K9 hS9 => ?_); go_simp; refine hS9.out _ _ ?_; clear hS9 K9; try simp only [Act.put, List.setIfInBounds_toArray, List.set_cons_zero, List.set_cons_succ])
              refine treeI_two ?c6 ?c77
              case' c6 =>
                refine treeI_one rfl (fun K9 hS9 => ?_)
                go_simp
                refine ⟨trivial, (callsIn_wide.2 (Kl1.out V0 HSR0.out.bl)).mono ?_⟩
                rintro e9 V1 ⟨rfl, hy9⟩
                have HSR1 := Lib.hid (HSR0.out.below hy9)
                have HJR1 := Lib.hid (HJ.out pre _ _ HJR0.out (Turns.of_below hy9))
                refine hS9.out _ _ ?_
                clear hS9 K9 hy9 HSR0 HJR0
                try simp only [Act.put, List.setIfInBounds_toArray, List.set_cons_zero, List.set_cons_succ]
                replace cB2 := HSR1.out.m.c
                replace lB2 := HSR1.out.m.lt
                (refine treeI_one rfl (fun K9 hS9 => ?_); go_simp; refine hS9.out _ _ ?_; clear hS9 K9; try simp only [Act.put, List.setIfInBounds_toArray, List.set_cons_zero, List.set_cons_succ])
                refine treeI_one rfl (fun K9 hS9 => ?_)
                go_simp
                refine ⟨trivial, (callsIn_wide.2 (Kh1.out V1 HSR1.out.bl)).mono ?_⟩
                rintro e9 V2 ⟨rfl, hy9⟩
                have HSR2 := Lib.hid (HSR1.out.below hy9)
                have HJR2 := Lib.hid (HJ.out pre _ _ HJR1.out (Turns.of_below hy9))
                refine hS9.out _ _ ?_
                clear hS9 K9 hy9 HSR1 HJR1
                try simp only [Act.put, List.setIfInBounds_toArray, List.set_cons_zero, List.set_cons_succ]
              case' c77 =>
                (refine treeI_one rfl (fun K9 hS9 => ?_); go_simp; refine hS9.out _ _ ?_; clear hS9 K9; try simp only [Act.put, List.setIfInBounds_toArray, List.set_cons_zero, List.set_cons_succ])
                refine treeI_one rfl (fun K9 hS9 => ?_)
                go_simp
                refine ⟨trivial, (callsIn_wide.2 (Kl1.out V0 HSR0.out.bl)).mono ?_⟩
                rintro e9 V1 ⟨rfl, hy9⟩
                have HSR1 := Lib.hid (HSR0.out.below hy9)
                have HJR1 := Lib.hid (HJ.out pre _ _ HJR0.out (Turns.of_below hy9))
                refine hS9.out _ _ ?_
                clear hS9 K9 hy9 HSR0 HJR0
                try simp only [Act.put, List.setIfInBounds_toArray, List.set_cons_zero, List.set_cons_succ]
                refine treeI_one rfl (fun K9 hS9 => ?_)
                go_simp
                refine ⟨trivial, (callsIn_wide.2 (Kh1.out V1 HSR1.out.bl)).mono ?_⟩
                rintro e9 V2 ⟨rfl, hy9⟩
                have HSR2 := Lib.hid (HSR1.out.below hy9)
                have HJR2 := Lib.hid (HJ.out pre _ _ HJR1.out (Turns.of_below hy9))
                refine hS9.out _ _ ?_
                clear hS9 K9 hy9 HSR1 HJR1
                try simp only [Act.put, List.setIfInBounds_toArray, List.set_cons_zero, List.set_cons_succ]
            case' c7 =>
              (refine treeI_one rfl (fun K9 hS9 => ?_); go_simp; refine hS9.out _ _ ?_; clear hS9 K9; try simp only [Act.put, List.setIfInBounds_toArray, List.set_cons_zero, List.set_cons_succ])
              (refine treeI_one rfl (fun K9 hS9 => ?_); go_simp; refine hS9.out _ _ ?_; clear hS9 K9; try simp only [Act.put, List.setIfInBounds_toArray, List.set_cons_zero, List.set_cons_succ])
              refine treeI_one rfl (fun K9 hS9 => ?_)
              go_simp
              refine ⟨trivial, (callsIn_wide.2 (Kl1.out V0 HSR0.out.bl)).mono ?_⟩
              rintro e9 V1 ⟨rfl, hy9⟩
              have HSR1 := Lib.hid (HSR0.out.below hy9)
              have HJR1 := Lib.hid (HJ.out pre _ _ HJR0.out (Turns.of_below hy9))
              refine hS9.out _ _ ?_
              clear hS9 K9 hy9 HSR0 HJR0
              try simp only [Act.put, List.setIfInBounds_toArray, List.set_cons_zero, List.set_cons_succ]
              refine treeI_one rfl (fun K9 hS9 => ?_)
              go_simp
              refine ⟨trivial, (callsIn_wide.2 (Kh1.out V1 HSR1.out.bl)).mono ?_⟩
              rintro e9 V2 ⟨rfl, hy9⟩
              have HSR2 := Lib.hid (HSR1.out.below hy9)
              have HJR2 := Lib.hid (HJ.out pre _ _ HJR1.out (Turns.of_below hy9))
              refine hS9.out _ _ ?_
              clear hS9 K9 hy9 HSR1 HJR1
              try simp only [Act.put, List.setIfInBounds_toArray, List.set_cons_zero, List.set_cons_succ]
            all_goals
              clear cB2 lB2 Kl1 Kh1
              by_cases hxy : x = y
              · have hnx : opL p 0 (3 * n) = pre ++ opL p (3 * b + (i + 1)) (3 * n - (3 * b + (i + 1))) := by rw [Hpre.out, Hstep.out, Hpv.out]; simp [hxy]
                have Hnx := Lib.hid hnx
                clear hnx Hstep Hpv Hpre
                refine treeI_take (v := .bool false) rfl (by rfl) (fun _ => rfl) (fun w9 => ?_) ?_
                focus (go_simp <;> simp [hxy])
                try simp only [Act.put, List.setIfInBounds_toArray, List.set_cons_zero, List.set_cons_succ]
                iterate 2 (refine treeI_take (v := ?_) rfl (by rfl) (fun _ => rfl) ?_ ?_; rotate_left; focus (intro w9; (go_simp <;> with_reducible rfl)); try simp only [Act.put, List.setIfInBounds_toArray, List.set_cons_zero, List.set_cons_succ])
                iterate 3 (refine treeI_pass rfl (by rfl) (fun _ => rfl) ?_; try simp only [Act.put, List.setIfInBounds_toArray, List.set_cons_zero, List.set_cons_succ])
                (refine treeI_skip rfl (by rfl) (fun _ => trivial) ?_; try simp only [Act.put, List.setIfInBounds_toArray, List.set_cons_zero, List.set_cons_succ])
                (refine treeI_pass rfl (by rfl) (fun _ => rfl) ?_; try simp only [Act.put, List.setIfInBounds_toArray, List.set_cons_zero, List.set_cons_succ])
                (refine treeI_take (v := ?_) rfl (by rfl) (fun _ => rfl) ?_ ?_; rotate_left; focus (intro w9; (go_simp <;> with_reducible rfl)); try simp only [Act.put, List.setIfInBounds_toArray, List.set_cons_zero, List.set_cons_succ])
                refine treeI_done ?_
                gi_wp2_with fail
                go_roundw
                case rel => exact ⟨i + 1, pre, _, by omega, by go_num, Lib.hid rfl, Hnx, HSR2, HJR2⟩
                case measure => simp [intOf]; omega
              · have hnx : opL p 0 (3 * n) = (pre ++ [(i, b)]) ++ opL p (3 * b + (i + 1)) (3 * n - (3 * b + (i + 1))) := by rw [Hpre.out, Hstep.out, Hpv.out]; simp [hxy, hu0]
                have Hnx := Lib.hid hnx
                clear hnx Hstep Hpv Hpre
                obtain ⟨fn, tmps, assign, body, hy, hR⟩ := HY.out pre (i, b) V2 (by rw [Hnx.out]; exact List.prefix_append _ _) HJR2.out
                dsimp only at hy
                refine treeI_take (v := .bool true) rfl (by rfl) (fun _ => rfl) (fun w9 => ?_) ?_
                focus (go_simp <;> simp [hxy])
                try simp only [Act.put, List.setIfInBounds_toArray, List.set_cons_zero, List.set_cons_succ]
                iterate 5 (refine treeI_take (v := ?_) rfl (by rfl) (fun _ => rfl) ?_ ?_; rotate_left; focus (intro w9; (go_simp <;> with_reducible rfl)); try simp only [Act.put, List.setIfInBounds_toArray, List.set_cons_zero, List.set_cons_succ])
                refine treeI_one rfl (fun K9 hS9 => ?_)
                go_simp
                refine hR.mono ?_
                rintro e9 W4 (⟨rfl, hJ4, hk4⟩ | ⟨rfl, hJx4⟩)
                · have HS4 := Lib.hid (HSR2.out.kp hk4)
                  have HJ4 := Lib.hid hJ4
                  refine hS9.out _ _ ?_
                  clear hS9 K9 hJ4 hk4 HSR2 HJR2 hR hy
                  try simp only [Act.put, List.setIfInBounds_toArray, List.set_cons_zero, List.set_cons_succ]
                  iterate 2 (refine treeI_take (v := ?_) rfl (by rfl) (fun _ => rfl) ?_ ?_; rotate_left; focus (intro w9; (go_simp <;> with_reducible rfl)); try simp only [Act.put, List.setIfInBounds_toArray, List.set_cons_zero, List.set_cons_succ])
                  refine treeI_done ?_
                  gi_wp2_with fail
                  go_roundw
                  case rel => exact ⟨i + 1, pre ++ [(i, b)], _, by omega, by go_num, Lib.hid rfl, Hnx, HS4, HJ4⟩
                  case measure => simp [intOf]; omega
                · have HJx4 := Lib.hid hJx4
                  refine hS9.out _ _ ?_
                  clear hS9 K9 hJx4 HSR2 HJR2 hR hy
                  try simp only [Act.put, List.setIfInBounds_toArray, List.set_cons_zero, List.set_cons_succ]
                  iterate 2 (refine treeI_take (v := ?_) rfl (by rfl) (fun _ => rfl) ?_ ?_; rotate_left; focus (intro w9; (go_simp <;> with_reducible rfl)); try simp only [Act.put, List.setIfInBounds_toArray, List.set_cons_zero, List.set_cons_succ])
                  refine treeI_done ?_
                  gi_wp2_with fail
                  refine bodyPost_ret (results_none rfl _ _ _) rfl ⟨⟨_, rfl⟩, .inr ⟨_, ?_, HJx4.out⟩⟩
                  rw [Hnx.out]; exact List.prefix_append _ _
        · have hi3' : i = 3 := by omega
          have hnx : opL p 0 (3 * n) = pre ++ opL p (3 * (b + 1)) (3 * n - 3 * (b + 1)) := by rw [Hpre.out, hi3']; rfl
          have Hnx := Lib.hid hnx
          clear hnx Hpre
          have hii : ¬ (i : Int) < 3 := by omega
          gi_wp2_with fail
          go_roundw
          case rel => exact ⟨b + 1, pre, _, by omega, by go_num, Lib.hid rfl, Hnx, HSR, HJR⟩
          case measure => simp [intOf]; omega
    · have e : b = n := by omega
      subst e
      gi_wp2_with fail
      go_end0
      refine ⟨⟨_, rfl⟩, .inl ⟨trivial, ?_⟩⟩
      have := Hpre.out
      rw [Nat.sub_self, opL_zero, List.append_nil] at this
      rw [this]; exact HJR.out
end Go.Proofs.YtlbjnkopbabcnaaGreatDoor
end
