/- PD2 -/
import Derived.Test.YtlbjnkopbabcnaaGreatDoorYP11
/- Walks of package metamer: a truth that is within what is known. -/
section
namespace Go.Proofs.YtlbjnkopbabcnaaGreatDoor
open Go.RowKit Go.Shelf
set_option linter.unusedSimpArgs false
set_option linter.unusedVariables false

set_option maxHeartbeats 1000000 in
theorem lenT_any (A : Option Addr) (n' c n b : Nat) (w : World) (hb : w.cell? ⟨b, 0, none⟩ = some (.int .i64 (n : Nat))) :
    Calls Tryz.prog 127 #[.slice A n' c, .pointer (some ⟨b, 0, none⟩)] w fun e w' => e = .returned (.bool (decide (n' ≠ n))) ∧ Below w.heap.size w w' := by
  by_cases h : n' = n
  · subst h
    have e1 : decide (n' ≠ n') = false := by simp
    rw [e1]
    go_enter Tryz.func127, Tryz.ntmps127
    go_wp2_with fail
    go_ret
    exact ⟨ret_bool (by simp), blA⟩
  · have e1 : decide (n' ≠ n) = true := by simp [h]
    rw [e1]
    have b1 : ((n' : Int) == (n : Int)) = false := by simp; omega
    have b2 : ((n' : Int) != (n : Int)) = true := by simp; omega
    go_enter Tryz.func127, Tryz.ntmps127
    go_wp2_with fail
    go_ret
    exact ⟨ret_bool (by simp [h]), blA⟩

theorem TruIn.lens {n : Nat} {ls : List (Int × Int)} {rs : List (RowR (Int × Int))} {tl : List Int} {te : List (RowR Int)} (h : TruIn n ls rs tl te) : (te.any fun r => decide (r.n ≠ n)) = false := by
  rw [List.any_eq_false]
  intro r hr
  obtain ⟨i, hi, rfl⟩ := List.mem_iff_getElem.1 hr
  have := h.N i (by have := h.len; omega)
  unfold rwI at this
  rw [List.getD_eq_getElem?_getD, List.getElem?_eq_getElem hi] at this
  simpa using this
/-- what a truth is in memory -/
structure Tru (w : World) (AE : Option Addr) (AL : Option Addr) (n : Nat) (tl : List Int) (te : List (RowR Int)) : Prop where
  e : RowsI w AE 3 te
  l : Ints w AL n tl
theorem Tru.below {w w' : World} {AE AL : Option Addr} {n : Nat} {tl : List Int} {te : List (RowR Int)} (h : Tru w AE AL n tl te) (hb : Below w.heap.size w w') : Tru w' AE AL n tl te := ⟨h.e.below hb, h.l.below hb⟩
def S7 (R N1 al ao : Nat) (x y u : Int) (E L : Value) (U : World) : Prop :=
  U.cell? ⟨R, 0, none⟩ = some (.int .i64 x) ∧ U.cell? ⟨R, 1, none⟩ = some (.int .i64 y) ∧ U.cell? ⟨N1, 1, none⟩ = some L ∧ U.cell? ⟨al, ao, none⟩ = some (.int .i64 u)
def S12 (N0 eb eo pb po rb ro : Nat) (E r : Value) (x y u : Int) (U : World) : Prop :=
  U.cell? ⟨N0, 0, none⟩ = some E ∧ U.cell? ⟨eb, eo, none⟩ = some r ∧ U.cell? ⟨pb, po, none⟩ = some (.int .i64 x) ∧ U.cell? ⟨pb, po + 1, none⟩ = some (.int .i64 y) ∧ U.cell? ⟨rb, ro, none⟩ = some (.int .i64 u)

set_option maxRecDepth 100000 in
set_option maxHeartbeats 8000000 in
theorem truth_ok (E : Option Addr) (m ce : Nat) (L : Option Addr) (n cl : Nat) (rs : List (RowR (Int × Int))) (ls : List (Int × Int)) (AE : Option Addr) (cE : Nat) (AL : Option Addr) (cL : Nat) (tl : List Int) (te : List (RowR Int)) (w : World) (h : Cse w E m L n rs ls) (hc : CaseOk n ls m rs) (hT : Tru w AE AL n tl te) (ht : TruIn n ls rs tl te) :
    Calls Tryz.prog 56 #[.agg #[.slice E m ce, .slice L n cl], .agg #[.slice AE 3 cE, .slice AL n cL]] w fun e w' => e = .returned (.int .i64 0) ∧ Below w.heap.size w w' := by
  obtain rfl : m = 3 := hc.2.2.1
  have hn8 := hc.2.1
  have kc := fun (W : World) (hW : Below w.heap.size w W) (hx : W.cell? ⟨w.heap.size + 1 + 1, 0, none⟩ = some (.int .i64 (n : Nat))) (hlt : w.heap.size + 1 + 1 < W.heap.size) => containsRowI_any AE 3 cE 127 te #[.pointer (some ⟨w.heap.size + 1 + 1, 0, none⟩)] (fun r => decide (r.n ≠ n)) W
    (enters_of Tryz.func127 (by kernel_rfl) rfl) (hT.e.below hW) (by omega) (fun x _ V hV => (lenT_any x.A x.n x.c n (w.heap.size + 1 + 1) V ((hV.cell (p := ⟨w.heap.size + 1 + 1, 0, none⟩) hlt).trans hx)).mono fun e W' ⟨he, hb⟩ => ⟨he, hV.trans (hb.mono hV.size)⟩)
  rw [ht.lens] at kc
  have H := Lib.hid h
  have Hc := Lib.hid hc
  have HT := Lib.hid hT
  have Ht := Lib.hid ht
  clear h hc hT ht
  go_enter Tryz.func56, Tryz.ntmps56
  go_wp2_with fail
  refine (kc _ ?_ ?_ ?_).mono ?_
  · exact blA
  · rw [Cs.c (cs := #[.int .i64 (n : Nat)]) (csA)]; rfl
  · simp
  rintro _ w2 ⟨rfl, hb2⟩
  have B0 : Cs w2 w.heap.size #[.slice E 3 ce, .slice L n cl] := Cs.keep csA hb2
  have B1 : Cs w2 (w.heap.size + 1) #[.slice AE 3 cE, .slice AL n cL] := Cs.keep csA hb2
  have hbw : Below w.heap.size w w2 := blA
  clear hb2 kc
  have cB0 := B0.c
  have fB0 := B0.f
  have lB0 := B0.lt
  have cB1 := B1.c
  have fB1 := B1.f
  have lB1 := B1.lt
  go_wp2_with fail
  have HB0 := Lib.hid B0
  have HB1 := Lib.hid B1
  clear B0 cB0 fB0 lB0 B1 cB1 fB1 lB1
  go_loopw [35] (fun s35 wx => ∃ (b : Nat) (W : World), b ≤ n ∧ s35 = .int .i64 (b : Nat) ∧ Hid (W = wx) ∧ Cs W w.heap.size #[.slice E 3 ce, .slice L n cl] ∧ Cs W (w.heap.size + 1) #[.slice AE 3 cE, .slice AL n cL] ∧ Below w.heap.size w W) (fun s35 _ => n - (intOf s35).toNat)
  case atStart => exact ⟨0, _, Nat.zero_le _, rfl, Lib.hid rfl, HB0.out, HB1.out, blA⟩
  case round =>
    clear HB0 HB1 hbw
    obtain ⟨b, W, hb, rfl, HW, B0, B1, hbw⟩ := hrel
    obtain rfl := HW.out
    clear HW
    by_cases hbn : b < n
    · have hbi : (b : Int) < (n : Int) := by omega
      obtain ⟨lb, lo, rfl, llt, q0, q1⟩ := H.out.l.atA hbw hbn
      obtain ⟨x, y, hxy⟩ : ∃ x y, rgA ls b = (x, y) := ⟨_, _, rfl⟩
      obtain ⟨al, ao, rfl, alt, a0⟩ := HT.out.l.at0 hbw hbn
      obtain ⟨u, hu⟩ : ∃ u, tl.getD b 0 = u := ⟨_, rfl⟩
      have hin := Ht.out.L b hbn
      rw [hxy] at q0 q1 hin
      rw [hu] at a0 hin
      obtain ⟨i1, i2⟩ := hin
      dsimp only at q0 q1 i1 i2
      clear hxy hu
      have cB0 := B0.c
      have fB0 := B0.f
      have lB0 := B0.lt
      have cB1 := B1.c
      have fB1 := B1.f
      have lB1 := B1.lt
      go_wp2_with fail
      have hw0 : Below W.heap.size W (W.alloc (.cells #[.int .i64 x, .int .i64 y] 41)) := balloc (Below.refl _ _) _
      have C0 := B0.keep hw0
      have C1 := B1.keep hw0
      have CR : Cs (W.alloc (.cells #[.int .i64 x, .int .i64 y] 41)) W.heap.size #[.int .i64 x, .int .i64 y] := csA
      have ha0 : (W.alloc (.cells #[.int .i64 x, .int .i64 y] 41)).cell? ⟨al, ao + b, none⟩ = some (.int .i64 u) := (hw0.cell (p := ⟨al, ao + b, none⟩) (Nat.lt_of_lt_of_le alt hbw.size)).trans a0
      have hbv : Below w.heap.size w (W.alloc (.cells #[.int .i64 x, .int .i64 y] 41)) := blA
      have hal : al < (W.alloc (.cells #[.int .i64 x, .int .i64 y] 41)).heap.size := by have := hbv.size; omega
      refine wp_region_seq (S := S7 W.heap.size (w.heap.size + 1) al (ao + b) x y u (.slice AE 3 cE) (.slice (some ⟨al, ao, none⟩) n cL)) [.t 0 1, .t 1 3, .t 2 7, .t 3 15, .t 4 31, .t 5 63, .t 6 127, .t 7 255, .t 8 511, .o 9 1023, .o 10 2047, .t 11 4095] (by kernel_rfl) (by kernel_rfl) (by as_aux_lemma => kernel_rfl) (by kernel_rfl) (fun c a d v w h => by cases d <;> exact h) ⟨CR.c 0, CR.c 1, C1.c 1, ha0⟩ (fun hHeld => ?_)
      clear hHeld cB0 fB0 lB0 cB1 fB1 lB1 B0 B1 q0 q1 a0 hw0
      generalize W.heap.size = R at *
      have D0 := C0.drew
      have D1 := C1.drew
      have DR := CR.drew
      have hbd : Below w.heap.size w (W.alloc (.cells #[.int .i64 x, .int .i64 y] 41)).drew := blA
      replace ha0 : (W.alloc (.cells #[.int .i64 x, .int .i64 y] 41)).drew.cell? ⟨al, ao + b, none⟩ = some (.int .i64 u) := ha0
      replace hal : al < (W.alloc (.cells #[.int .i64 x, .int .i64 y] 41)).drew.heap.size := hal
      clear C0 C1 CR hbv hbw
      generalize (W.alloc (.cells #[.int .i64 x, .int .i64 y] 41)).drew = V0 at *
      iterate 9 (refine seq_take (v := ?_) rfl (by rfl) ?_ ?_; rotate_left; focus (intro w9 hSw; obtain ⟨s1, s2, s3, s4⟩ := hSw; (go_simp; (try simp only [and_self, if_true, if_false]) <;> with_reducible rfl)); try simp only [Act.put, List.setIfInBounds_toArray, List.set_cons_zero, List.set_cons_succ])
      refine seq_one rfl (fun K9 hS9 => ?_)
      go_simp
      have E0 := D0.alloc (.cells #[.int .i64 u] 2)
      have E1 := D1.alloc (.cells #[.int .i64 u] 2)
      have ER := DR.alloc (.cells #[.int .i64 u] 2)
      have hx : Ints (V0.alloc (.cells #[.int .i64 u] 2)) (some ⟨V0.heap.size, 0, none⟩) 1 [u] := Ints.new1 _ _ _ _ rfl
      have hbe : Below w.heap.size w (V0.alloc (.cells #[.int .i64 u] 2)) := blA
      have ha1 : (V0.alloc (.cells #[.int .i64 u] 2)).cell? ⟨al, ao + b, none⟩ = some (.int .i64 u) := ((balloc (Below.refl _ _) _ : Below V0.heap.size V0 _).cell (p := ⟨al, ao + b, none⟩) hal).trans ha0
      have hal1 : al < (V0.alloc (.cells #[.int .i64 u] 2)).heap.size := by simp; omega
      refine hS9.out _ _ ⟨ER.c 0, ER.c 1, E1.c 1, ha1⟩ (fun _ => ?_)
      clear hS9 K9 D0 D1 DR hbd ha0 hal
      try simp only [Act.put, List.setIfInBounds_toArray, List.set_cons_zero, List.set_cons_succ]
      generalize V0.heap.size = g0 at *
      generalize V0.alloc (.cells #[.int .i64 u] 2) = V1 at *
      have hw := mwithin_any x y (some ⟨g0, 0, none⟩) 1 1 [u] V1 hx (by omega)
      rw [show ([u].all fun z => !out x y z) = true by simp only [List.all_cons, List.all_nil, out]; simp; omega] at hw
      refine seq_one rfl (fun K9 hS9 => ?_)
      go_simp
      refine hw.mono ?_
      rintro e9 V2 ⟨rfl, hy⟩
      have F0 := E0.keep hy
      have F1 := E1.keep hy
      have FR := ER.keep hy
      have hbf := hbe.trans (hy.mono hbe.size)
      refine hS9.out _ _ ⟨FR.c 0, FR.c 1, F1.c 1, (hy.cell (p := ⟨al, ao + b, none⟩) hal1).trans ha1⟩ (fun _ => ?_)
      clear hS9 K9 hw hx E0 E1 ER FR hbe ha1 hal1 hy
      try simp only [Act.put, List.setIfInBounds_toArray, List.set_cons_zero, List.set_cons_succ]
      iterate 1 (refine seq_take (v := ?_) rfl (by rfl) ?_ ?_; rotate_left; focus (intro w9 hSw; obtain ⟨s1, s2, s3, s4⟩ := hSw; (go_simp; (try simp only [and_self, if_true, if_false]) <;> with_reducible rfl)); try simp only [Act.put, List.setIfInBounds_toArray, List.set_cons_zero, List.set_cons_succ])
      refine seq_done ?_
      have cF0 := F0.c
      have fF0 := F0.f
      have lF0 := F0.lt
      have cF1 := F1.c
      have fF1 := F1.f
      have lF1 := F1.lt
      go_wp2_with fail
      have HF0 := Lib.hid F0
      have HF1 := Lib.hid F1
      clear cF0 fF0 lF0 cF1 fF1 lF1 F0 F1
      go_loopw [55] (fun s55 wx => ∃ (i : Nat) (W : World), i ≤ 3 ∧ s55 = .int .i64 (i : Nat) ∧ Hid (W = wx) ∧ Cs W w.heap.size #[.slice E 3 ce, .slice (some ⟨lb, lo, none⟩) n cl] ∧ Cs W (w.heap.size + 1) #[.slice AE 3 cE, .slice (some ⟨al, ao, none⟩) n cL] ∧ Below w.heap.size w W) (fun s55 _ => 3 - (intOf s55).toNat)
      case atStart => exact ⟨0, _, Nat.zero_le _, rfl, Lib.hid rfl, HF0.out, HF1.out, blA⟩
      case round =>
        clear HF0 HF1 hbf
        obtain ⟨i, W, hi, rfl, HW, B0, B1, hbw⟩ := hrel
        obtain rfl := HW.out
        clear HW
        by_cases hi3 : i < 3
        · have hii : (i : Int) < 3 := by omega
          obtain ⟨eb, eo, A', n', c', zs', rfl, hg, elt, c0, hp, hn'⟩ := H.out.e.atA hbw hi3
          obtain rfl : n' = n := by have := Hc.out.2.2.2.1 i hi3; rw [hg] at this; exact this
          obtain ⟨pb, po, rfl, plt, p0, p1⟩ := hp.atA (Below.refl _ _) hbn
          obtain ⟨x2, y2, hxy⟩ : ∃ x y, rgA zs' b = (x, y) := ⟨_, _, rfl⟩
          obtain ⟨tb, to, A2, n2, c2, zs2, rfl, hg2, tlt, d0, hI, hn2, _⟩ := HT.out.e.atA hbw hi3
          obtain rfl : n2 = n' := by have := Ht.out.N i hi3; rw [hg2] at this; exact this
          obtain ⟨rb, ro, rfl, rlt, r0⟩ := hI.at0 (Below.refl _ _) hbn
          obtain ⟨u2, hu⟩ : ∃ u, zs2.getD b 0 = u := ⟨_, rfl⟩
          have hin := Ht.out.E i b hi3 hbn
          have he : egA rs i b = (x2, y2) := by unfold egA; rw [hg]; exact hxy
          rw [he, hg2] at hin
          dsimp only at hin
          rw [hu] at hin r0
          rw [hxy] at p0 p1
          dsimp only at p0 p1
          obtain ⟨j1, j2⟩ := hin
          have hws := hbw.size
          have HSt : Hid (∀ V, Below W.heap.size W V → S12 w.heap.size eb (eo + i) pb (po + b * 2) rb (ro + b) (.slice (some ⟨eb, eo, none⟩) 3 ce) (.slice (some ⟨pb, po, none⟩) n2 c') x2 y2 u2 V) := Lib.hid (fun V hV =>
            ⟨(B0.keep hV).c 0, (hV.cell (p := ⟨eb, eo + i, none⟩) (by show eb < _; omega)).trans c0, (hV.cell (p := ⟨pb, po + b * 2, none⟩) plt).trans p0, (hV.cell (p := ⟨pb, po + b * 2 + 1, none⟩) plt).trans p1, (hV.cell (p := ⟨rb, ro + b, none⟩) rlt).trans r0⟩)
          clear hp hI he hu hxy hg hg2
          have cB0 := B0.c
          have fB0 := B0.f
          have lB0 := B0.lt
          have cB1 := B1.c
          have fB1 := B1.f
          have lB1 := B1.lt
          go_wp2_with fail
          refine wp_region_seq (S := S12 w.heap.size eb (eo + i) pb (po + b * 2) rb (ro + b) (.slice (some ⟨eb, eo, none⟩) 3 ce) (.slice (some ⟨pb, po, none⟩) n2 c') x2 y2 u2) [.t 0 1, .t 1 3, .t 2 7, .t 3 15, .t 4 31, .t 5 63, .t 6 127, .t 7 255, .t 8 511, .t 9 1023, .t 10 2047, .t 11 4095, .t 12 8191, .t 13 16383, .t 14 32767, .t 15 65535, .t 16 131071, .t 17 262143, .t 18 524287, .t 19 1048575, .t 20 2097151, .t 21 4194303, .t 22 8388607, .t 23 16777215, .o 24 33554431, .o 25 67108863, .t 26 134217727] (by kernel_rfl) (by kernel_rfl) (by as_aux_lemma => kernel_rfl) (by kernel_rfl) (fun c a d v w h => by cases d <;> exact h) (HSt.out _ blA) (fun hHeld => ?_)
          clear hHeld cB0 fB0 lB0 cB1 fB1 lB1 c0 p0 p1 d0 r0
          have hv0 : Below W.heap.size W W.drew := blA
          generalize W.drew = V0 at *
          iterate 24 (refine seq_take (v := ?_) rfl (by rfl) ?_ ?_; rotate_left; focus (intro w9 hSw; obtain ⟨s1, s2, s3, s4, s5⟩ := hSw; (go_simp; (try simp only [and_self, if_true, if_false]) <;> with_reducible rfl)); try simp only [Act.put, List.setIfInBounds_toArray, List.set_cons_zero, List.set_cons_succ])
          refine seq_one rfl (fun K9 hS9 => ?_)
          go_simp
          have hx : Ints (V0.alloc (.cells #[.int .i64 u2] 2)) (some ⟨V0.heap.size, 0, none⟩) 1 [u2] := Ints.new1 _ _ _ _ rfl
          have hv1 : Below W.heap.size W (V0.alloc (.cells #[.int .i64 u2] 2)) := balloc hv0 _
          refine hS9.out _ _ (HSt.out _ hv1) (fun _ => ?_)
          clear hS9 K9 hv0
          try simp only [Act.put, List.setIfInBounds_toArray, List.set_cons_zero, List.set_cons_succ]
          generalize V0.heap.size = g0 at *
          generalize V0.alloc (.cells #[.int .i64 u2] 2) = V1 at *
          have hw := mwithin_any x2 y2 (some ⟨g0, 0, none⟩) 1 1 [u2] V1 hx (by omega)
          rw [show ([u2].all fun z => !out x2 y2 z) = true by simp only [List.all_cons, List.all_nil, out]; simp; omega] at hw
          refine seq_one rfl (fun K9 hS9 => ?_)
          go_simp
          refine hw.mono ?_
          rintro e9 V2 ⟨rfl, hy⟩
          have hv2 := hv1.trans (hy.mono hv1.size)
          refine hS9.out _ _ (HSt.out _ hv2) (fun _ => ?_)
          clear hS9 K9 hw hx hv1 hy
          try simp only [Act.put, List.setIfInBounds_toArray, List.set_cons_zero, List.set_cons_succ]
          iterate 1 (refine seq_take (v := ?_) rfl (by rfl) ?_ ?_; rotate_left; focus (intro w9 hSw; obtain ⟨s1, s2, s3, s4, s5⟩ := hSw; (go_simp; (try simp only [and_self, if_true, if_false]) <;> with_reducible rfl)); try simp only [Act.put, List.setIfInBounds_toArray, List.set_cons_zero, List.set_cons_succ])
          refine seq_done ?_
          have F0 := B0.keep hv2
          have F1 := B1.keep hv2
          have hbf := hbw.trans (hv2.mono hbw.size)
          clear B0 B1 hbw hv2 HSt
          go_wp2_with fail
          go_roundw
          case rel => exact ⟨i + 1, _, by omega, by go_num, Lib.hid rfl, F0, F1, hbf⟩
          case measure => simp [intOf]; omega
        · have hi3' : 3 ≤ i := by omega
          have cB0 := B0.c
          have fB0 := B0.f
          have lB0 := B0.lt
          have cB1 := B1.c
          have fB1 := B1.f
          have lB1 := B1.lt
          go_wp2_with fail
          go_roundw
          case rel => exact ⟨b + 1, _, by omega, by go_num, Lib.hid rfl, csA, csA, blA⟩
          case measure => simp [intOf]; omega
    · obtain rfl : b = n := by omega
      go_wp2_with fail
      go_ret
      exact ⟨rfl, blA⟩

end Go.Proofs.YtlbjnkopbabcnaaGreatDoor
end
