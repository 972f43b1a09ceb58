/- PC1 -/
import Derived.Test.YtlbjnkopbabcnaaGreatDoorYP04
/- Walks of package metamer: which cases and chips are valid. -/
section
namespace Go.Proofs.YtlbjnkopbabcnaaGreatDoor
open Go.RowKit Go.Shelf
set_option linter.unusedSimpArgs false
set_option linter.unusedVariables false

set_option maxHeartbeats 1000000 in
theorem knownC_any (x y top : Int) (b : Nat) (w : World) (hb : w.cell? ⟨b, 0, none⟩ = some (.int .i64 top)) (hlt : b < w.heap.size) :
    Calls Tryz.prog 308 #[.agg #[.int .i64 x, .int .i64 y], .pointer (some ⟨b, 0, none⟩)] w fun e w' => e = .returned (.bool (!rgB4 top (x, y))) ∧ Below w.heap.size w w' := by
  by_cases h : x ≤ y
  · have k1 := fun A c W hz => mwithin_any 0 top A 2 c [x, y] W hz (by omega)
    have e1 : Hid (([x, y].all fun z => !out 0 top z) = rgB4 top (x, y)) := Lib.hid (by
      simp only [List.all_cons, List.all_nil, out, rgB4, Bool.and_true]
      rw [Bool.eq_iff_iff]; simp; omega)
    have hy : ¬ y < x := by omega
    have hd : decide (y < x) = false := by simp; omega
    generalize ([x, y].all fun z => !out 0 top z) = r at *
    go_enter Tryz.func308, Tryz.ntmps308
    go_wp2_with fail
    refine (k1 _ _ _ (Ints.new2 _ _ _ _ _ (by simp))).mono ?_
    rintro _ w1 ⟨rfl, hb1⟩
    replace hbw : Below w.heap.size w w1 := blA
    clear hb1
    clear k1
    go_wp2_with fail
    go_ret
    exact ⟨ret_bool (by rw [← e1.out]), blA⟩
  · have e1 : Hid (true = !rgB4 top (x, y)) := Lib.hid (by simp [rgB4, h])
    have hd : decide (y < x) = true := by simp; omega
    have hy : y < x := by omega
    go_enter Tryz.func308, Tryz.ntmps308
    go_wp2_with fail
    go_ret
    exact ⟨ret_bool e1.out, blA⟩

set_option maxHeartbeats 1000000 in
theorem known_any (top : Int) (A : Option Addr) (n c : Nat) (zs : List (Int × Int)) (w : World) (hz : Prs w A n zs) (hn : n ≤ 9223372036854775807) :
    Calls Tryz.prog 227 #[.int .i64 top, .slice A n c] w fun e w' => e = .returned (.bool (zs.all fun x => rgB4 top x)) ∧ Below w.heap.size w w' := by
  have hw1 : Below w.heap.size w (w.alloc (.cells #[.int .i64 top] 2)) := balloc (Below.refl _ _) _
  have h1 := containsMr_any A n c 308 zs #[.pointer (some ⟨w.heap.size, 0, none⟩)] (fun x => !rgB4 top x) _
    (enters_of Tryz.func308 (by kernel_rfl) rfl) (hz.below hw1) hn (fun x _ W hW => (knownC_any x.1 x.2 top w.heap.size W
      ((hW.cell (p := ⟨w.heap.size, 0, none⟩) (by simp)).trans (by simp)) (by have := hW.size; simp at this; omega)).mono fun e W' ⟨he, hb⟩ => ⟨he, hW.trans (hb.mono hW.size)⟩)
  have hany : Hid ((!zs.any fun x => !rgB4 top x) = zs.all fun x => rgB4 top x) := Lib.hid (by rw [List.not_any_eq_all_not]; congr 1; funext x; simp)
  clear hz
  generalize (zs.all fun x => rgB4 top x) = r at *
  generalize (zs.any fun x => !rgB4 top x) = r' at *
  go_enter Tryz.func227, Tryz.ntmps227
  go_wp2_with (go_at_call 60; refine h1.mono ?_; rintro e w' ⟨rfl, hb'⟩)
  go_ret
  exact ⟨ret_bool (by first | rfl | exact hany.out), hw1.trans (hb'.mono (by simp))⟩

set_option maxHeartbeats 1000000 in
theorem lenC_any (A : Option Addr) (n' c n b : Nat) (w : World) (hb : w.cell? ⟨b, 0, none⟩ = some (.int .i64 (n : Nat))) :
    Calls Tryz.prog 226 #[.slice A n' c, .pointer (some ⟨b, 0, none⟩)] w fun e w' => e = .returned (.bool (decide (n' ≠ n))) ∧ Below w.heap.size w w' := by
  by_cases h : n' = n
  · subst h
    have e1 : decide (n' ≠ n') = false := by simp
    rw [e1]
    go_enter Tryz.func226, Tryz.ntmps226
    go_wp2_with fail
    go_ret
    exact ⟨ret_bool (by simp), blA⟩
  · have e1 : decide (n' ≠ n) = true := by simp [h]
    rw [e1]
    have b1 : ((n' : Int) == (n : Int)) = false := by simp; omega
    have b2 : ((n' : Int) != (n : Int)) = true := by simp; omega
    go_enter Tryz.func226, Tryz.ntmps226
    go_wp2_with fail
    go_ret
    exact ⟨ret_bool (by simp [h]), blA⟩

theorem CaseOk.all {n m : Nat} {ls : List (Int × Int)} {rs : List (RowR (Int × Int))} (h : CaseOk n ls m rs) (hl : ls.length = n) : (ls.all fun x => rgB4 100 x) = true := by
  rw [List.all_eq_true]
  intro x hx
  obtain ⟨i, hi, rfl⟩ := List.mem_iff_getElem.1 hx
  rw [rgB4_iff]
  have := (h.2.2.2.2 i (by omega)).1
  unfold rgA at this
  rwa [List.getD_eq_getElem?_getD, List.getElem?_eq_getElem hi] at this
theorem CaseOk.row {n m k : Nat} {ls : List (Int × Int)} {rs : List (RowR (Int × Int))} (h : CaseOk n ls m rs) (hk : k < 3) (hl : (rwP rs k).zs.length = n) : ((rwP rs k).zs.all fun x => rgB4 100 x) = true := by
  rw [List.all_eq_true]
  intro x hx
  obtain ⟨i, hi, rfl⟩ := List.mem_iff_getElem.1 hx
  rw [rgB4_iff]
  have := (h.2.2.2.2 i (by omega)).2 k hk
  unfold egA rgA at this
  rwa [List.getD_eq_getElem?_getD, List.getElem?_eq_getElem hi] at this
theorem CaseOk.lens {n m : Nat} {ls : List (Int × Int)} {rs : List (RowR (Int × Int))} (h : CaseOk n ls m rs) (hl : rs.length = m) : (rs.any fun r => decide (r.n ≠ n)) = false := by
  rw [List.any_eq_false]
  intro r hr
  obtain ⟨i, hi, rfl⟩ := List.mem_iff_getElem.1 hr
  have := h.2.2.2.1 i (by have := h.2.2.1; omega)
  unfold rwP at this
  rw [List.getD_eq_getElem?_getD, List.getElem?_eq_getElem hi] at this
  simpa using this

set_option maxRecDepth 100000 in
set_option maxHeartbeats 4000000 in
theorem mcheckCase_ok (E : Option Addr) (m ce : Nat) (L : Option Addr) (n cl : Nat) (rs : List (RowR (Int × Int))) (ls : List (Int × Int)) (w : World) (h : Cse w E m L n rs ls) (hc : CaseOk n ls m rs) :
    Calls Tryz.prog 122 #[.agg #[.slice E m ce, .slice L n cl]] w fun e w' => e = .returned (.int .i64 0) ∧ Below w.heap.size w w' := by
  obtain rfl : m = 3 := hc.2.2.1
  have hn1 := hc.1
  have hn8 := hc.2.1
  have kc := fun (W : World) (hW : Below w.heap.size w W) (hx : W.cell? ⟨w.heap.size + 1, 0, none⟩ = some (.int .i64 (n : Nat))) (hlt : w.heap.size + 1 < W.heap.size) => containsRowP_any E 3 ce 226 rs #[.pointer (some ⟨w.heap.size + 1, 0, none⟩)] (fun r => decide (r.n ≠ n)) W
    (enters_of Tryz.func226 (by kernel_rfl) rfl) (h.e.below hW) (by omega) (fun x _ V hV => (lenC_any x.A x.n x.c n (w.heap.size + 1) V ((hV.cell (p := ⟨w.heap.size + 1, 0, none⟩) hlt).trans hx)).mono fun e W' ⟨he, hb⟩ => ⟨he, hV.trans (hb.mono hV.size)⟩)
  rw [hc.lens h.e.1] at kc
  have kl := fun (W : World) (hW : Below w.heap.size w W) => known_any 100 L n cl ls W (h.l.below hW) h.ml
  rw [hc.all h.l.1] at kl
  have He := Lib.hid h.e
  have Hc := Lib.hid hc
  clear h hc
  have b1 : ¬ (n : Int) = 0 := by omega
  have b2 : ¬ (8 : Int) < (n : Int) := by omega
  have b3 : ((n : Int) == 0) = false := by simp; omega
  have b4 : decide ((8 : Int) < (n : Int)) = false := by simp; omega
  go_enter Tryz.func122, Tryz.ntmps122
  go_wp2_with fail
  refine (kc _ blA (by simp) (by simp)).mono ?_
  rintro _ w2 ⟨rfl, hb2⟩
  have B0 : Cs w2 w.heap.size #[.slice E 3 ce, .slice L n cl] := Cs.keep csA hb2
  have hbw : Below w.heap.size w w2 := blA
  clear hb2 kc
  have cB0 := B0.c
  have fB0 := B0.f
  have lB0 := B0.lt
  go_wp2_with fail
  refine (kl _ hbw).mono ?_
  rintro _ w3 ⟨rfl, hb3⟩
  replace B0 : Cs w3 (w.heap.size) #[.slice E 3 ce, .slice L n cl] := Cs.keep csA hb3
  replace hbw : Below w.heap.size w w3 := blA
  replace cB0 := B0.c
  replace fB0 := B0.f
  replace lB0 := B0.lt
  clear hb3
  clear kl
  have HB0 := Lib.hid B0
  go_wp2_with fail
  clear B0 cB0 fB0 lB0
  go_loopw [4, 32] (fun s4 s32 wx => ∃ (i : Nat) (W : World), i ≤ 3 ∧ s32 = .int .i64 (i : Nat) ∧ s4 = .bool true ∧ Hid (W = wx) ∧ Cs W w.heap.size #[.slice E 3 ce, .slice L n cl] ∧ Below w.heap.size w W) (fun _ s32 _ => 3 - (intOf s32).toNat)
  case atStart => exact ⟨0, _, Nat.zero_le _, rfl, rfl, Lib.hid rfl, HB0.out, blA⟩
  case round =>
    clear HB0 hbw
    obtain ⟨i, W, hi, rfl, rfl, HW, B0, hbw⟩ := hrel
    obtain rfl := HW.out
    clear HW
    by_cases hin : i < 3
    · have hki : (i : Int) < 3 := by omega
      obtain ⟨b, off, A', n', c', zs', rfl, hg, hlt, c0, hp, hn'⟩ := He.out.atA hbw hin
      have hrow := Hc.out.row hin (by rw [hg]; have := hp.1; have h2 := Hc.out.2.2.2.1 i hin; rw [hg] at h2; exact this.trans h2)
      rw [hg] at hrow
      have k1 := fun (V : World) (hV : Below W.heap.size W V) => known_any 100 A' n' c' zs' V (hp.below hV) hn'
      dsimp only at hrow
      rw [hrow] at k1
      clear hrow hp hg
      have cB0 := B0.c
      have fB0 := B0.f
      have lB0 := B0.lt
      go_wp2_with fail
      refine (k1 _ (Below.refl _ _)).mono ?_
      rintro _ w4 ⟨rfl, hb4⟩
      replace B0 : Cs w4 (w.heap.size) #[.slice (some ⟨b, off, none⟩) 3 ce, .slice L n cl] := Cs.keep csA hb4
      replace hbw : Below w.heap.size w w4 := blA
      replace cB0 := B0.c
      replace fB0 := B0.f
      replace lB0 := B0.lt
      clear hb4
      clear k1 c0
      go_wp2_with fail
      go_roundw
      case rel => exact ⟨i + 1, _, by omega, by go_num, rfl, Lib.hid rfl, csA, blA⟩
      case measure => simp [intOf]; omega
    · obtain rfl : i = 3 := by omega
      go_wp2_with fail
      go_ret
      exact ⟨rfl, blA⟩

end Go.Proofs.YtlbjnkopbabcnaaGreatDoor
end
