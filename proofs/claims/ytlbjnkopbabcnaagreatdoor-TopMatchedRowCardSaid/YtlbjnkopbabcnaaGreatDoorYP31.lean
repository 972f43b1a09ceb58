/- PG6 -/
import Derived.Test.YtlbjnkopbabcnaaGreatDoorYP30
/- TopMatchedRow: the walk for all arguments. -/
section
namespace Go.Proofs.YtlbjnkopbabcnaaGreatDoor
open Go.RowKit Go.Shelf
set_option linter.unusedSimpArgs false
set_option linter.unusedVariables false

set_option maxRecDepth 100000 in
set_option maxHeartbeats 4000000 in
theorem topMatched_any (E : Option Addr) (m ce : Nat) (L : Option Addr) (n cl : Nat) (rs : List (RowR (Int × Int))) (ls : List (Int × Int)) (A : Option Addr) (k1 cA : Nat) (zs : List Int) (B : Option Addr) (k2 cB : Nat) (us : List Int) (D : Option Addr) (kb cb : Nat) (ts : List Int) (w : World)
    (h : Cse w E m L n rs ls) (hz : Ints w A k1 zs) (hk1 : k1 ≤ 9223372036854775807) (hu : Ints w B k2 us) (hk2 : k2 ≤ 9223372036854775807) (ht : U16s w D kb ts) (hkb9 : kb ≤ 9223372036854775807) (hG : GlobW w) :
    Calls Tryz.prog 6 #[.agg #[.slice E m ce, .slice L n cl], .slice A k1 cA, .slice B k2 cB, .slice D kb cb] w fun e w' => e = .returned (.bool true) ∧ Below w.heap.size w w' := by
  by_cases hall : CaseOk n ls m rs ∧ ChipOk n k1 zs ∧ ChipOk n k2 us ∧ kb ≤ 60
  · obtain ⟨hc, h1, h2, h3⟩ := hall
    obtain rfl : m = 3 := hc.2.2.1
    obtain rfl : n = k1 := h1.1.symm
    obtain rfl : n = k2 := h2.1.symm
    exact topMatched_main E ce L n cl rs ls A cA zs B cB us D kb cb ts w h hc hz h1 hu h2 ht h3 hG
  have kc := fun (V : World) (hV : Below w.heap.size w V) => case04_any E m ce L n cl rs ls V (h.below hV)
  have kch := fun (V : World) (hV : Below w.heap.size w V) => rchips_any E m ce L n cl rs ls A k1 cA zs B k2 cB us V (h.below hV) (hz.below hV) hk1 (hu.below hV) hk2
  have kw := fun (V : World) (hV : Below w.heap.size w V) => top_works04_any V (hG.below hV)
  have KW := Lib.hid kw
  have Hall := Lib.hid hall
  clear kw h hz hu ht hG hall
  go_enter Tryz.func6, Tryz.ntmps6
  go_wp2_with fail
  refine (kc _ blA).mono ?_
  rintro _ w1 ⟨⟨b0, rfl, hb0⟩, hb1⟩
  have B4 : Cs w1 w.heap.size #[.slice E m ce, .slice L n cl] := Cs.keep csA hb1
  have hbw : Below w.heap.size w w1 := blA
  have HB := Lib.hid hbw
  have Hb0 := Lib.hid hb0
  clear hb1 kc hb0
  cases b0 with
  | false =>
    clear B4 hbw kch
    go_wp2_with fail
    refine (KW.out _ HB.out).mono ?_
    rintro _ w2 ⟨rfl, hb2⟩
    have HB2 := Lib.hid (HB.out.trans (hb2.mono HB.out.size))
    go_wp2_with fail
    go_ret
    exact ⟨rfl, HB2.out⟩
  | true =>
    have cB4 := B4.c
    go_wp2_with fail
    refine (kch _ hbw).mono ?_
    rintro _ w2 ⟨⟨q, rfl, hq⟩, hb2⟩
    have HB2 := Lib.hid (hbw.trans (hb2.mono hbw.size))
    clear B4 cB4 kch hb2 hbw
    by_cases hq0 : q = 0
    · have h3 : (60 : Int) < (kb : Int) := by
        have h9 : ¬ kb ≤ 60 := fun h3 => Hall.out ⟨(hq.1 hq0).1, (hq.1 hq0).2.1, (hq.1 hq0).2.2, h3⟩
        omega
      subst hq0
      clear hq
      go_wp2_with fail
      refine (KW.out _ HB2.out).mono ?_
      rintro _ w3 ⟨rfl, hb3⟩
      have HB3 := Lib.hid (HB2.out.trans (hb3.mono HB2.out.size))
      go_wp2_with fail
      go_ret
      exact ⟨rfl, HB3.out⟩
    · have hq1 : (q == 0) = false := by simpa using hq0
      have hq2 : (q != 0) = true := by simpa using hq0
      clear hq
      go_wp2_with fail
      refine (KW.out _ HB2.out).mono ?_
      rintro _ w3 ⟨rfl, hb3⟩
      have HB3 := Lib.hid (HB2.out.trans (hb3.mono HB2.out.size))
      go_wp2_with fail
      go_ret
      exact ⟨rfl, HB3.out⟩
end Go.Proofs.YtlbjnkopbabcnaaGreatDoor
end
