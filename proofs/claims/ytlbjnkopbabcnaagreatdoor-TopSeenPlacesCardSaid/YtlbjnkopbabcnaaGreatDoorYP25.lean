/- PF4 -/
import Derived.Test.YtlbjnkopbabcnaaGreatDoorYP24
import Derived.Test.YtlbjnkopbabcnaaGreatDoorYV12
/- TopSeenPlaces: the walk for all arguments. -/
section
namespace Go.Proofs.YtlbjnkopbabcnaaGreatDoor
open Go.RowKit Go.Shelf
set_option linter.unusedSimpArgs false
set_option linter.unusedVariables false

set_option maxRecDepth 100000 in
set_option maxHeartbeats 4000000 in
theorem topSeen_any (E : Option Addr) (m ce : Nat) (L : Option Addr) (n cl : Nat) (rs : List (RowR (Int × Int))) (ls : List (Int × Int)) (C : Option Addr) (k cC : Nat) (cs : List (RowR Int)) (B : Option Addr) (kb cb : Nat) (us : List Int) (cv wh : Int) (w : World)
    (h : Cse w E m L n rs ls) (hr : RowsI w C k cs) (hk9 : k ≤ 9223372036854775807) (hu : U16s w B kb us) (hkb9 : kb ≤ 9223372036854775807) (c0 : 0 ≤ cv) (c1 : cv ≤ 255) (d0 : 0 ≤ wh) (d1 : wh ≤ 255) (hG : GlobW w) :
    Calls Tryz.prog 3 #[.agg #[.slice E m ce, .slice L n cl], .slice C k cC, .slice B kb cb, .int .u8 cv, .int .u8 wh] w fun e w' => e = .returned (.bool true) ∧ Below w.heap.size w w' := by
  by_cases hall : CaseOk n ls m rs ∧ 1 ≤ k ∧ k ≤ 12 ∧ kb ≤ 60
  · obtain ⟨hc, h1, h2, h3⟩ := hall
    obtain rfl : m = 3 := hc.2.2.1
    exact topSeen_main E ce L n cl rs ls C k cC cs B kb cb us cv wh w h hc hr hu h1 h2 h3 c0 c1 d0 d1 hG
  have kc := fun (V : World) (hV : Below w.heap.size w V) => case04_any E m ce L n cl rs ls V (h.below hV)
  have kw := fun (V : World) (hV : Below w.heap.size w V) => top_works04_any V (hG.below hV)
  have KW := Lib.hid kw
  clear kw h hr hu hG
  go_enter Tryz.func3, Tryz.ntmps3
  go_wp2_with fail
  refine (kc _ blA).mono ?_
  rintro _ w1 ⟨⟨b0, rfl, hb0⟩, hb1⟩
  have hbw : Below w.heap.size w w1 := blA
  have HB := Lib.hid hbw
  clear hb1 kc hbw
  cases b0 with
  | false =>
    go_wp2_with fail
    refine (KW.out _ HB.out).mono ?_
    rintro _ w2 ⟨rfl, hb2⟩
    have HB2 := Lib.hid (HB.out.trans (hb2.mono HB.out.size))
    go_wp2_with fail
    go_ret
    exact ⟨rfl, HB2.out⟩
  | true =>
    have hc := hb0.1 rfl
    by_cases h1 : (k : Int) < 1
    · clear hb0
      go_wp2_with fail
      refine (KW.out _ HB.out).mono ?_
      rintro _ w2 ⟨rfl, hb2⟩
      have HB2 := Lib.hid (HB.out.trans (hb2.mono HB.out.size))
      go_wp2_with fail
      go_ret
      exact ⟨rfl, HB2.out⟩
    · by_cases h2 : (12 : Int) < (k : Int)
      · clear hb0
        go_wp2_with fail
        refine (KW.out _ HB.out).mono ?_
        rintro _ w2 ⟨rfl, hb2⟩
        have HB2 := Lib.hid (HB.out.trans (hb2.mono HB.out.size))
        go_wp2_with fail
        go_ret
        exact ⟨rfl, HB2.out⟩
      · have h3 : (60 : Int) < (kb : Int) := by
          have h9 : ¬ kb ≤ 60 := fun h3 => hall ⟨hc, by omega, by omega, h3⟩
          omega
        clear hb0
        go_wp2_with fail
        refine (KW.out _ HB.out).mono ?_
        rintro _ w2 ⟨rfl, hb2⟩
        have HB2 := Lib.hid (HB.out.trans (hb2.mono HB.out.size))
        go_wp2_with fail
        go_ret
        exact ⟨rfl, HB2.out⟩
end Go.Proofs.YtlbjnkopbabcnaaGreatDoor
end
