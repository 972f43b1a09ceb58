/- PB2 -/
import Derived.Test.YtlbjnkopbabcnaaGreatDoorYP03
/- Walks of the reference of layer 4: CheckCase, Chips. -/
section
namespace Go.Proofs.YtlbjnkopbabcnaaGreatDoor
open Go.RowKit Go.Shelf
set_option linter.unusedSimpArgs false
set_option linter.unusedVariables false

set_option maxRecDepth 100000 in
set_option maxHeartbeats 8000000 in
theorem rcheckCase_any (E : Option Addr) (m ce : Nat) (L : Option Addr) (n cl : Nat) (rs : List (RowR (Int × Int))) (ls : List (Int × Int)) (w : World) (h : Cse w E m L n rs ls) :
    Calls Tryz.prog 20 #[.agg #[.slice E m ce, .slice L n cl]] w fun e w' => (∃ q : Int, e = .returned (.int .i64 q) ∧ (q = 0 ↔ CaseOk n ls m rs)) ∧ Below w.heap.size w w' := by
  by_cases a1 : n < 1
  · have hq := Lib.hid (no_iff (q := 6) (by decide) (fun q : CaseOk n ls m rs => by have := q.1; omega))
    have b1 : (n : Int) < 1 := by omega
    clear h
    go_enter Tryz.func20, Tryz.ntmps20
    go_wp2_with fail
    go_ret
    exact ⟨⟨6, rfl, hq.out⟩, blA⟩
  by_cases a2 : 8 < n
  · have hq := Lib.hid (no_iff (q := 6) (by decide) (fun q : CaseOk n ls m rs => by have := q.2.1; omega))
    have b1 : ¬ (n : Int) < 1 := by omega
    have b2 : (8 : Int) < (n : Int) := by omega
    clear h
    go_enter Tryz.func20, Tryz.ntmps20
    go_wp2_with fail
    go_ret
    exact ⟨⟨6, rfl, hq.out⟩, blA⟩
  have b1 : ¬ (n : Int) < 1 := by omega
  have b2 : ¬ (8 : Int) < (n : Int) := by omega
  by_cases a3 : m = 3
  · subst a3
    have Hn := Lib.hid (show 1 ≤ n ∧ n ≤ 8 by omega)
    have He := Lib.hid h.e
    have Hl := Lib.hid h.l
    clear h a1 a2
    go_enter Tryz.func20, Tryz.ntmps20
    have B1 : Cs (w.alloc (.cells #[.slice E 3 ce, .slice L n cl] 25)) w.heap.size #[.slice E 3 ce, .slice L n cl] := csA
    have HB1 := Lib.hid B1
    clear B1
    go_wp2_with fail
    go_loopw [4] (fun s4 wx => ∃ (i : Nat) (W : World), i ≤ 3 ∧ s4 = .int .i64 (i : Nat) ∧ Hid (∀ j, j < i → (rwP rs j).n = n) ∧ Hid (W = wx) ∧ Cs W w.heap.size #[.slice E 3 ce, .slice L n cl] ∧ Below w.heap.size w W) (fun s4 _ => 3 - (intOf s4).toNat)
    case atStart => exact ⟨0, _, Nat.zero_le _, rfl, Lib.hid (fun j hj => by omega), Lib.hid rfl, HB1.out, blA⟩
    case round =>
      clear HB1
      obtain ⟨i, W, hi, rfl, HI, HW, B1, hbw⟩ := hrel
      obtain rfl := HW.out
      clear HW
      by_cases hin : i < 3
      · obtain ⟨b, off, A', n', c', zs', rfl, hg, hlt, c0, _⟩ := He.out.atA hbw hin
        have Hg : Hid ((rwP rs i).n = n') := Lib.hid (by rw [hg])
        clear hg
        have cB1 := B1.c
        have fB1 := B1.f
        have lB1 := B1.lt
        by_cases e1 : n' = n
        · subst e1
          have HN : Hid (∀ j, j < i + 1 → (rwP rs j).n = n') := Lib.hid (fun j hj => by
            by_cases e : j = i
            · subst e; exact Hg.out
            · exact HI.out j (by omega))
          have k1 : ((n' : Int) != (n' : Int)) = false := by simp
          clear HI Hg
          go_wp2_with fail
          go_roundw
          case rel => exact ⟨i + 1, _, by omega, by go_num, HN, Lib.hid rfl, csA, blA⟩
          case measure => simp [intOf]; omega
        · have hq := Lib.hid (no_iff (q := 15) (by decide) (fun q : CaseOk n ls 3 rs => by have := q.2.2.2.1 i hin; rw [Hg.out] at this; omega))
          have k1 : ((n' : Int) == (n : Int)) = false := by simp; omega
          have k2 : ((n' : Int) != (n : Int)) = true := by simp; omega
          go_wp2_with fail
          go_ret
          exact ⟨⟨15, rfl, hq.out⟩, blA⟩
      · have hi3 : 3 ≤ i := by omega
        replace HI : Hid (∀ j, j < 3 → (rwP rs j).n = n) := Lib.hid (fun j hj => HI.out j (by omega))
        have HB1 := Lib.hid B1
        clear B1
        go_wp2_with fail
        go_loopw [5] (fun s5 wx => ∃ (i : Nat) (W : World), i ≤ n ∧ s5 = .int .i64 (i : Nat) ∧ Hid (∀ b, b < i → Mm.okr 100 (rgA ls b) ∧ ∀ j, j < 3 → Mm.okr 100 (egA rs j b)) ∧ Hid (W = wx) ∧ Cs W w.heap.size #[.slice E 3 ce, .slice L n cl] ∧ Below w.heap.size w W) (fun s5 _ => n - (intOf s5).toNat)
        case atStart => exact ⟨0, _, Nat.zero_le _, rfl, Lib.hid (fun j hj => by omega), Lib.hid rfl, HB1.out, blA⟩
        case round =>
          clear HB1 hbw
          obtain ⟨i', W, hi', rfl, HJ, HW, B1, hbw⟩ := hrel
          obtain rfl := HW.out
          clear HW
          by_cases hin : i' < n
          · obtain ⟨b, off, rfl, hlt, c0, c1⟩ := Hl.out.atA hbw hin
            obtain ⟨x, y, hxy⟩ : ∃ x y, rgA ls i' = (x, y) := ⟨_, _, rfl⟩
            rw [hxy] at c0 c1
            have Hxy := Lib.hid hxy
            clear hxy
            have k1 := fun V => rvalid4_any x y 100 V
            have Hk := Lib.hid (rgB4_iff 100 (x, y))
            generalize rgB4 100 (x, y) = t at *
            have cB1 := B1.c
            have fB1 := B1.f
            have lB1 := B1.lt
            dsimp only at c0 c1
            go_wp2_with fail
            refine (k1 _).mono ?_
            rintro _ w2 ⟨rfl, hb2⟩
            replace B1 : Cs w2 (w.heap.size) #[.slice E 3 ce, .slice (some ⟨b, off, none⟩) n cl] := Cs.keep csA hb2
            replace hbw : Below w.heap.size w w2 := blA
            replace cB1 := B1.c
            replace fB1 := B1.f
            replace lB1 := B1.lt
            clear hb2
            clear k1 c0 c1
            cases t with
            | false =>
              have hq := Lib.hid (no_iff (q := 2) (by decide) (fun q : CaseOk n ls 3 rs => by have := (q.2.2.2.2 i' hin).1; rw [Hxy.out] at this; exact absurd (Hk.out.2 this) (by decide)))
              go_wp2_with fail
              go_ret
              exact ⟨⟨2, rfl, hq.out⟩, blA⟩
            | true =>
              have HO : Hid (Mm.okr 100 (rgA ls i')) := Lib.hid (by rw [Hxy.out]; exact Hk.out.1 rfl)
              have HB1 := Lib.hid B1
              clear B1 cB1 fB1 lB1 Hk Hxy
              go_wp2_with fail
              go_loopw [6] (fun s6 wx => ∃ (j : Nat) (W : World), j ≤ 3 ∧ s6 = .int .i64 (j : Nat) ∧ Hid (∀ q, q < j → Mm.okr 100 (egA rs q i')) ∧ Hid (W = wx) ∧ Cs W w.heap.size #[.slice E 3 ce, .slice (some ⟨b, off, none⟩) n cl] ∧ Below w.heap.size w W) (fun s6 _ => 3 - (intOf s6).toNat)
              case atStart => exact ⟨0, _, Nat.zero_le _, rfl, Lib.hid (fun j hj => by omega), Lib.hid rfl, HB1.out, blA⟩
              case round =>
                clear HB1 hbw
                obtain ⟨j, W2, hj, rfl, HQ, HW, B1, hbw⟩ := hrel
                obtain rfl := HW.out
                clear HW
                by_cases hjn : j < 3
                · obtain ⟨eb, eo, A', n', c', zs', rfl, hg, elt, c0, hp, hn'⟩ := He.out.atA hbw hjn
                  have hnn : n' = n := by have := HI.out j hjn; rw [hg] at this; exact this
                  subst hnn
                  obtain ⟨pb, po, rfl, plt, p0, p1⟩ := hp.atA (Below.refl _ _) hin
                  obtain ⟨x, y, hxy⟩ : ∃ x y, rgA zs' i' = (x, y) := ⟨_, _, rfl⟩
                  rw [hxy] at p0 p1
                  have Hxy : Hid (egA rs j i' = (x, y)) := Lib.hid (by unfold egA; rw [hg]; exact hxy)
                  clear hxy hg hp
                  have k1 := fun V => rvalid4_any x y 100 V
                  have Hk := Lib.hid (rgB4_iff 100 (x, y))
                  generalize rgB4 100 (x, y) = t at *
                  have cB1 := B1.c
                  have fB1 := B1.f
                  have lB1 := B1.lt
                  dsimp only at p0 p1
                  go_wp2_with fail
                  refine (k1 _).mono ?_
                  rintro _ w3 ⟨rfl, hb3⟩
                  replace B1 : Cs w3 (w.heap.size) #[.slice (some ⟨eb, eo, none⟩) 3 ce, .slice (some ⟨b, off, none⟩) n' cl] := Cs.keep csA hb3
                  replace hbw : Below w.heap.size w w3 := blA
                  replace cB1 := B1.c
                  replace fB1 := B1.f
                  replace lB1 := B1.lt
                  clear hb3
                  clear k1 c0 p0 p1
                  cases t with
                  | false =>
                    have hq := Lib.hid (no_iff (q := 2) (by decide) (fun q : CaseOk n' ls 3 rs => by have := (q.2.2.2.2 i' hin).2 j hjn; rw [Hxy.out] at this; exact absurd (Hk.out.2 this) (by decide)))
                    go_wp2_with fail
                    go_ret
                    exact ⟨⟨2, rfl, hq.out⟩, blA⟩
                  | true =>
                    have HQ' : Hid (∀ q, q < j + 1 → Mm.okr 100 (egA rs q i')) := Lib.hid (fun q hq => by
                      by_cases e : q = j
                      · subst e; rw [Hxy.out]; exact Hk.out.1 rfl
                      · exact HQ.out q (by omega))
                    clear HQ Hk Hxy
                    go_wp2_with fail
                    go_roundw
                    case rel => exact ⟨j + 1, _, by omega, by go_num, HQ', Lib.hid rfl, csA, blA⟩
                    case measure => simp [intOf]; omega
                · have hj3 : 3 ≤ j := by omega
                  replace HQ : Hid (∀ q, q < 3 → Mm.okr 100 (egA rs q i')) := Lib.hid (fun q hq => HQ.out q (by omega))
                  have HJ' : Hid (∀ b, b < i' + 1 → Mm.okr 100 (rgA ls b) ∧ ∀ j, j < 3 → Mm.okr 100 (egA rs j b)) := Lib.hid (fun q hq => by
                    by_cases e : q = i'
                    · subst e; exact ⟨HO.out, HQ.out⟩
                    · exact HJ.out q (by omega))
                  clear HJ HQ HO
                  go_wp2_with fail
                  go_roundw
                  case rel => exact ⟨i' + 1, _, by omega, by go_num, HJ', Lib.hid rfl, csA, blA⟩
                  case measure => simp [intOf]; omega
          · obtain rfl : i' = n := by omega
            go_wp2_with fail
            go_ret
            exact ⟨⟨0, rfl, ⟨fun _ => ⟨Hn.out.1, Hn.out.2, rfl, HI.out, HJ.out⟩, fun _ => rfl⟩⟩, blA⟩
  · have hq := Lib.hid (no_iff (q := 15) (by decide) (fun q : CaseOk n ls m rs => a3 q.2.2.1))
    have b3 : ((m : Int) == 3) = false := by simp; omega
    have b4 : ((m : Int) != 3) = true := by simp; omega
    clear h
    go_enter Tryz.func20, Tryz.ntmps20
    go_wp2_with fail
    go_ret
    exact ⟨⟨15, rfl, hq.out⟩, blA⟩

set_option maxRecDepth 100000 in
set_option maxHeartbeats 4000000 in
theorem rchips_any (E : Option Addr) (m ce : Nat) (L : Option Addr) (n cl : Nat) (rs : List (RowR (Int × Int))) (ls : List (Int × Int)) (A : Option Addr) (k c : Nat) (zs : List Int) (B : Option Addr) (k2 c2 : Nat) (us : List Int) (w : World) (h : Cse w E m L n rs ls) (hz : Ints w A k zs) (hk : k ≤ 9223372036854775807) (hu : Ints w B k2 us) (hk2 : k2 ≤ 9223372036854775807) :
    Calls Tryz.prog 29 #[.agg #[.slice E m ce, .slice L n cl], .slice A k c, .slice B k2 c2] w fun e w' => (∃ q : Int, e = .returned (.int .i64 q) ∧ (q = 0 ↔ CaseOk n ls m rs ∧ ChipOk n k zs ∧ ChipOk n k2 us)) ∧ Below w.heap.size w w' := by
  have k1 := fun (V : World) (hb : Below w.heap.size w V) => rcheckCase_any E m ce L n cl rs ls V (h.below hb)
  have k3 := fun (V : World) (hb : Below w.heap.size w V) => rchip_any E m ce L n cl A k c zs V (hz.below hb) hk
  have k4 := fun (V : World) (hb : Below w.heap.size w V) => rchip_any E m ce L n cl B k2 c2 us V (hu.below hb) hk2
  clear h hz hu
  go_enter Tryz.func29, Tryz.ntmps29
  have B1 : Cs (w.alloc (.cells #[.slice E m ce, .slice L n cl] 25)) w.heap.size #[.slice E m ce, .slice L n cl] := csA
  go_wp2_with fail
  refine (k1 _ blA).mono ?_
  rintro _ w2 ⟨⟨q, rfl, hq⟩, hb2⟩
  have Hq := Lib.hid hq
  clear hq
  replace B1 : Cs w2 (w.heap.size) #[.slice E m ce, .slice L n cl] := Cs.keep csA hb2
  replace hbw : Below w.heap.size w w2 := blA
  replace cB1 := B1.c
  replace fB1 := B1.f
  replace lB1 := B1.lt
  clear hb2
  by_cases d1 : q = 0
  · subst d1
    have HC := Lib.hid (Hq.out.1 rfl)
    clear Hq k1
    go_wp2_with fail
    refine (k3 _ blA).mono ?_
    rintro _ w3 ⟨⟨q, rfl, hq⟩, hb3⟩
    have Hq := Lib.hid hq
    clear hq
    replace B1 : Cs w3 (w.heap.size) #[.slice E m ce, .slice L n cl] := Cs.keep csA hb3
    replace hbw : Below w.heap.size w w3 := blA
    replace cB1 := B1.c
    replace fB1 := B1.f
    replace lB1 := B1.lt
    clear hb3
    by_cases d2 : q = 0
    · subst d2
      have HD := Lib.hid (Hq.out.1 rfl)
      clear Hq k3
      go_wp2_with fail
      refine (k4 _ blA).mono ?_
      rintro _ w4 ⟨⟨q, rfl, hq⟩, hb4⟩
      have Hq := Lib.hid hq
      clear hq
      try clear cB1 fB1 lB1
      try clear B1
      replace hbw : Below w.heap.size w w4 := blA
      clear hb4
      clear k4
      go_wp2_with fail
      go_ret
      exact ⟨⟨q, rfl, Hq.out.trans ⟨fun x => ⟨HC.out, HD.out, x⟩, fun x => x.2.2⟩⟩, blA⟩
    · have e1 : (q == 0) = false := by simp; omega
      have e2 : (q != 0) = true := by simp; omega
      clear k4
      go_wp2_with fail
      refine (k3 _ blA).mono ?_
      rintro _ w4 ⟨⟨q2, rfl, hq2⟩, hb4⟩
      have Hq2 := Lib.hid hq2
      clear hq2
      try clear cB1 fB1 lB1
      try clear B1
      replace hbw : Below w.heap.size w w4 := blA
      clear hb4
      clear k3
      have hr := Lib.hid (show q2 = 0 ↔ CaseOk n ls m rs ∧ ChipOk n k zs ∧ ChipOk n k2 us from ⟨fun x => absurd (Hq.out.2 (Hq2.out.1 x)) d2, fun x => absurd (Hq.out.2 x.2.1) d2⟩)
      go_wp2_with fail
      go_ret
      exact ⟨⟨q2, rfl, hr.out⟩, blA⟩
  · have e1 : (q == 0) = false := by simp; omega
    have e2 : (q != 0) = true := by simp; omega
    clear k3 k4
    go_wp2_with fail
    refine (k1 _ blA).mono ?_
    rintro _ w4 ⟨⟨q2, rfl, hq2⟩, hb4⟩
    have Hq2 := Lib.hid hq2
    clear hq2
    try clear cB1 fB1 lB1
    try clear B1
    replace hbw : Below w.heap.size w w4 := blA
    clear hb4
    clear k1
    have hr := Lib.hid (show q2 = 0 ↔ CaseOk n ls m rs ∧ ChipOk n k zs ∧ ChipOk n k2 us from ⟨fun x => absurd (Hq.out.2 (Hq2.out.1 x)) d1, fun x => absurd (Hq.out.2 x.1) d1⟩)
    go_wp2_with fail
    go_ret
    exact ⟨⟨q2, rfl, hr.out⟩, blA⟩

end Go.Proofs.YtlbjnkopbabcnaaGreatDoor
end
