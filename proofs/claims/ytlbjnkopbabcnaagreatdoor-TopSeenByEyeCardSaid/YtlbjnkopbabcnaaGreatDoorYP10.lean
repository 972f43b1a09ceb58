/- PC2 -/
import Derived.Test.YtlbjnkopbabcnaaGreatDoorYP09
import Derived.Test.YtlbjnkopbabcnaaGreatDoorYP08
/- Walks of package metamer: a case with chips. -/
section
namespace Go.Proofs.YtlbjnkopbabcnaaGreatDoor
open Go.RowKit Go.Shelf
set_option linter.unusedSimpArgs false
set_option linter.unusedVariables false

theorem ChipOk.all {n k : Nat} {zs : List Int} (h : ChipOk n k zs) (hl : zs.length = k) : (zs.all fun x => !out 0 1000 x) = true := by
  rw [List.all_eq_true]
  intro x hx
  obtain ⟨i, hi, rfl⟩ := List.mem_iff_getElem.1 hx
  have := h.2 i (by have := h.1; omega)
  rw [List.getD_eq_getElem?_getD, List.getElem?_eq_getElem hi] at this
  simp at this
  simp [out]; omega

set_option maxHeartbeats 1000000 in
theorem mcheck_ok (E : Option Addr) (m ce : Nat) (L : Option Addr) (n cl : Nat) (A : Option Addr) (k c : Nat) (zs : List Int) (w : World) (hz : Ints w A k zs) (hk : k ≤ 9223372036854775807) (ho : ChipOk n k zs) :
    Calls Tryz.prog 123 #[.agg #[.slice E m ce, .slice L n cl], .slice A k c] w fun e w' => e = .returned (.int .i64 0) ∧ Below w.heap.size w w' := by
  obtain rfl : k = n := ho.1
  have k1 := fun (W : World) (hW : Below w.heap.size w W) => mwithin_any 0 1000 A k c zs W (hz.below hW) hk
  rw [ho.all hz.1] at k1
  clear hz ho
  go_enter Tryz.func123, Tryz.ntmps123
  go_wp2_with fail
  refine (k1 _ blA).mono ?_
  rintro _ w2 ⟨rfl, hb2⟩
  have hbw : Below w.heap.size w w2 := blA
  clear hb2 k1
  go_wp2_with fail
  go_ret
  exact ⟨rfl, blA⟩

theorem RowsI.atA {w wr : World} {E : Option Addr} {m k : Nat} {rs : List (RowR Int)} (h : RowsI w E m rs) (hb : Below w.heap.size w wr) (hk : k < m) :
    ∃ b off A n c zs, E = some ⟨b, off, none⟩ ∧ rwI rs k = ⟨A, n, c, zs⟩ ∧ b < w.heap.size ∧ wr.cell? ⟨b, off + k, none⟩ = some (.slice A n c) ∧ Ints wr A n zs ∧ n ≤ 9223372036854775807 ∧ ⟨A, n, c, zs⟩ ∈ rs := by
  obtain ⟨b, off, A, n, c, zs, e, hg, h1, h2, h3, h4⟩ := RowsQ.at_ h hb hk
  exact ⟨b, off, A, n, c, zs, e, by unfold rwI; rw [List.getD_eq_getElem?_getD, hg]; rfl, h1, h2, h3, h4, List.mem_of_getElem? hg⟩

set_option maxRecDepth 100000 in
set_option maxHeartbeats 4000000 in
theorem newMatcher_ok (E : Option Addr) (m ce : Nat) (L : Option Addr) (n cl : Nat) (rs : List (RowR (Int × Int))) (ls : List (Int × Int)) (C : Option Addr) (r cc : Nat) (cs : List (RowR Int)) (w : World) (h : Cse w E m L n rs ls) (hc : CaseOk n ls m rs) (hr : RowsI w C r cs) (hr9 : r ≤ 9223372036854775807) (hok : ∀ x ∈ cs, ChipOk n x.n x.zs) :
    Calls Tryz.prog 54 #[.agg #[.slice E m ce, .slice L n cl], .slice C r cc] w fun e w' => e = .returned (.tuple #[.agg #[.slice E m ce, .slice L n cl], .int .i64 0]) ∧ Below w.heap.size w w' := by
  have k1 := fun (W : World) (hW : Below w.heap.size w W) => mcheckCase_ok E m ce L n cl rs ls W (h.below hW) hc
  have Hr := Lib.hid hr
  have Hok := Lib.hid hok
  clear h hc hr hok
  go_enter Tryz.func54, Tryz.ntmps54
  go_wp2_with fail
  refine (k1 _ blA).mono ?_
  rintro _ w2 ⟨rfl, hb2⟩
  have B0 : Cs w2 (w.heap.size + 1) #[.slice none 0 0, .slice none 0 0] := Cs.keep csA hb2
  have B1 : Cs w2 (w.heap.size + 1 + 1) #[.slice E m ce, .slice L n cl] := Cs.keep csA hb2
  have hbw : Below w.heap.size w w2 := blA
  clear hb2 k1
  have cB0 := B0.c
  have fB0 := B0.f
  have lB0 := B0.lt
  have cB1 := B1.c
  have fB1 := B1.f
  have lB1 := B1.lt
  go_wp2_with fail
  have HB0 := Lib.hid B0
  have HB1 := Lib.hid B1
  clear B0 cB0 fB0 lB0 B1 cB1 fB1 lB1
  go_loopw [24] (fun s24 wx => ∃ (i : Nat) (W : World), i ≤ r ∧ s24 = .int .i64 (i : Nat) ∧ Hid (W = wx) ∧ Cs W (w.heap.size + 1) #[.slice none 0 0, .slice none 0 0] ∧ Cs W (w.heap.size + 1 + 1) #[.slice E m ce, .slice L n cl] ∧ Below w.heap.size w W) (fun s24 _ => r - (intOf s24).toNat)
  case atStart => exact ⟨0, _, Nat.zero_le _, rfl, Lib.hid rfl, HB0.out, HB1.out, blA⟩
  case round =>
    clear HB0 HB1 hbw
    obtain ⟨i, W, hi, rfl, HW, B0, B1, hbw⟩ := hrel
    obtain rfl := HW.out
    clear HW
    by_cases hin : i < r
    · obtain ⟨b, off, A', n', c', zs', rfl, hg, hlt, c0, hp, hn', hmem⟩ := Hr.out.atA hbw hin
      have k1 := fun (V : World) (hV : Below W.heap.size W V) => mcheck_ok E m ce L n cl A' n' c' zs' V (hp.below hV) hn' (Hok.out _ hmem)
      clear hp hg hmem
      have cB0 := B0.c
      have fB0 := B0.f
      have lB0 := B0.lt
      have cB1 := B1.c
      have fB1 := B1.f
      have lB1 := B1.lt
      go_wp2_with fail
      refine (k1 _ (Below.refl _ _)).mono ?_
      rintro _ w4 ⟨rfl, hb4⟩
      replace B0 : Cs w4 (w.heap.size + 1) #[.slice none 0 0, .slice none 0 0] := Cs.keep csA hb4
      replace B1 : Cs w4 (w.heap.size + 1 + 1) #[.slice E m ce, .slice L n cl] := Cs.keep csA hb4
      replace hbw : Below w.heap.size w w4 := blA
      replace cB0 := B0.c
      replace fB0 := B0.f
      replace lB0 := B0.lt
      replace cB1 := B1.c
      replace fB1 := B1.f
      replace lB1 := B1.lt
      clear hb4
      clear k1 c0
      go_wp2_with fail
      go_roundw
      case rel => exact ⟨i + 1, _, by omega, by go_num, Lib.hid rfl, csA, csA, blA⟩
      case measure => simp [intOf]; omega
    · obtain rfl : i = r := by omega
      have cB0 := B0.c
      have fB0 := B0.f
      have lB0 := B0.lt
      have cB1 := B1.c
      have fB1 := B1.f
      have lB1 := B1.lt
      go_wp2_with fail
      have D1 := B0.set2 (.slice E m ce) (.slice L n cl)
      have hbF : Below w.heap.size w ((W.setCell ⟨w.heap.size + 1, 0, none⟩ (.slice E m ce)).setCell ⟨w.heap.size + 1, 1, none⟩ (.slice L n cl)) :=
        bset (bset hbw (p := ⟨w.heap.size + 1, 0, none⟩) (by show w.heap.size ≤ w.heap.size + 1; omega) _) (p := ⟨w.heap.size + 1, 1, none⟩) (by show w.heap.size ≤ w.heap.size + 1; omega) _
      have cD1 := D1.c
      have fD1 := D1.f
      have lD1 := D1.lt
      exact bodyPost_ret (v := .tuple #[.agg #[.slice E m ce, .slice L n cl], .int .i64 0]) (by simp [results, Tryz.results54, go_sem, cD1, fD1, lD1]) rfl ⟨rfl, hbF⟩

end Go.Proofs.YtlbjnkopbabcnaaGreatDoor
end
