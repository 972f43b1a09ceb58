/- PG1 -/
import Derived.Test.YtlbjnkopbabcnaaGreatDoorYP18
import Derived.Test.YtlbjnkopbabcnaaGreatDoorYP13
import Derived.Test.YtlbjnkopbabcnaaGreatDoorYP26
/- The truth that Parting returns, and what it tells: plain law; the reference's CheckTrue. -/
section
namespace Go.Proofs.YtlbjnkopbabcnaaGreatDoor
open Go.RowKit Go.Shelf
set_option linter.unusedSimpArgs false
set_option linter.unusedVariables false

/-- a truth by the low ends, but for one place, or for none -/
structure PtT (n : Nat) (ls : List (Int × Int)) (rs : List (RowR (Int × Int))) (at_ : Int × Int) (tl : List Int) (te : List (RowR Int)) : Prop where
  len : te.length = 3
  N : ∀ i, i < 3 → (rwI te i).n = n
  L : ∀ b, b < n → tl.getD b 0 = if (b : Int) = at_.2 then (rgA ls b).2 else (rgA ls b).1
  E : ∀ i b, i < 3 → b < n → (rwI te i).zs.getD b 0 = if (i : Int) = at_.1 ∧ (b : Int) = at_.2 then (egA rs i b).2 else (egA rs i b).1
theorem PtT.tru {n : Nat} {ls : List (Int × Int)} {rs : List (RowR (Int × Int))} {at_ : Int × Int} {tl : List Int} {te : List (RowR Int)} (h : PtT n ls rs at_ tl te) (hc : CaseOk n ls 3 rs) : TruIn n ls rs tl te := by
  refine ⟨h.len, fun b hb => ?_, h.N, fun i b hi hb => ?_⟩
  · have := (hc.2.2.2.2 b hb).1
    unfold Mm.okr at this
    rw [h.L b hb]
    split <;> omega
  · have := (hc.2.2.2.2 b hb).2 i hi
    unfold Mm.okr at this
    rw [h.E i b hi hb]
    split <;> omega
theorem fstO_pos {l : List (Nat × Nat)} {x y : Int} (h : fstO l = ((x, y), true)) : ∃ c b : Nat, x = (c : Int) ∧ y = (b : Int) ∧ (c, b) ∈ l := by
  match l, h with
  | (c, b) :: _, h =>
    simp only [fstO, Prod.mk.injEq] at h
    exact ⟨c, b, h.1.1.symm, h.1.2.symm, List.mem_cons_self⟩
theorem opL_mem {L : Nat → Int × Int} {E : Nat → Nat → Int × Int} {d : Nat → Int} {n c b : Nat} (h : (c, b) ∈ opL (opB L E d) 0 (3 * n)) : c < 3 ∧ b < n ∧ Mm.opn L E d c b := by
  unfold opL at h
  rw [List.mem_map] at h
  obtain ⟨j, hj, e⟩ := h
  rw [List.mem_filter, List.mem_range'] at hj
  obtain ⟨⟨i, hi, rfl⟩, hj⟩ := hj
  simp only [Prod.mk.injEq] at e
  obtain ⟨rfl, rfl⟩ := e
  refine ⟨by omega, by omega, ?_⟩
  simpa [opB, Mm.opn] using hj
/-- what the pieces of a place are -/
theorem partR_at {L : Nat → Int × Int} {E : Nat → Nat → Int × Int} {d : Nat → Int} {n : Nat} {x y : Int} (h : partR L E d n = ((x, y), true)) :
    (x = -1 ∧ y = -1 ∧ ∃ i, i < 3 ∧ Mm.seen (Mm.low L E) d n i ≠ 0) ∨ ∃ c b : Nat, x = (c : Int) ∧ y = (b : Int) ∧ c < 3 ∧ b < n ∧ Mm.opn L E d c b ∧ ∀ i, i < 3 → Mm.seen (Mm.low L E) d n i = 0 := by
  unfold partR at h
  split at h
  · rename_i q
    obtain ⟨c, b, rfl, rfl, hm⟩ := fstO_pos h
    obtain ⟨h1, h2, h3⟩ := opL_mem hm
    refine .inr ⟨c, b, rfl, rfl, h1, h2, h3, fun i hi => ?_⟩
    match i, hi with
    | 0, _ => exact q.1
    | 1, _ => exact q.2.1
    | 2, _ => exact q.2.2
  · rename_i q
    simp only [Prod.mk.injEq, and_true] at h
    refine .inl ⟨h.1.symm, h.2.symm, Classical.byContradiction fun hn => q ?_⟩
    have : ∀ i, i < 3 → Mm.seen (Mm.low L E) d n i = 0 := fun i hi => Classical.byContradiction fun e => hn ⟨i, hi, e⟩
    exact ⟨this 0 (by omega), this 1 (by omega), this 2 (by omega)⟩
/-- by such a truth chips part -/
theorem PtT.part {n : Nat} {ls : List (Int × Int)} {rs : List (RowR (Int × Int))} {x y : Int} {tl : List Int} {te : List (RowR Int)} (h : PtT n ls rs (x, y) tl te) (hc : CaseOk n ls 3 rs) {one two : Nat → Int}
    (hp : partR (rgA ls) (egA rs) (fun b => one b - two b) n = ((x, y), true)) : ∃ i, i < 3 ∧ Mm.seen (pT te tl) one n i ≠ Mm.seen (pT te tl) two n i := by
  rcases partR_at hp with ⟨rfl, rfl, i, hi, hs⟩ | ⟨c, b, rfl, rfl, h1, h2, h3, h0⟩
  · refine ⟨i, hi, fun e => hs ?_⟩
    have : Mm.seen (Mm.low (rgA ls) (egA rs)) (fun b => one b - two b) n i = Mm.seen (pT te tl) (fun b => one b - two b) n i := Mm.sm_congr fun b hb => by
      have e1 := h.L b hb
      have e2 := h.E i b hi hb
      rw [if_neg (by simp)] at e1
      rw [if_neg (by simp)] at e2
      unfold pT Mm.low
      rw [e1, e2]
    rw [this, Mm.seen_less, e, Int.sub_self]
  · refine ⟨c, h1, ?_⟩
    have q := Mm.part hc.ok h2 (h0 c h1) h3
    have : ∀ s : Nat → Int, Mm.seen (fun i b' => Mm.pE (egA rs) c b i b' * Mm.pL (rgA ls) b b') s n c = Mm.seen (pT te tl) s n c := fun s => Mm.sm_congr fun b' hb' => by
      have e1 := h.L b' hb'
      have e2 := h.E c b' h1 hb'
      by_cases e : b' = b
      · subst e
        rw [if_pos rfl] at e1
        rw [if_pos ⟨rfl, rfl⟩] at e2
        unfold pT Mm.pE Mm.pL
        rw [e1, e2]
        simp
      · rw [if_neg (show ¬ ((b' : Nat) : Int) = (b : Int) by omega)] at e1
        rw [if_neg (fun q => e (by have := q.2; simp only at this; omega))] at e2
        unfold pT Mm.pE Mm.pL
        rw [e1, e2]
        simp [e]
    rw [this, this] at q
    exact q

set_option maxRecDepth 100000 in
set_option maxHeartbeats 8000000 in
/-- a truth that lies in the ranges is valid -/
theorem rcheckTrue_ok (E : Option Addr) (ce : Nat) (L : Option Addr) (n cl : Nat) (rs : List (RowR (Int × Int))) (ls : List (Int × Int)) (AE : Option Addr) (cE : Nat) (AL : Option Addr) (cL : Nat) (tl : List Int) (te : List (RowR Int)) (w : World) (h : Cse w E 3 L n rs ls) (hc : CaseOk n ls 3 rs) (hT : Tru w AE AL n tl te) (ht : TruIn n ls rs tl te) :
    Calls Tryz.prog 31 #[.agg #[.slice E 3 ce, .slice L n cl], .agg #[.slice AE 3 cE, .slice AL n cL]] w fun e w' => e = .returned (.int .i64 0) ∧ Below w.heap.size w w' := by
  have Hc := Lib.hid hc
  have He := Lib.hid h.e
  have Hl := Lib.hid h.l
  have Hte := Lib.hid hT.e
  have Htl := Lib.hid hT.l
  have Ht := Lib.hid ht
  have hn8 : n ≤ 8 := hc.2.1
  clear h hc hT ht
  go_enter Tryz.func31, Tryz.ntmps31
  obtain ⟨W0, hW0⟩ : ∃ W0, (w.alloc (.cells #[.slice E 3 ce, .slice L n cl] 25)).alloc (.cells #[.slice AE 3 cE, .slice AL n cL] 32) = W0 := ⟨_, rfl⟩
  have B1 : Cs W0 w.heap.size #[.slice E 3 ce, .slice L n cl] := by rw [← hW0]; exact csA
  have B2 : Cs W0 (w.heap.size + 1) #[.slice AE 3 cE, .slice AL n cL] := by rw [← hW0]; exact csA
  have hbw : Below w.heap.size w W0 := by rw [← hW0]; exact blA
  have HW0 := Lib.hid hW0
  have HB1 := Lib.hid B1
  have HB2 := Lib.hid B2
  have Hbw := Lib.hid hbw
  have hnn : ((n : Int) == (n : Int)) = true := by simp
  have hnm : ((n : Int) != (n : Int)) = false := by simp
  clear hW0 B1 B2 hbw
  go_wp2_with fail
  go_loopw [6] (fun s6 wx => ∃ (i : Nat) (W : World), i ≤ 3 ∧ s6 = .int .i64 (i : Nat) ∧ Hid (W = wx) ∧ Hid (Below W0.heap.size W0 W)) (fun s6 _ => 3 - (intOf s6).toNat)
  case atStart => exact ⟨0, _, Nat.zero_le _, rfl, Lib.hid rfl, Lib.hid (by rw [HW0.out]; exact Below.refl _ _)⟩
  case round =>
    obtain ⟨i, W, hi, rfl, HW, HB⟩ := hrel
    obtain rfl := HW.out
    clear HW
    have cB1 := (HB1.out.keep HB.out).c
    have cB2 := (HB2.out.keep HB.out).c
    by_cases hin : i < 3
    · obtain ⟨xb, xo, A', n', c', zs', rfl, hg, xlt, xc, hI, hn', _⟩ := Hte.out.atA (Hbw.out.trans (HB.out.mono Hbw.out.size)) hin
      have e1 : n' = n := by have := Ht.out.N i hin; rw [hg] at this; exact this
      subst e1
      have hii : (i : Int) < 3 := by omega
      clear hg hI
      go_wp2_with fail
      go_roundw
      case rel => exact ⟨i + 1, _, by omega, by go_num, Lib.hid rfl, HB⟩
      case measure => simp [intOf]; omega
    · obtain rfl : i = 3 := by omega
      clear cB1 cB2
      have HB0 := HB
      go_wp2_with fail
      go_loopw [7] (fun s7 wx => ∃ (b : Nat) (W : World), b ≤ n ∧ s7 = .int .i64 (b : Nat) ∧ Hid (W = wx) ∧ Hid (Below W0.heap.size W0 W)) (fun s7 _ => n - (intOf s7).toNat)
      case atStart => exact ⟨0, _, Nat.zero_le _, rfl, Lib.hid rfl, HB0⟩
      case round =>
        clear HB HB0
        obtain ⟨b, W, hb, rfl, HW, HB⟩ := hrel
        obtain rfl := HW.out
        clear HW
        have hbW := Hbw.out.trans (HB.out.mono Hbw.out.size)
        by_cases hbn : b < n
        · have cB1 := (HB1.out.keep HB.out).c
          have cB2 := (HB2.out.keep HB.out).c
          obtain ⟨lb, lo, rfl, llt, l0, l1⟩ := Hl.out.atA hbW hbn
          obtain ⟨tb, to_, rfl, tlt, tc⟩ := Htl.out.2 (by omega)
          have t0 := (hbW.cell (p := ⟨tb, to_ + b, none⟩) tlt).trans (tc b hbn)
          have q := Ht.out.L b hbn
          have m1 : ¬ tl.getD b 0 < (rgA ls b).1 := by omega
          have m2 : ¬ (rgA ls b).2 < tl.getD b 0 := by omega
          have hbb : (b : Int) < (n : Int) := by omega
          clear tc q
          generalize tl.getD b 0 = tv at *
          generalize (rgA ls b).1 = lv at *
          generalize (rgA ls b).2 = hv at *
          go_wp2_with fail
          go_quiet (fail)
          clear l0 l1 t0 cB1 cB2
          go_wp2_with fail
          clear m1 m2
          go_loopw [8] (fun s8 wx => ∃ (i : Nat) (W : World), i ≤ 3 ∧ s8 = .int .i64 (i : Nat) ∧ Hid (W = wx) ∧ Hid (Below W0.heap.size W0 W)) (fun s8 _ => 3 - (intOf s8).toNat)
          case atStart => exact ⟨0, _, Nat.zero_le _, rfl, Lib.hid rfl, Lib.hid (bdrewN HB.out _)⟩
          case round =>
            clear HB hbW
            obtain ⟨i, W, hi, rfl, HW, HB⟩ := hrel
            obtain rfl := HW.out
            clear HW
            have hbW := Hbw.out.trans (HB.out.mono Hbw.out.size)
            by_cases hin : i < 3
            · have cB1 := (HB1.out.keep HB.out).c
              have cB2 := (HB2.out.keep HB.out).c
              obtain ⟨xb, xo, A', n', c', zs', rfl, hg, xlt, xc, hI, hn', _⟩ := Hte.out.atA hbW hin
              have e1 : n' = n := by have := Ht.out.N i hin; rw [hg] at this; exact this
              subst e1
              obtain ⟨eb, eo, A2, n2, c2, zs2, rfl, hg2, elt, ec, hp, hn2⟩ := He.out.atA hbW hin
              have e2 : n2 = n' := by have := Hc.out.2.2.2.1 i hin; rw [hg2] at this; exact this
              subst e2
              obtain ⟨pb, po, rfl, plt, p0, p1⟩ := hp.atA (Below.refl _ _) hbn
              obtain ⟨sb, so, rfl, slt, sc⟩ := hI.2 (by omega)
              have s0 := sc b hbn
              have q := Ht.out.E i b hin hbn
              rw [show egA rs i b = rgA zs2 b by unfold egA; rw [hg2], hg] at q
              have m1 : ¬ zs'.getD b 0 < (rgA zs2 b).1 := by have := q.1; simp only at this; omega
              have m2 : ¬ (rgA zs2 b).2 < zs'.getD b 0 := by have := q.2; simp only at this; omega
              have hii : (i : Int) < 3 := by omega
              have hbb : (b : Int) < (n2 : Int) := by omega
              clear hg hg2 hI hp sc q
              generalize zs'.getD b 0 = tv at *
              generalize (rgA zs2 b).1 = lv at *
              generalize (rgA zs2 b).2 = hv at *
              go_wp2_with fail
              go_quiet (fail)
              go_wp2_with fail
              go_roundw
              case rel => exact ⟨i + 1, _, by omega, by go_num, Lib.hid rfl, Lib.hid (bdrewN HB.out _)⟩
              case measure => simp [intOf]; omega
            · have hi3 : ¬ (i : Int) < 3 := by omega
              go_wp2_with fail
              go_roundw
              case rel => exact ⟨b + 1, by omega, by omega, _, Lib.hid rfl, HB⟩
              case measure => simp [intOf]; omega
        · obtain rfl : n = b := by omega
          have Hfin := Lib.hid hbW
          go_wp2_with fail
          go_ret
          exact ⟨rfl, Hfin.out⟩
end Go.Proofs.YtlbjnkopbabcnaaGreatDoor
end
