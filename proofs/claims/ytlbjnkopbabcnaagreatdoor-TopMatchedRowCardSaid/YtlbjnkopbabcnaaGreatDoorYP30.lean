/- PG5 -/
import Derived.Test.YtlbjnkopbabcnaaGreatDoorYP29
import Derived.Test.YtlbjnkopbabcnaaGreatDoorYV12
import Derived.BigQuiet
/- TopMatchedRow: its main walk. -/
section
namespace Go.Proofs.YtlbjnkopbabcnaaGreatDoor
open Go.RowKit Go.Shelf
set_option linter.unusedSimpArgs false
set_option linter.unusedVariables false

set_option maxRecDepth 100000 in
set_option maxHeartbeats 4000000 in
theorem same03_any (A B : Option Addr) (n c m C : Nat) (xs ys : List Int) (w : World) (hx : Ints w A n xs) (hy : Ints w B m ys) (hn : n ≤ 9223372036854775807) :
    Calls Tryz.prog 33 #[.slice A n c, .slice B m C] w fun e w' => e = .returned (.bool (decide (xs = ys))) ∧ Below w.heap.size w w' := by
  have hxl := hx.1
  have hyl := hy.1
  by_cases hl : n = m
  case neg =>
    have hf : Hid (false = decide (xs = ys)) := Lib.hid (by rw [eq_comm, decide_eq_false_iff_not]; intro h; rw [h] at hxl; omega)
    have h1 : ((n : Int) != (m : Int)) = true := by simp; omega
    have h2 : ((n : Int) == (m : Int)) = false := by simp; omega
    clear hxl hyl hl hx hy
    go_enter Tryz.func33, Tryz.ntmps33
    go_wp2_with fail
    go_ret
    exact ⟨ret_bool hf.out, blA⟩
  subst hl
  have Hx := Lib.hid hx
  have Hy := Lib.hid hy
  have Hno : Hid (∀ k, k < n → xs.getD k 0 ≠ ys.getD k 0 → false = decide (xs = ys)) := Lib.hid (fun k hk hne => by rw [eq_comm, decide_eq_false_iff_not]; intro h; rw [h] at hne; exact hne rfl)
  have Hyes : Hid ((∀ k, k < n → xs.getD k 0 = ys.getD k 0) → true = decide (xs = ys)) := Lib.hid (fun hh => by
    rw [eq_comm, decide_eq_true_eq]
    refine List.ext_getElem (by omega) fun i h1 h2 => ?_
    have := hh i (by omega)
    rwa [List.getD_eq_getElem?_getD, List.getElem?_eq_getElem h1, List.getD_eq_getElem?_getD, List.getElem?_eq_getElem h2] at this)
  clear hxl hyl hx hy
  go_enter Tryz.func33, Tryz.ntmps33
  go_wp2_with fail
  go_loopw [5] (fun s5 wr => ∃ (k : Nat) (W : World), k ≤ n ∧ s5 = .int .i64 (k : Nat) ∧ Hid (W = wr) ∧ Hid (∀ j, j < k → xs.getD j 0 = ys.getD j 0) ∧ Below w.heap.size w W) (fun s5 _ => n - (intOf s5).toNat)
  case atStart =>
    exact ⟨0, _, Nat.zero_le _, rfl, Lib.hid rfl, Lib.hid (fun j hj => absurd hj (by omega)), blA⟩
  case round =>
    obtain ⟨k, W, hk, rfl, HWx, Heq, hbw⟩ := hrel
    obtain rfl := HWx.out
    clear HWx
    by_cases hkn : k < n
    · have hkI : (k : Int) < (n : Int) := by omega
      obtain ⟨b1, o1, rfl, l1, c1⟩ := Hx.out.at0 hbw hkn
      obtain ⟨b2, o2, rfl, l2, c2⟩ := Hy.out.at0 hbw hkn
      by_cases he : xs.getD k 0 = ys.getD k 0
      · have Heq2 : Hid (∀ j, j < k + 1 → xs.getD j 0 = ys.getD j 0) := Lib.hid (fun j hj => by
          by_cases e : j = k
          · rw [e, he]
          · exact Heq.out j (by omega))
        have g1 : (xs.getD k 0 != ys.getD k 0) = false := by simpa using he
        clear Heq he
        generalize xs.getD k 0 = x at *
        generalize ys.getD k 0 = y at *
        go_wp2_with fail
        go_quiet (fail)
        go_wp2_with fail
        go_roundw
        case rel => exact ⟨k + 1, _, by omega, by go_num, Lib.hid rfl, Heq2, blA⟩
        case measure => simp [intOf]; omega
      · have Hf := Lib.hid (Hno.out k hkn he)
        have g1 : (xs.getD k 0 != ys.getD k 0) = true := by simpa using he
        clear Heq he Hno Hyes
        generalize xs.getD k 0 = x at *
        generalize ys.getD k 0 = y at *
        go_wp2_with fail
        go_quiet (fail)
        go_wp2_with fail
        go_ret
        exact ⟨ret_bool Hf.out, blA⟩
    · obtain rfl : k = n := by omega
      have hkI : ¬ (k : Int) < (k : Int) := by omega
      have Hf := Lib.hid (Hyes.out Heq.out)
      clear Heq Hno Hyes
      go_wp2_with fail
      go_ret
      exact ⟨ret_bool Hf.out, blA⟩


/-- whether numbers of two lists differ ahead of k -/
def chg (f g : Nat → Int) : Nat → Bool
  | 0 => false
  | k + 1 => chg f g k || decide (f k ≠ g k)
theorem chg_eq {f g : Nat → Int} {pr : Bool} (h1 : pr = true → ∃ i, i < 3 ∧ f i ≠ g i) (h0 : pr = false → ∀ i, i < 3 → f i = g i) : chg f g 3 = pr := by
  cases pr with
  | true =>
    obtain ⟨i, hi, hne⟩ := h1 rfl
    match i, hi, hne with
    | 0, _, h => simp [chg, h]
    | 1, _, h => simp [chg, h]
    | 2, _, h => simp [chg, h]
  | false =>
    have := h0 rfl
    simp [chg, this 0 (by omega), this 1 (by omega), this 2 (by omega)]
/-- two lamps, compared -/
theorem run_pair {a b : Int} (h0 : 0 ≤ a) (h1 : 0 ≤ b) (h2 : a ≤ 100000) (h3 : b ≤ 100000) : runE [(0, 1)] [a, b] = ([max a b, min a b], 0) := by
  unfold runE
  rw [if_neg (by simp), if_neg (by simp [out]; omega), if_pos (by rfl)]
  rfl
theorem prs_pair {w : World} {g : Nat} (h : Cs w g #[.int .i64 0, .int .i64 1]) : Prs w (some ⟨g, 0, none⟩) 1 [(0, 1)] :=
  ⟨rfl, fun _ => ⟨g, 0, rfl, h.lt, fun i x y hi => by
    match i, hi with
    | 0, hi => simp at hi; obtain ⟨rfl, rfl⟩ := hi; exact ⟨h.c 0, h.c 1⟩
    | i + 1, hi => simp at hi⟩⟩

theorem ints_two {w : World} {g : Nat} {x y : Int} (h : Cs w g #[.int .i64 x, .int .i64 y]) : Ints w (some ⟨g, 0, none⟩) 2 [x, y] :=
  ⟨rfl, fun _ => ⟨g, 0, rfl, h.lt, fun i hi => by
    match i, hi with
    | 0, _ => exact h.c 0
    | 1, _ => exact h.c 1⟩⟩
set_option maxRecDepth 100000 in
set_option maxHeartbeats 16000000 in
theorem topMatched_main (E : Option Addr) (ce : Nat) (L : Option Addr) (n cl : Nat) (rs : List (RowR (Int × Int))) (ls : List (Int × Int)) (A : Option Addr) (cA : Nat) (zs : List Int) (B : Option Addr) (cB : Nat) (us : List Int) (D : Option Addr) (kb cb : Nat) (ts : List Int) (w : World)
    (h : Cse w E 3 L n rs ls) (hc : CaseOk n ls 3 rs) (hz : Ints w A n zs) (oz : ChipOk n n zs) (hu : Ints w B n us) (ou : ChipOk n n us) (ht : U16s w D kb ts) (hkb : kb ≤ 60) (hG : GlobW w) :
    Calls Tryz.prog 6 #[.agg #[.slice E 3 ce, .slice L n cl], .slice A n cA, .slice B n cB, .slice D kb cb] w fun e w' => e = .returned (.bool true) ∧ Below w.heap.size w w' := by
  have hn8 := hc.2.1
  have hnm : n ≤ 9223372036854775807 := by omega
  have kc := fun (V : World) (hV : Below w.heap.size w V) => case04_any E 3 ce L n cl rs ls V (h.below hV)
  have kch := fun (V : World) (hV : Below w.heap.size w V) => rchips_any E 3 ce L n cl rs ls A n cA zs B n cB us V (h.below hV) (hz.below hV) hnm (hu.below hV) hnm
  have kt := fun (V : World) (hV : Below w.heap.size w V) => true4_any E 3 ce L n cl rs ls D kb cb ts V (h.below hV) hc (ht.below hV) (by omega)
  have kw := fun (V : World) (hV : Below w.heap.size w V) => top_works04_any V (hG.below hV)
  have ks := fun (V : World) (hV : Below w.heap.size w V) => surely_any E ce L n cl rs ls A cA zs B cB us V (h.below hV) hc (hz.below hV) oz (hu.below hV) ou
  obtain ⟨⟨⟨rx, ry⟩, pr⟩, hR⟩ : ∃ R, partR (rgA ls) (egA rs) (fun b => zF zs b - zF us b) n = R := ⟨_, rfl⟩
  rw [hR] at ks
  have kp := fun (V : World) (hV : Below w.heap.size w V) (hp : pr = true) => parting_ok E ce L n cl rs ls A cA zs B cB us rx ry V (h.below hV) hc (hz.below hV) oz (hu.below hV) ou (by rw [hR, hp])
  have kct := fun (AE : Option Addr) (cE : Nat) (AL : Option Addr) (cL : Nat) (tl : List Int) (te : List (RowR Int)) (V : World) (hV : Below w.heap.size w V) => rcheckTrue_ok E ce L n cl rs ls AE cE AL cL tl te V (h.below hV) hc
  have kn := fun (AE : Option Addr) (cE : Nat) (AL : Option Addr) (cL : Nat) (tl : List Int) (te : List (RowR Int)) (V : World) (hV : Below w.heap.size w V) (hT : Tru V AE AL n tl te) (ht : TruIn n ls rs tl te) => numbers_ok E 3 ce L n cl rs ls AE cE AL cL tl te A cA zs V (h.below hV) hc hT ht (hz.below hV) oz
  have kn2 := fun (AE : Option Addr) (cE : Nat) (AL : Option Addr) (cL : Nat) (tl : List Int) (te : List (RowR Int)) (V : World) (hV : Below w.heap.size w V) (hT : Tru V AE AL n tl te) (ht : TruIn n ls rs tl te) => numbers_ok E 3 ce L n cl rs ls AE cE AL cL tl te B cB us V (h.below hV) hc hT ht (hu.below hV) ou
  obtain ⟨ev, hev⟩ : ∃ ev : Int, (if pr = true then (19 : Int) else 0) = ev := ⟨_, rfl⟩
  simp only [hev] at ks
  have Hc := Lib.hid hc
  have Hoz := Lib.hid oz
  have Hou := Lib.hid ou
  have KW := Lib.hid kw
  have KT := Lib.hid kt
  have KS := Lib.hid ks
  have KP := Lib.hid kp
  have KCT := Lib.hid kct
  have KN := Lib.hid kn
  have KN2 := Lib.hid kn2
  have HR := Lib.hid hR
  have Hev := Lib.hid hev
  have m3 : ¬ (60 : Int) < (kb : Int) := by omega
  clear hc h hz hu ht hG kw kt ks kp kct kn kn2 hR hev
  go_enter Tryz.func6, Tryz.ntmps6
  go_wp2_with fail
  refine (kc _ blA).mono ?_
  rintro _ w1 ⟨⟨b0, rfl, hb0⟩, hb1⟩
  obtain rfl : b0 = true := hb0.2 Hc.out
  have B4 : Cs w1 w.heap.size #[.slice E 3 ce, .slice L n cl] := Cs.keep csA hb1
  have hbw : Below w.heap.size w w1 := blA
  clear hb1 kc hb0
  have cB4 := B4.c
  go_wp2_with fail
  refine (kch _ hbw).mono ?_
  rintro _ w2 ⟨⟨q, rfl, hq⟩, hb2⟩
  obtain rfl : q = 0 := hq.2 ⟨Hc.out, Hoz.out, Hou.out⟩
  replace B4 : Cs w2 w.heap.size #[.slice E 3 ce, .slice L n cl] := B4.keep hb2
  replace hbw : Below w.heap.size w w2 := hbw.trans (hb2.mono hbw.size)
  clear hb2 kch hq cB4
  have cB4 := B4.c
  go_wp2_with fail
  refine (KT.out _ hbw).mono ?_
  rintro _ w3 ⟨AE, cE, AL, cL, tl, te, rfl, hte, htl, hti, hb3⟩
  replace B4 : Cs w3 w.heap.size #[.slice E 3 ce, .slice L n cl] := B4.keep hb3
  replace hbw : Below w.heap.size w w3 := hbw.trans (hb3.mono hbw.size)
  have hT : Tru w3 AE AL n tl te := ⟨hte, htl⟩
  clear hb3 KT hte htl cB4
  obtain ⟨W0, hW0⟩ : ∃ W0, w3.alloc (.cells #[.slice AE 3 cE, .slice AL n cL] 32) = W0 := ⟨_, rfl⟩
  have cB43 := B4.c
  have lB43 := B4.lt
  have BX : Cs W0 w3.heap.size #[.slice AE 3 cE, .slice AL n cL] := by rw [← hW0]; exact csA
  replace B4 : Cs W0 w.heap.size #[.slice E 3 ce, .slice L n cl] := by rw [← hW0]; exact B4.alloc _
  replace hT : Tru W0 AE AL n tl te := by rw [← hW0]; exact hT.below (balloc (Below.refl _ _) _)
  replace hbw : Below w.heap.size w W0 := by rw [← hW0]; exact balloc hbw _
  have HW0 := Lib.hid hW0
  clear hW0
  go_wp2_with fail
  rw [HW0.out]
  clear HW0 cB43
  refine (KS.out W0 hbw).mono ?_
  rintro _ w4 ⟨rfl, hb4⟩
  replace BX := BX.keep hb4
  replace B4 := B4.keep hb4
  replace hT := hT.below hb4
  replace hbw := hbw.trans (hb4.mono hbw.size)
  clear hb4 KS
  have cB4 := B4.c
  have cBX := BX.c
  have fBX := BX.f
  have lBX := BX.lt
  go_upto_if 48 with fail
  go_cut [] (fun wx => ∃ (AE : Option Addr) (cE : Nat) (AL : Option Addr) (cL : Nat) (tl : List Int) (te : List (RowR Int)) (V : World), Hid (V = wx) ∧ Hid (Cs V w3.heap.size #[.slice AE 3 cE, .slice AL n cL]) ∧ Hid (Cs V w.heap.size #[.slice E 3 ce, .slice L n cl]) ∧ Hid (Tru V AE AL n tl te) ∧ Hid (TruIn n ls rs tl te) ∧ Hid (chg (fun i => Mm.seen (pT te tl) (zF zs) n i) (fun i => Mm.seen (pT te tl) (zF us) n i) 3 = pr) ∧ Hid (Below w.heap.size w V))
  case first =>
    cases pr with
    | true =>
      obtain rfl : 19 = ev := Hev.out
      go_wp2_with fail
      refine (KP.out _ hbw trivial).mono ?_
      have lX4 : w3.heap.size < w4.heap.size := BX.lt
      have hX : w.heap.size ≤ w3.heap.size := by omega
      rintro e w5 hpp
      obtain ⟨AE2, cE2, AL2, cL2, tl2, te2, rfl, hT2, hPt, hb5⟩ := hpp
      have hTi2 := hPt.tru Hc.out
      have hch := chg_eq (f := fun i => Mm.seen (pT te2 tl2) (zF zs) n i) (g := fun i => Mm.seen (pT te2 tl2) (zF us) n i) (pr := true) (fun _ => hPt.part Hc.out HR.out) (fun e => by cases e)
      replace BX := BX.keep hb5
      replace B4 := B4.keep hb5
      replace hbw := hbw.trans (hb5.mono hbw.size)
      clear hb5 hPt cB4 cBX fBX lBX KP
      have cB4 := B4.c
      have cBX := BX.c
      have fBX := BX.f
      have lBX := BX.lt
      have lB4 := B4.lt
      go_wp2_with fail
      refine (KCT.out AE2 cE2 AL2 cL2 tl2 te2 _ (balloc hbw _) (hT2.tru.below (balloc (Below.refl _ _) _)) hTi2).mono ?_
      rintro _ w6 ⟨rfl, hb6⟩
      have hb56 : Below w5.heap.size w5 w6 := blA
      replace hT2 := hT2.below hb56
      have BY : Cs w6 w5.heap.size #[.slice AE2 3 cE2, .slice AL2 n cL2] := Cs.keep csA hb6
      replace BX := BX.keep hb56
      replace B4 := B4.keep hb56
      replace hbw := hbw.trans (hb56.mono hbw.size)
      clear hb6 hb56 cB4 cBX fBX lBX lB4
      have cBX := BX.c
      have fBX := BX.f
      have lBX := BX.lt
      have cBY := BY.c
      go_wp2_with fail
      have BX2 := BX.set2 (.slice AE2 3 cE2) (.slice AL2 n cL2)
      go_meet
      case rel =>
        refine ⟨AE2, cE2, AL2, cL2, tl2, te2, _, Lib.hid rfl, Lib.hid BX2, Lib.hid ?_, Lib.hid ?_, Lib.hid hTi2, Lib.hid hch, Lib.hid ?_⟩
        · exact (B4.other (p := ⟨w3.heap.size, 0, none⟩) (by show w.heap.size ≠ w3.heap.size; omega) _).other (p := ⟨w3.heap.size, 1, none⟩) (by show w.heap.size ≠ w3.heap.size; omega) _
        · exact ((hT2.low (p := ⟨w3.heap.size, 0, none⟩) lX4 _).low (p := ⟨w3.heap.size, 1, none⟩) lX4 _).tru
        · exact bset (bset hbw (p := ⟨w3.heap.size, 0, none⟩) hX _) (p := ⟨w3.heap.size, 1, none⟩) hX _
    | false =>
      obtain rfl : 0 = ev := Hev.out
      have hch := chg_eq (f := fun i => Mm.seen (pT te tl) (zF zs) n i) (g := fun i => Mm.seen (pT te tl) (zF us) n i) (pr := false) (fun e => by cases e) (fun _ i hi => sure_of Hc.out hti (by rw [HR.out]) hi)
      go_wp2_with fail
      go_meet
      case rel => exact ⟨AE, cE, AL, cL, tl, te, _, Lib.hid rfl, Lib.hid BX, Lib.hid B4, Lib.hid hT, Lib.hid hti, Lib.hid hch, Lib.hid hbw⟩
  case rest =>
    clear BX B4 hT hti hbw cB4 cBX fBX lBX KP KCT lB43
    obtain ⟨AE, cE, AL, cL, tl, te, V, HV, HX, HE, HT, Hti, Hch, HbV⟩ := hcut
    obtain rfl := HV.out
    clear HV
    have cX := HX.out.c
    have cE4 := HE.out.c
    go_wp2_with fail
    refine (KN.out AE cE AL cL tl te V HbV.out HT.out Hti.out).mono ?_
    rintro _ w5 ⟨ga, ca, rfl, hIa, -, hb5⟩
    replace HX := Lib.hid (HX.out.keep hb5)
    replace HE := Lib.hid (HE.out.keep hb5)
    replace HT := Lib.hid (HT.out.below hb5)
    replace HbV := Lib.hid (HbV.out.trans (hb5.mono HbV.out.size))
    clear hb5 cX cE4
    have cX := HX.out.c
    have cE4 := HE.out.c
    go_wp2_with fail
    refine (KN2.out AE cE AL cL tl te w5 HbV.out HT.out Hti.out).mono ?_
    rintro _ w6 ⟨gb, cb', rfl, hIb, -, hb6⟩
    replace HbV := Lib.hid (HbV.out.trans (hb6.mono HbV.out.size))
    replace hIa := hIa.below hb6
    have hfa0 : ∀ i, i < 3 → 0 ≤ Mm.seen (pT te tl) (zF zs) n i := fun i hi => by have := seen_in Hc.out Hti.out Hoz.out hi; omega
    have hfb0 : ∀ i, i < 3 → 0 ≤ Mm.seen (pT te tl) (zF us) n i := fun i hi => by have := seen_in Hc.out Hti.out Hou.out hi; omega
    obtain ⟨fa, hfa⟩ : ∃ fa : Nat → Int, (fun i => Mm.seen (pT te tl) (zF zs) n i) = fa := ⟨_, rfl⟩
    obtain ⟨fb, hfb⟩ : ∃ fb : Nat → Int, (fun i => Mm.seen (pT te tl) (zF us) n i) = fb := ⟨_, rfl⟩
    have ea : ∀ i, Mm.seen (pT te tl) (zF zs) n i = fa i := fun i => congrFun hfa i
    have eb : ∀ i, Mm.seen (pT te tl) (zF us) n i = fb i := fun i => congrFun hfb i
    simp only [ea] at hIa hfa0 Hch
    simp only [eb] at hIb hfb0 Hch
    have HIa := Lib.hid hIa
    have HIb := Lib.hid hIb
    have Hfa0 := Lib.hid hfa0
    have Hfb0 := Lib.hid hfb0
    clear hb6 cX cE4 HX HE HT Hti KN KN2 hfa hfb ea eb hIa hIb hfa0 hfb0
    obtain ⟨W8, hW8⟩ : ∃ W8, w6.alloc (.cells #[.int .i64 0, .int .i64 1] 78) = W8 := ⟨_, rfl⟩
    have hPr : Prs W8 (some ⟨w6.heap.size, 0, none⟩) 1 [(0, 1)] := prs_pair (by rw [← hW8]; exact csA)
    have hb8 : Below w6.heap.size w6 W8 := by rw [← hW8]; exact blA
    have HPr := Lib.hid hPr
    replace HbV := Lib.hid (HbV.out.trans (hb8.mono HbV.out.size))
    replace HIa := Lib.hid (HIa.out.below hb8)
    replace HIb := Lib.hid (HIb.out.below hb8)
    have HW8 := Lib.hid hW8
    clear hW8 hPr hb8
    go_wp2_with fail
    rw [HW8.out]
    clear HW8
    go_loopw [18, 19] (fun s18 s19 wx => ∃ (i : Nat) (W : World), i ≤ 3 ∧ s18 = .bool (chg fa fb i) ∧ s19 = .int .i64 (i : Nat) ∧ Hid (W = wx) ∧ Hid (Below W8.heap.size W8 W)) (fun _ s19 _ => 3 - (intOf s19).toNat)
    case atStart => exact ⟨0, _, by omega, rfl, rfl, Lib.hid rfl, Lib.hid (Below.refl _ _)⟩
    case round =>
      obtain ⟨i, W, hi, rfl, rfl, HW, HB⟩ := hrel
      obtain rfl := HW.out
      clear HW
      by_cases hin : i < 3
      · have hii : (i : Int) < 3 := by omega
        have xa := (HIa.out.below HB.out).cell0 i hin
        have xb := (HIb.out.below HB.out).cell0 i hin
        rw [show [fa 0, fa 1, fa 2].getD i 0 = fa i by
          match i, hin with
          | 0, _ => rfl
          | 1, _ => rfl
          | 2, _ => rfl, Nat.zero_add] at xa
        rw [show [fb 0, fb 1, fb 2].getD i 0 = fb i by
          match i, hin with
          | 0, _ => rfl
          | 1, _ => rfl
          | 2, _ => rfl, Nat.zero_add] at xb
        have a0 := Hfa0.out i hin
        have b0 := Hfb0.out i hin
        have hc1 : chg fa fb (i + 1) = (chg fa fb i || decide (fa i ≠ fb i)) := rfl
        obtain ⟨c0, hc0⟩ : ∃ c0, chg fa fb i = c0 := ⟨_, rfl⟩
        obtain ⟨c1, hc1'⟩ : ∃ c1, chg fa fb (i + 1) = c1 := ⟨_, rfl⟩
        rw [hc0, hc1'] at hc1
        rw [hc0]
        have HSt0 : Hid (∀ U, Below W8.heap.size W8 U → U.cell? ⟨ga, i, none⟩ = some (.int .i64 (fa i)) ∧ U.cell? ⟨gb, i, none⟩ = some (.int .i64 (fb i))) := Lib.hid fun U hU => by
          have xa := (HIa.out.below hU).cell0 i hin
          have xb := (HIb.out.below hU).cell0 i hin
          rw [show [fa 0, fa 1, fa 2].getD i 0 = fa i by
            match i, hin with
            | 0, _ => rfl
            | 1, _ => rfl
            | 2, _ => rfl, Nat.zero_add] at xa
          rw [show [fb 0, fb 1, fb 2].getD i 0 = fb i by
            match i, hin with
            | 0, _ => rfl
            | 1, _ => rfl
            | 2, _ => rfl, Nat.zero_add] at xb
          exact ⟨xa, xb⟩
        obtain ⟨a, ha⟩ : ∃ a, fa i = a := ⟨_, rfl⟩
        obtain ⟨b, hb⟩ : ∃ b, fb i = b := ⟨_, rfl⟩
        rw [ha] at xa a0 hc1 HSt0
        rw [hb] at xb b0 hc1 HSt0
        have Hc1 := Lib.hid hc1'
        clear ha hb hc0 hc1'
        have HSt : Hid (∀ U, Below W8.heap.size W8 U → U.cell? ⟨ga, i, none⟩ = some (.int .i64 a) ∧ U.cell? ⟨gb, i, none⟩ = some (.int .i64 b)) := HSt0
        obtain ⟨mx, hmx⟩ : ∃ mx, (if a < b then b else a) = mx := ⟨_, rfl⟩
        have hmm : a ≤ mx ∧ b ≤ mx := by rw [← hmx]; split <;> omega
        have hBB := HbV.out.trans (HB.out.mono HbV.out.size)
        have HBB := Lib.hid hBB
        clear hBB
        go_wp2_with fail
        go_quiet (fail)
        by_cases h100 : 100000 < mx
        · go_wp2_with fail
          have HbD := Lib.hid (HBB.out.trans ((bdrewN (Below.refl _ _) nq).mono HBB.out.size))
          refine (KW.out _ HbD.out).mono ?_
          rintro _ w9 ⟨rfl, hb9⟩
          go_wp2_with fail
          go_ret
          exact ⟨rfl, HbD.out.trans (hb9.mono HbD.out.size)⟩
        · go_wp2_with fail
          have bWq : Below W8.heap.size W8 (W.drewN nq) := bdrewN HB.out _
          clear xa xb hmx
          generalize W.drewN nq = Wq at *
          refine wp_region_tree (S := fun U : World => U.cell? ⟨ga, i, none⟩ = some (.int .i64 a) ∧ U.cell? ⟨gb, i, none⟩ = some (.int .i64 b)) (.t 0 1 (.t 1 3 (.t 2 7 (.t 3 15 (.t 4 31 (.t 5 63 (.t 6 127 (.t 7 255 (.t 8 511 (.o 9 1023 (.o 10 2047 (.t 11 4095 (.t 12 8191 (.t 13 16383 (.t 14 32767 (.t 15 65535 .nil)))))))))))))))) (by kernel_rfl) (by kernel_rfl) (by as_aux_lemma => kernel_rfl) (by kernel_rfl) (fun c a d v w h => by cases d <;> exact h) (HSt.out _ (Below.drew bWq)) (fun hHeld => ?_)
          clear hHeld
          have bD : Below W8.heap.size W8 Wq.drew := Below.drew bWq
          have sD : Below Wq.heap.size Wq Wq.drew := Below.drew (Below.refl _ _)
          generalize Wq.drew = VWq at *
          iterate 9 (refine tree_take (v := ?_) rfl (by rfl) ?_ ?_; rotate_left; (focus (intro w9 hSw; obtain ⟨s1, s2⟩ := hSw; (go_simp <;> with_reducible rfl))); try simp only [Act.put, List.setIfInBounds_toArray, List.set_cons_zero, List.set_cons_succ])
          refine tree_one rfl (fun K9 hS9 => ?_)
          go_simp
          obtain ⟨XWq, hXWq⟩ : ∃ U, VWq.alloc (.cells #[.int .i64 a, .int .i64 b] 2) = U := ⟨_, rfl⟩
          have hI9 : Ints XWq (some ⟨VWq.heap.size, 0, none⟩) 2 [a, b] := by
            have C9 : Cs XWq VWq.heap.size #[.int .i64 a, .int .i64 b] := by rw [← hXWq]; exact csA
            exact ints_two C9
          have bXWq : Below W8.heap.size W8 XWq := by rw [← hXWq]; exact balloc bD _
          have sX : Below Wq.heap.size Wq XWq := by rw [← hXWq]; exact balloc sD _
          try rw [hXWq]
          refine hS9.out _ _ (HSt.out _ bXWq) (fun _ => ?_)
          clear hS9 K9 hXWq bD sD
          generalize VWq.heap.size = b9 at *
          try simp only [Act.put, List.setIfInBounds_toArray, List.set_cons_zero, List.set_cons_succ]
          refine tree_one rfl (fun K9 hS9 => ?_)
          go_simp
          refine (run_any (some ⟨w6.heap.size, 0, none⟩) (some ⟨b9, 0, none⟩) 2 2 1 1 [(0, 1)] [a, b] XWq (HPr.out.below bXWq) (by omega) hI9 (by omega)).mono ?_
          rw [run_pair (by omega) (by omega) (by omega) (by omega)]
          rintro e9 V1 ⟨AV1, nV1, cm, rfl, hIm, -, hy⟩
          obtain rfl : 2 = nV1 := hIm.1
          obtain ⟨gm, oV1, rfl, -⟩ := hIm.2 (by omega)
          have bV1 : Below W8.heap.size W8 V1 := bXWq.trans (hy.mono bXWq.size)
          have sV1 : Below Wq.heap.size Wq V1 := sX.trans (hy.mono sX.size)
          refine hS9.out _ _ (HSt.out _ bV1) (fun _ => ?_)
          clear hS9 K9 hI9 sX
          try simp only [Act.put, List.setIfInBounds_toArray, List.set_cons_zero, List.set_cons_succ]
          iterate 5 (refine tree_take (v := ?_) rfl (by rfl) ?_ ?_; rotate_left; (focus (intro w9 hSw; obtain ⟨s1, s2⟩ := hSw; (go_simp <;> with_reducible rfl))); try simp only [Act.put, List.setIfInBounds_toArray, List.set_cons_zero, List.set_cons_succ])
          refine tree_done (fun U => V1 = U) rfl (fun U hU => ?_)
          subst hU
          go_wp2_with fail
          have HIm := Lib.hid hIm
          clear hIm hy
          refine wp_region_tree (S := fun U : World => U.cell? ⟨ga, i, none⟩ = some (.int .i64 a) ∧ U.cell? ⟨gb, i, none⟩ = some (.int .i64 b)) (.t 0 1 (.t 1 3 (.t 2 7 (.t 3 15 (.t 4 31 (.t 5 63 (.t 6 127 (.t 7 255 (.t 8 511 (.o 9 1023 (.o 10 2047 (.t 11 4095 (.t 12 8191 (.t 13 16383 (.t 14 32767 (.t 15 65535 .nil)))))))))))))))) (by kernel_rfl) (by kernel_rfl) (by as_aux_lemma => kernel_rfl) (by kernel_rfl) (fun c a d v w h => by cases d <;> exact h) (HSt.out _ (Below.drew bV1)) (fun hHeld => ?_)
          clear hHeld
          have bD : Below W8.heap.size W8 V1.drew := Below.drew bV1
          have sD : Below V1.heap.size V1 V1.drew := Below.drew (Below.refl _ _)
          generalize V1.drew = VV1 at *
          iterate 9 (refine tree_take (v := ?_) rfl (by rfl) ?_ ?_; rotate_left; (focus (intro w9 hSw; obtain ⟨s1, s2⟩ := hSw; (go_simp <;> with_reducible rfl))); try simp only [Act.put, List.setIfInBounds_toArray, List.set_cons_zero, List.set_cons_succ])
          refine tree_one rfl (fun K9 hS9 => ?_)
          go_simp
          obtain ⟨XV1, hXV1⟩ : ∃ U, VV1.alloc (.cells #[.int .i64 b, .int .i64 a] 2) = U := ⟨_, rfl⟩
          have hI9 : Ints XV1 (some ⟨VV1.heap.size, 0, none⟩) 2 [b, a] := by
            have C9 : Cs XV1 VV1.heap.size #[.int .i64 b, .int .i64 a] := by rw [← hXV1]; exact csA
            exact ints_two C9
          have bXV1 : Below W8.heap.size W8 XV1 := by rw [← hXV1]; exact balloc bD _
          have sX : Below V1.heap.size V1 XV1 := by rw [← hXV1]; exact balloc sD _
          try rw [hXV1]
          refine hS9.out _ _ (HSt.out _ bXV1) (fun _ => ?_)
          clear hS9 K9 hXV1 bD sD
          generalize VV1.heap.size = b9 at *
          try simp only [Act.put, List.setIfInBounds_toArray, List.set_cons_zero, List.set_cons_succ]
          refine tree_one rfl (fun K9 hS9 => ?_)
          go_simp
          refine (run_any (some ⟨w6.heap.size, 0, none⟩) (some ⟨b9, 0, none⟩) 2 2 1 1 [(0, 1)] [b, a] XV1 (HPr.out.below bXV1) (by omega) hI9 (by omega)).mono ?_
          rw [run_pair (by omega) (by omega) (by omega) (by omega)]
          rintro e9 V2 ⟨AV2, nV2, cn, rfl, hIn, -, hy⟩
          obtain rfl : 2 = nV2 := hIn.1
          obtain ⟨gn, oV2, rfl, -⟩ := hIn.2 (by omega)
          have bV2 : Below W8.heap.size W8 V2 := bXV1.trans (hy.mono bXV1.size)
          have sV2 : Below V1.heap.size V1 V2 := sX.trans (hy.mono sX.size)
          refine hS9.out _ _ (HSt.out _ bV2) (fun _ => ?_)
          clear hS9 K9 hI9 sX
          try simp only [Act.put, List.setIfInBounds_toArray, List.set_cons_zero, List.set_cons_succ]
          iterate 5 (refine tree_take (v := ?_) rfl (by rfl) ?_ ?_; rotate_left; (focus (intro w9 hSw; obtain ⟨s1, s2⟩ := hSw; (go_simp <;> with_reducible rfl))); try simp only [Act.put, List.setIfInBounds_toArray, List.set_cons_zero, List.set_cons_succ])
          refine tree_done (fun U => V2 = U) rfl (fun U hU => ?_)
          subst hU
          go_wp2_with fail
          have hIm2 := HIm.out.below sV2
          have ks3 := same03_any (some ⟨gm, oV1, none⟩) (some ⟨gn, oV2, none⟩) 2 cm 2 cn _ _ V2 hIm2 hIn (by omega)
          rw [show decide ([max a b, min a b] = [max b a, min b a]) = true by simp [Int.max_comm, Int.min_comm]] at ks3
          refine ks3.mono ?_
          rintro _ w9 ⟨rfl, hb9⟩
          have bw9 : Below W8.heap.size W8 w9 := bV2.trans (hb9.mono bV2.size)
          have hIm9 := hIm2.below hb9
          obtain ⟨M, hM⟩ : ∃ M, max a b = M := ⟨_, rfl⟩
          rw [hM] at hIm9
          have cM : w9.cell? ⟨gm, oV1, none⟩ = some (.int .i64 M) := by
            obtain ⟨b7, o7, e7, -, c7⟩ := hIm9.2 (by omega)
            injection e7 with e7
            injection e7 with e1 e2
            subst e1 e2
            exact c7 0 (by omega)
          obtain ⟨xa9, xb9⟩ := HSt.out _ bw9
          have hMa : a = b → M = a ∧ M = b := fun e => by omega
          have hMb : a ≠ b → M = a ∧ M ≠ b ∨ M ≠ a ∧ M = b := fun e => by omega
          clear hIm9 hM ks3 hIm2 hIn hb9 HIm sV1 sV2 hy
          have Hb9 := Lib.hid bw9
          have HMa := Lib.hid hMa
          have HMb := Lib.hid hMb
          have Hcc := Lib.hid hc1
          clear hMa hMb hc1
          cases c0 with
          | true =>
            obtain rfl : true = c1 := by rw [Hcc.out]; simp
            go_wp2_with fail
            go_quiet (fail)
            go_wp2_with fail
            go_roundw
            case rel => exact ⟨i + 1, _, by omega, by rw [Hc1.out], by go_num, Lib.hid rfl, Lib.hid (bdrewN Hb9.out _)⟩
            case measure => simp [intOf]; omega
          | false =>
            by_cases hab : a = b
            · obtain ⟨e1, e2⟩ := HMa.out hab
              obtain rfl : false = c1 := by rw [Hcc.out]; simp [hab]
              have n1 : (M != a) = false := by simp [e1]
              have n2 : (M != b) = false := by simp [e2]
              clear e1 e2 hab
              go_wp2_with fail
              go_quiet (fail)
              go_wp2_with fail
              go_roundw
              case rel => exact ⟨i + 1, _, by omega, by rw [Hc1.out], by go_num, Lib.hid rfl, Lib.hid (bdrewN Hb9.out _)⟩
              case measure => simp [intOf]; omega
            · obtain rfl : true = c1 := by rw [Hcc.out]; simp [hab]
              rcases HMb.out hab with ⟨e1, e2⟩ | ⟨e1, e2⟩
              · have n1 : (M != a) = false := by simp [e1]
                have n2 : (M != b) = true := by simpa using e2
                clear e1 e2 hab
                go_wp2_with fail
                go_quiet (fail)
                go_wp2_with fail
                go_roundw
                case rel => exact ⟨i + 1, _, by omega, by rw [Hc1.out], by go_num, Lib.hid rfl, Lib.hid (bdrewN Hb9.out _)⟩
                case measure => simp [intOf]; omega
              · have n1 : (M != a) = true := by simpa using e1
                clear e1 e2 hab
                go_wp2_with fail
                go_quiet (fail)
                go_wp2_with fail
                go_roundw
                case rel => exact ⟨i + 1, _, by omega, by rw [Hc1.out], by go_num, Lib.hid rfl, Lib.hid (bdrewN Hb9.out _)⟩
                case measure => simp [intOf]; omega
      · obtain rfl : i = 3 := by omega
        rw [Hch.out]
        have HBB := Lib.hid (HbV.out.trans (HB.out.mono HbV.out.size))
        cases pr with
        | true =>
          obtain rfl : 19 = ev := Hev.out
          go_wp2_with fail
          refine (KW.out _ HBB.out).mono ?_
          rintro _ w9 ⟨rfl, hb9⟩
          go_wp2_with fail
          go_ret
          exact ⟨rfl, HBB.out.trans (hb9.mono HBB.out.size)⟩
        | false =>
          obtain rfl : 0 = ev := Hev.out
          go_wp2_with fail
          refine (KW.out _ HBB.out).mono ?_
          rintro _ w9 ⟨rfl, hb9⟩
          go_wp2_with fail
          go_ret
          exact ⟨rfl, HBB.out.trans (hb9.mono HBB.out.size)⟩
end Go.Proofs.YtlbjnkopbabcnaaGreatDoor
end
