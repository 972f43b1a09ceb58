/- PH8 PH9 -/
import Derived.Test.YtlbjnkopbabcnaaGreatDoorYP38
import Derived.Test.YtlbjnkopbabcnaaGreatDoorYP23
import Derived.Test.YtlbjnkopbabcnaaGreatDoorYV12
/- TopSeenByEye: its main walk. -/
section
namespace Go.Proofs.YtlbjnkopbabcnaaGreatDoor
open Go.RowKit Go.Shelf
set_option linter.unusedSimpArgs false
set_option linter.unusedVariables false

set_option maxHeartbeats 1000000 in
theorem sign05_any (n : Int) (w : World) : Calls Tryz.prog 37 #[.int .i64 n] w fun e w' => e = .returned (.int .i64 (Mm.sg5 n)) ∧ Below w.heap.size w w' := by
  by_cases h1 : 0 < n
  · have e : Hid (1 = Mm.sg5 n) := Lib.hid (by unfold Mm.sg5; rw [if_pos h1])
    go_enter Tryz.func37, Tryz.ntmps37
    go_wp2_with fail
    go_ret
    exact ⟨ret_int e.out, blA⟩
  · by_cases h2 : n < 0
    · have e : Hid (-1 = Mm.sg5 n) := Lib.hid (by unfold Mm.sg5; rw [if_neg h1, if_pos h2])
      go_enter Tryz.func37, Tryz.ntmps37
      go_wp2_with fail
      go_ret
      exact ⟨ret_int e.out, blA⟩
    · have e : Hid (0 = Mm.sg5 n) := Lib.hid (by unfold Mm.sg5; rw [if_neg h1, if_neg h2])
      go_enter Tryz.func37, Tryz.ntmps37
      go_wp2_with fail
      go_ret
      exact ⟨ret_int e.out, blA⟩

/-- an operation that is not wanted -/
theorem tree_skip {P : Program} {ops : Array Oper} {Q : Exit → Act → World → Prop} {S : World → Prop} {i m' : Nat} {r : PlT} {o : Oper} {a : Act} {w : World} (ho : nth ops.toList i = some o) (hw : Region.wanted o (yielded ops a.tmps) = false)
    (h : wpTr P ops Q S r (a.put o.dst undef) w) : wpTr P ops Q S (.t i m' r) a w := ⟨o, undef, ho, .inr ⟨hw, rfl⟩, h⟩
/-- the chip that faded -/
def odL (zs : List Int) (s : Int) (n : Nat) : List Int := (List.range n).map fun j => zF zs j - s
theorem odL_len (zs : List Int) (s : Int) (n : Nat) : (odL zs s n).length = n := by simp [odL]
theorem odL_get (zs : List Int) (s : Int) {n b : Nat} (hb : b < n) : (odL zs s n).getD b 0 = zF zs b - s := by
  unfold odL; rw [List.getD_eq_getElem?_getD, List.getElem?_map, List.getElem?_range hb]; rfl
theorem odL_succ (zs : List Int) (s : Int) (n : Nat) : (odL zs s (n + 1)).map (Value.int .i64) = (odL zs s n).map (Value.int .i64) ++ [.int .i64 (zF zs n - s)] := by
  unfold odL; rw [List.range_succ, List.map_append, List.map_append]; rfl

set_option maxRecDepth 100000 in
set_option maxHeartbeats 16000000 in
theorem topByEye_main (E : Option Addr) (ce : Nat) (L : Option Addr) (n cl : Nat) (rs : List (RowR (Int × Int))) (ls : List (Int × Int)) (A : Option Addr) (cA : Nat) (zs : List Int) (D : Option Addr) (kb cb : Nat) (ts : List Int) (k : Nat) (R : Option Addr) (m cr : Nat) (ps : List (RowR Int)) (fy : Int) (w : World)
    (h : Cse w E 3 L n rs ls) (hc : CaseOk n ls 3 rs) (hz : Ints w A n zs) (oz : ChipOk n n zs) (ht : U16s w D kb ts) (hkb : kb ≤ 60) (hp : RowsI w R m ps) (hP : PlanOk k m ps) (f0 : 0 ≤ fy) (f1 : fy ≤ 255) (hG : GlobW w) :
    Calls Tryz.prog 8 #[.agg #[.slice E 3 ce, .slice L n cl], .slice A n cA, .slice D kb cb, .agg #[.int .i64 (k : Nat), .slice R m cr], .int .u8 fy] w fun e w' => e = .returned (.bool true) ∧ Below w.heap.size w w' := by
  have hn8 := hc.2.1
  have hnm : n ≤ 9223372036854775807 := by omega
  have hk39 := hP.k39
  have hk1 := hP.k1
  have hm4 := hP.m4
  have kcc := fun (V : World) (hV : Below w.heap.size w V) => rcheckCase_any E 3 ce L n cl rs ls V (h.below hV)
  have kch := fun (V : World) (hV : Below w.heap.size w V) => rchip_any E 3 ce L n cl A n cA zs V (hz.below hV) hnm
  have kpl := fun (V : World) (hV : Below w.heap.size w V) => plan05_any (k : Nat) R m cr ps V (hp.below hV) (by omega)
  have kt := fun (V : World) (hV : Below w.heap.size w V) => true4_any E 3 ce L n cl rs ls D kb cb ts V (h.below hV) hc (ht.below hV) (by omega)
  have kf := fun (V : World) => faded_any k R m cr fy V hk39 f0 f1
  have kw := fun (V : World) (hV : Below w.heap.size w V) => top_works05_any V (hG.below hV)
  have kn := fun (AE : Option Addr) (cE : Nat) (AL : Option Addr) (cL : Nat) (tl : List Int) (te : List (RowR Int)) (B : Option Addr) (cB : Nat) (us : List Int) (V : World) (hV : Below w.heap.size w V) (hT : Tru V AE AL n tl te) (ht : TruIn n ls rs tl te) (hu : Ints V B n us) (ou : ChipOk n n us) => numbers_ok E 3 ce L n cl rs ls AE cE AL cL tl te B cB us V (h.below hV) hc hT ht hu ou
  have kse := fun (c s : Int) (V : World) (hV : Below w.heap.size w V) (hcs : IsCs k c s) => see_ok k R m cr ps c s V (hp.below hV) hP hcs
  have Hc := Lib.hid hc
  have Hoz := Lib.hid oz
  have Hz := Lib.hid hz
  have Hp := Lib.hid hp
  have HP := Lib.hid hP
  have KW := Lib.hid kw
  have KT := Lib.hid kt
  have KF := Lib.hid kf
  have KN := Lib.hid kn
  have KSE := Lib.hid kse
  have KCH := Lib.hid kch
  have KPL := Lib.hid kpl
  have m3 : ¬ (60 : Int) < (kb : Int) := by omega
  have m12 : ¬ (12 : Int) < (n : Int) := by omega
  clear hc oz h hz ht hp hP hG kw kt kf kn kse kch kpl
  go_enter Tryz.func8, Tryz.ntmps8
  go_wp2_with fail
  refine (kcc _ blA).mono ?_
  rintro _ w1 ⟨⟨q, rfl, hq⟩, hb1⟩
  obtain rfl : q = 0 := hq.2 Hc.out
  have B5 : Cs w1 w.heap.size #[.slice E 3 ce, .slice L n cl] := Cs.keep csA hb1
  have B8 : Cs w1 (w.heap.size + 1) #[.int .i64 (k : Nat), .slice R m cr] := Cs.keep csA hb1
  have hbw : Below w.heap.size w w1 := blA
  clear hb1 kcc hq
  have cB5 := B5.c
  go_wp2_with fail
  refine (KCH.out _ hbw).mono ?_
  rintro _ w2 ⟨⟨q, rfl, hq⟩, hb2⟩
  obtain rfl : q = 0 := hq.2 Hoz.out
  replace B5 := B5.keep hb2
  replace B8 := B8.keep hb2
  replace hbw := hbw.trans (hb2.mono hbw.size)
  clear hb2 KCH hq cB5
  have cB8 := B8.c
  go_wp2_with fail
  refine (KPL.out _ hbw).mono ?_
  rintro _ w3 ⟨⟨q, rfl, hq⟩, hb3⟩
  obtain rfl : q = true := hq.2 ⟨k, rfl, HP.out⟩
  replace B5 := B5.keep hb3
  replace B8 := B8.keep hb3
  replace hbw := hbw.trans (hb3.mono hbw.size)
  clear hb3 KPL hq cB8
  have cB5 := B5.c
  go_wp2_with fail
  refine (KT.out _ hbw).mono ?_
  rintro _ w4 ⟨AE, cE, AL, cL, tl, te, rfl, hte, htl, hti, hb4⟩
  replace B5 := B5.keep hb4
  replace B8 := B8.keep hb4
  replace hbw := hbw.trans (hb4.mono hbw.size)
  have hT : Tru w4 AE AL n tl te := ⟨hte, htl⟩
  have Hti := Lib.hid hti
  clear hb4 KT hte htl cB5 hti
  have cB8 := B8.c
  have lB8 := B8.lt
  go_wp2_with fail
  have BX : Cs (w4.alloc (.cells #[.slice AE 3 cE, .slice AL n cL] 32)) w4.heap.size #[.slice AE 3 cE, .slice AL n cL] := csA
  have hal : Below w4.heap.size w4 (w4.alloc (.cells #[.slice AE 3 cE, .slice AL n cL] 32)) := balloc (Below.refl _ _) _
  refine (KF.out _).mono ?_
  rintro e w5 hpp
  obtain ⟨c, s, rfl, hcs, hb5⟩ := hpp
  have hal5 : Below w4.heap.size w4 w5 := hal.trans (hb5.mono hal.size)
  replace B5 := B5.keep hal5
  replace B8 := B8.keep hal5
  replace BX := BX.keep hb5
  replace hT := hT.below hal5
  replace hbw := hbw.trans (hal5.mono hbw.size)
  clear hb5 hal hal5 KF cB8 lB8
  obtain ⟨W0, hW0⟩ : ∃ W0, w5.alloc (.cells #[.int .i64 c, .int .i64 s] 88) = W0 := ⟨_, rfl⟩
  have HCS : Hid (Cs W0 w5.heap.size #[.int .i64 c, .int .i64 s]) := Lib.hid (by rw [← hW0]; exact csA)
  have HB5 : Hid (Cs W0 w.heap.size #[.slice E 3 ce, .slice L n cl]) := Lib.hid (by rw [← hW0]; exact B5.alloc _)
  have HB8 : Hid (Cs W0 (w.heap.size + 1) #[.int .i64 (k : Nat), .slice R m cr]) := Lib.hid (by rw [← hW0]; exact B8.alloc _)
  have HBX : Hid (Cs W0 w4.heap.size #[.slice AE 3 cE, .slice AL n cL]) := Lib.hid (by rw [← hW0]; exact BX.alloc _)
  have HT : Hid (Tru W0 AE AL n tl te) := Lib.hid (by rw [← hW0]; exact hT.below (balloc (Below.refl _ _) _))
  have Hbw : Hid (Below w.heap.size w W0) := Lib.hid (by rw [← hW0]; exact balloc hbw _)
  have HW0 := Lib.hid hW0
  have hs3 : s = -1 ∨ s = 0 ∨ s = 1 := by rcases hcs with ⟨-, h⟩ | ⟨-, -, h | h⟩ <;> omega
  have Hcs := Lib.hid hcs
  obtain ⟨zb, zo, rfl, zlt, zc⟩ := Hz.out.2 (by have := Hc.out.1; omega)
  have Hzc := Lib.hid zc
  clear hW0 B5 B8 BX hT hbw hcs zc
  go_wp2_with fail
  rw [HW0.out]
  clear HW0
  go_loopw [13, 14] (fun s13 s14 wx => ∃ (i : Nat) (v : Value) (W : World), i ≤ n ∧ v = s13 ∧ s14 = .int .i64 (i : Nat) ∧ Hid (W = wx) ∧ Hid (W.ownsRow W0.heap.size 2 1 v i ((odL zs s i).map (Value.int .i64))) ∧ Hid (∀ j, j < i → 0 ≤ zF zs j - s ∧ zF zs j - s ≤ 1000) ∧ Hid (Below W0.heap.size W0 W)) (fun _ s14 _ => n - (intOf s14).toNat)
  case atStart => exact ⟨0, _, _, Nat.zero_le _, rfl, rfl, Lib.hid rfl, Lib.hid (World.ownsRow_nil _ _ _ _), Lib.hid (fun j hj => absurd hj (by omega)), Lib.hid (Below.refl _ _)⟩
  case round =>
    obtain ⟨i, v, W, hi, rfl, rfl, HW, HO, HR, HB⟩ := hrel
    obtain rfl := HW.out
    clear HW
    have hbW := Hbw.out.trans (HB.out.mono Hbw.out.size)
    have HbW := Lib.hid hbW
    by_cases hin : i < n
    · have hii : (i : Int) < (n : Int) := by omega
      have cCS := (HCS.out.keep HB.out).c
      have x0 : W.cell? ⟨zb, zo + i, none⟩ = some (.int .i64 (zF zs i)) := (hbW.cell (p := ⟨zb, zo + i, none⟩) zlt).trans (Hzc.out i hin)
      have hx := Hoz.out.2 i hin
      change 0 ≤ zF zs i ∧ zF zs i ≤ 1000 at hx
      obtain ⟨d, hd⟩ : ∃ d, zF zs i - s = d := ⟨_, rfl⟩
      have Hd := Lib.hid hd
      have hw : IntKind.i64.wrap (zF zs i - s) = d := by rw [← hd]; exact IntWalk.i64_in _ (by omega)
      clear hbW
      obtain ⟨x, hxx⟩ : ∃ x, zF zs i = x := ⟨_, rfl⟩
      rw [hxx] at x0 hx hw
      clear hd hxx
      go_wp2_with fail
      go_quiet (fail)
      have HbD := Lib.hid (bdrewN HbW.out nq)
      have bWq : Below W0.heap.size W0 (W.drewN nq) := bdrewN HB.out _
      have hOq : (W.drewN nq).ownsRow W0.heap.size 2 1 v i ((odL zs s i).map (Value.int .i64)) := own_keep HO.out (bdrewN (Below.refl _ _) _)
      have HBq := Lib.hid bWq
      have HOq := Lib.hid hOq
      clear cCS x0 HO bWq hOq hw HB
      generalize W.drewN nq = Wq at *
      by_cases h1 : d < 0
      · go_wp2_with fail
        refine (KW.out _ HbD.out).mono ?_
        rintro _ w9 ⟨rfl, hb9⟩
        go_wp2_with fail
        go_ret
        exact ⟨rfl, (HbD.out).trans (hb9.mono (HbD.out).size)⟩
      · by_cases h2 : 1000 < d
        · go_wp2_with fail
          refine (KW.out _ HbD.out).mono ?_
          rintro _ w9 ⟨rfl, hb9⟩
          go_wp2_with fail
          go_ret
          exact ⟨rfl, (HbD.out).trans (hb9.mono (HbD.out).size)⟩
        · have HR2 : Hid (∀ j, j < i + 1 → 0 ≤ zF zs j - s ∧ zF zs j - s ≤ 1000) := Lib.hid (fun j hj => by
            by_cases e : j = i
            · subst e; rw [Hd.out]; omega
            · exact HR.out j (by omega))
          go_wp2_with (at_builtin; refine list_appM elI64 rfl _ _ rfl W0.heap.size i _ _ (by rfl) (HOq.out.alloc _) Wq.heap.size 1 [.int .i64 d] (by rfl) rfl (fun j u hj => by match j, hj with | 0, hj => simp at hj; subst hj; simp | j + 1, hj => simp at hj) (by intro u hu; simp at hu; subst hu; rfl) (by omega) (by omega) (by have := HBq.out.size; simp; omega) ?_; intro v6 w6 hO6 hb6)
          have HO6 : Hid (w6.ownsRow W0.heap.size 2 1 v6 (i + 1) ((odL zs s (i + 1)).map (Value.int .i64))) := Lib.hid (by rw [odL_succ, Hd.out]; exact hO6)
          have HB6 := Lib.hid ((HBq.out.trans (balloc' _ _ _ HBq.out.size)).trans (below_grewB hb6 (fun g e => (HOq.out.lt g e).1) (by have := HBq.out.size; simp; omega)))
          clear hO6 hb6
          go_wp2_with fail
          go_roundw
          case rel => exact ⟨i + 1, _, _, by omega, rfl, by go_num, Lib.hid rfl, HO6, HR2, HB6⟩
          case measure => simp [intOf]; omega
    · obtain rfl : n = i := by omega
      have hii : ¬ (n : Int) < (n : Int) := by omega
      obtain ⟨O, co, rfl, hIO, -⟩ := own_ints (odL_len zs s n) HO.out
      have ho : ChipOk n n (odL zs s n) := ⟨rfl, fun b hb => by rw [odL_get zs s hb]; exact HR.out b hb⟩
      have cB5 := (HB5.out.keep HB.out).c
      have cBX := (HBX.out.keep HB.out).c
      have hz1 := Hz.out.below hbW
      clear hbW HO HR
      go_wp2_with fail
      refine (KN.out AE cE AL cL tl te _ cA zs W HbW.out (HT.out.below HB.out) Hti.out hz1 Hoz.out).mono ?_
      rintro _ w6 ⟨ga, ca, rfl, hIa, -, hb6⟩
      have bW6 := HB.out.trans (hb6.mono HB.out.size)
      replace hIO := hIO.below hb6
      have hbw6 := HbW.out.trans (hb6.mono HbW.out.size)
      clear hb6 cB5 cBX hz1 HB HbW
      have cB5 := (HB5.out.keep bW6).c
      have cBX := (HBX.out.keep bW6).c
      go_wp2_with fail
      refine (KN.out AE cE AL cL tl te O co (odL zs s n) w6 hbw6 (HT.out.below bW6) Hti.out hIO ho).mono ?_
      rintro _ w7 ⟨gb, cb', rfl, hIb, -, hb7⟩
      have bW7 := bW6.trans (hb7.mono bW6.size)
      have hbw7 := hbw6.trans (hb7.mono hbw6.size)
      replace hIa := hIa.below hb7
      clear hb7 bW6 hbw6 cB5 cBX hIO
      have cB8 := (HB8.out.keep bW7).c
      have cCS := (HCS.out.keep bW7).c
      go_wp2_with fail
      refine (KSE.out c s w7 hbw7 Hcs.out).mono ?_
      rintro e w8 hpp
      obtain ⟨S8, c8, rfl, hIs, hb8⟩ := hpp
      have bW8 := bW7.trans (hb8.mono bW7.size)
      have hbw8 := hbw7.trans (hb8.mono hbw7.size)
      replace hIa := hIa.below hb8
      replace hIb := hIb.below hb8
      clear hb8 bW7 hbw7 cB8 cCS KN KSE
      have cB8 := (HB8.out.keep bW8).c
      have hT8 := HT.out.below bW8
      have hbd : ∀ us : List Int, ChipOk n n us → ∀ i, i < 3 → 0 ≤ Mm.seen (pT te tl) (zF us) n i ∧ Mm.seen (pT te tl) (zF us) n i ≤ 80000000 := fun us hu i hi => by
        have := Mm.sm_bd (f := fun b => zF us b * pT te tl i b) (M := 10000000) (n := n) (fun b hb => by
          have h1 := hu.2 b hb
          have h2 := pT_bd Hc.out Hti.out hi hb
          change 0 ≤ zF us b ∧ zF us b ≤ 1000 at h1
          refine ⟨Int.mul_nonneg h1.1 h2.1, ?_⟩
          have := Int.mul_le_mul h1.2 h2.2 h2.1 (by omega)
          omega)
        change 0 ≤ Mm.seen (pT te tl) (zF us) n i ∧ Mm.seen (pT te tl) (zF us) n i ≤ n * 10000000 at this
        have hn8' : (n : Int) ≤ 8 := by omega
        omega
      have hfa0 := hbd zs Hoz.out
      have hfb0 := hbd (odL zs s n) ho
      have hdf : ∀ i, Mm.seen (pT te tl) (zF (odL zs s n)) n i - Mm.seen (pT te tl) (zF zs) n i = -(s * Mm.sm (pT te tl i) n) := fun i => by
        rw [← Mm.odd_seen (pT te tl) (zF zs) s n i]
        congr 1
        exact Mm.sm_congr fun b hb => by rw [show zF (odL zs s n) b = zF zs b - s from odL_get zs s hb]
      have hal : ∀ i, i < 3 → ∀ b, b ≤ n → 0 ≤ Mm.sm (pT te tl i) b ∧ Mm.sm (pT te tl i) b ≤ 80000 := fun i hi b hb => by
        have := Mm.sm_bd (f := pT te tl i) (M := 10000) (n := b) (fun b' hb' => pT_bd Hc.out Hti.out hi (by omega))
        have h8 : (b : Int) ≤ 8 := by omega
        omega
      obtain ⟨fa, hfa⟩ : ∃ fa : Nat → Int, (fun i => Mm.seen (pT te tl) (zF zs) n i) = fa := ⟨_, rfl⟩
      obtain ⟨fb, hfb⟩ : ∃ fb : Nat → Int, (fun i => Mm.seen (pT te tl) (zF (odL zs s n)) n i) = fb := ⟨_, rfl⟩
      have ea : ∀ i, Mm.seen (pT te tl) (zF zs) n i = fa i := fun i => congrFun hfa i
      have eb : ∀ i, Mm.seen (pT te tl) (zF (odL zs s n)) n i = fb i := fun i => congrFun hfb i
      simp only [ea] at hIa hfa0 hdf
      simp only [eb] at hIb hfb0 hdf
      obtain ⟨cn, rfl⟩ : ∃ cn : Nat, c = (cn : Int) := ⟨c.toNat, by have := Hcs.out; unfold IsCs at this; omega⟩
      have hck : cn < k := by have := Hcs.out; unfold IsCs at this; omega
      have HIa := Lib.hid hIa
      have HIb := Lib.hid hIb
      have HIs := Lib.hid hIs
      have Hfa0 := Lib.hid hfa0
      have Hfb0 := Lib.hid hfb0
      have Hdf := Lib.hid hdf
      have Hal := Lib.hid hal
      have HT8 := Lib.hid hT8
      have Hbw8 := Lib.hid hbw8
      have HX8 := Lib.hid (HBX.out.keep bW8)
      have HP8 := Lib.hid (HB8.out.keep bW8)
      have HC8 := Lib.hid (HCS.out.keep bW8)
      clear hfa hfb ea eb hIa hIb hIs hfa0 hfb0 hdf hal hT8 hbw8 hbd ho bW8 HBX HB8 HCS HB5 HT
      go_wp2_with fail
      clear cB8
      go_loopw [22] (fun s22 wx => ∃ (i : Nat) (W : World), i ≤ 3 ∧ s22 = .int .i64 (i : Nat) ∧ Hid (W = wx) ∧ Hid (Below w8.heap.size w8 W)) (fun s22 _ => 3 - (intOf s22).toNat)
      case atStart => exact ⟨0, _, by omega, rfl, Lib.hid rfl, Lib.hid (Below.refl _ _)⟩
      case round =>
        clear hii hi
        obtain ⟨i, W, hi, rfl, HW, HB⟩ := hrel
        obtain rfl := HW.out
        clear HW
        by_cases hi3 : i < 3
        · have hii : (i : Int) < 3 := by omega
          have HB0 := HB
          go_wp2_with fail
          go_loopw [23, 24] (fun s23 s24 wx => ∃ (b : Nat) (W : World), b ≤ n ∧ s23 = .int .i64 (Mm.sm (pT te tl i) b) ∧ s24 = .int .i64 (b : Nat) ∧ Hid (W = wx) ∧ Hid (Below w8.heap.size w8 W)) (fun _ s24 _ => n - (intOf s24).toNat)
          case atStart => exact ⟨0, _, by omega, rfl, rfl, Lib.hid rfl, HB0⟩
          case round =>
            clear HB HB0
            obtain ⟨b, W, hb, rfl, rfl, HW, HB⟩ := hrel
            obtain rfl := HW.out
            clear HW
            by_cases hbn : b < n
            · have hbb : (b : Int) < (n : Int) := by omega
              have cX := (HX8.out.keep HB.out).c
              obtain ⟨xb, xo, A', n', c', zs', rfl, hg, xlt, xc, hI, hn', _⟩ := HT8.out.e.atA HB.out hi3
              have e1 : n' = n := by have := Hti.out.N i hi3; rw [hg] at this; exact this
              subst e1
              obtain ⟨sb, so, rfl, slt, sc⟩ := hI.2 (by omega)
              have s0 := sc b hbn
              obtain ⟨lb, lo, rfl, llt, lc⟩ := HT8.out.l.2 (by omega)
              have l0 := (HB.out.cell (p := ⟨lb, lo + b, none⟩) llt).trans (lc b hbn)
              have hpT : pT te tl i b = zs'.getD b 0 * tl.getD b 0 := by unfold pT; rw [hg]
              have hp1 := pT_bd Hc.out Hti.out hi3 hbn
              have hsm : Mm.sm (pT te tl i) (b + 1) = Mm.sm (pT te tl i) b + pT te tl i b := rfl
              have h80 := Hal.out i hi3 b (by omega)
              rw [hpT] at hp1 hsm
              generalize zs'.getD b 0 = pe at *
              generalize tl.getD b 0 = pl at *
              have Hsm := Lib.hid hsm
              clear hg hI sc lc hpT hsm
              obtain ⟨S, hS⟩ : ∃ S, Mm.sm (pT te tl i) b = S := ⟨_, rfl⟩
              rw [hS] at h80
              rw [hS]
              have HS := Lib.hid hS
              clear hS
              have w1' : IntKind.i64.wrap (pe * pl) = pe * pl := IntWalk.i64_in _ (by omega)
              have w2' : IntKind.i64.wrap (S + pe * pl) = S + pe * pl := IntWalk.i64_in _ (by omega)
              go_wp2_with fail
              go_quiet (fail)
              go_wp2_with fail
              go_roundw
              case rel => exact ⟨b + 1, _, by omega, by rw [Hsm.out, HS.out], by go_num, Lib.hid rfl, Lib.hid (bdrewN HB.out _)⟩
              case measure => simp [intOf]; omega
            · obtain rfl : n = b := by omega
              have hbb : ¬ (n : Int) < (n : Int) := by omega
              have HB0 := HB
              have cP8 := (HP8.out.keep HB.out).c
              obtain ⟨al, hal⟩ : ∃ al, Mm.sm (pT te tl i) n = al := ⟨_, rfl⟩
              rw [hal]
              have Hal2 := Lib.hid hal
              clear hal
              go_wp2_with fail
              clear cP8
              go_loopw [25] (fun s25 wx => ∃ (r : Nat) (W : World), r ≤ m ∧ s25 = .int .i64 (r : Nat) ∧ Hid (W = wx) ∧ Hid (Below w8.heap.size w8 W)) (fun s25 _ => m - (intOf s25).toNat)
              case atStart => exact ⟨0, _, by omega, rfl, Lib.hid rfl, HB0⟩
              case round =>
                clear HB HB0
                obtain ⟨r, W, hr, rfl, HW, HB⟩ := hrel
                obtain rfl := HW.out
                clear HW
                have cP8 := (HP8.out.keep HB.out).c
                by_cases hrm : r < m
                · have hrr : (r : Int) < (m : Int) := by omega
                  have HB0 := HB
                  go_wp2_with fail
                  clear cP8
                  have hXr := HP.out.rng r hrm
                  have hX0 := HP.out.sum r hrm
                  have hfai := Hfa0.out i hi3
                  have hfbi := Hfb0.out i hi3
                  have hrb : ∀ M, M ≤ k → -((M : Int) * 80000000) ≤ Mm.sm (fun j => rcI ps r j * (if j = cn then fb i else fa i)) M ∧ Mm.sm (fun j => rcI ps r j * (if j = cn then fb i else fa i)) M ≤ (M : Int) * 80000000 := fun M hM => Mm.sm_abs (fun j hj => by
                    have h1 := hXr j (by omega)
                    have h3 : rcI ps r j = -1 ∨ rcI ps r j = 0 ∨ rcI ps r j = 1 := by omega
                    rcases h3 with e | e | e <;> rw [e] <;> split <;> omega)
                  have Hrb := Lib.hid hrb
                  have HXr := Lib.hid hXr
                  have HX0 := Lib.hid hX0
                  clear hrb hXr hX0
                  go_loopw [26, 27] (fun s26 s27 wx => ∃ (M : Nat) (W : World), M ≤ k ∧ s26 = .int .i64 (Mm.sm (fun j => rcI ps r j * (if j = cn then fb i else fa i)) M) ∧ s27 = .int .i64 (M : Nat) ∧ Hid (W = wx) ∧ Hid (Below w8.heap.size w8 W)) (fun _ s27 _ => k - (intOf s27).toNat)
                  case atStart => exact ⟨0, _, by omega, rfl, rfl, Lib.hid rfl, HB0⟩
                  case round =>
                    clear HB HB0
                    obtain ⟨M, W, hM, rfl, rfl, HW, HB⟩ := hrel
                    obtain rfl := HW.out
                    clear HW
                    have cP8 := (HP8.out.keep HB.out).c
                    have hrbM := Hrb.out M hM
                    by_cases hMk : M < k
                    · have hMM : (M : Int) < (k : Int) := by omega
                      have cC8 := (HC8.out.keep HB.out).c
                      have xa := (HIa.out.below HB.out).cell0 i hi3
                      have xb9 := (HIb.out.below HB.out).cell0 i hi3
                      rw [show [fa 0, fa 1, fa 2].getD i 0 = fa i by
                        match i, hi3 with
                        | 0, _ => rfl
                        | 1, _ => rfl
                        | 2, _ => rfl, Nat.zero_add] at xa
                      rw [show [fb 0, fb 1, fb 2].getD i 0 = fb i by
                        match i, hi3 with
                        | 0, _ => rfl
                        | 1, _ => rfl
                        | 2, _ => rfl, Nat.zero_add] at xb9
                      obtain ⟨xb, xo, A', n', c', zs', rfl, hg, xlt, xc, hI, hn', _⟩ := Hp.out.atA (Hbw8.out.trans (HB.out.mono Hbw8.out.size)) hrm
                      have e1 : n' = k := by have := HP.out.len r hrm; rw [hg] at this; exact this
                      subst e1
                      obtain ⟨sb, so, rfl, slt, sc⟩ := hI.2 (by omega)
                      have s0 := sc M hMk
                      rw [show zs'.getD M 0 = rcI ps r M by unfold rcI; rw [hg]] at s0
                      have hx := HXr.out M hMk
                      have hsm : Mm.sm (fun j => rcI ps r j * (if j = cn then fb i else fa i)) (M + 1) = Mm.sm (fun j => rcI ps r j * (if j = cn then fb i else fa i)) M + rcI ps r M * (if M = cn then fb i else fa i) := rfl
                      have Hsm := Lib.hid hsm
                      clear hg hI sc hsm
                      obtain ⟨x, hxx⟩ : ∃ x, rcI ps r M = x := ⟨_, rfl⟩
                      rw [hxx] at s0 hx
                      have Hxx := Lib.hid hxx
                      obtain ⟨S, hS⟩ : ∃ S, Mm.sm (fun j => rcI ps r j * (if j = cn then fb i else fa i)) M = S := ⟨_, rfl⟩
                      rw [hS] at hrbM
                      rw [hS]
                      have HS := Lib.hid hS
                      clear hS hxx
                      generalize hga : fa i = va at *
                      generalize hgb : fb i = vb at *
                      have HB9 := HB
                      have hx3 : x = -1 ∨ x = 0 ∨ x = 1 := by omega
                      have hxa : -80000000 ≤ x * va ∧ x * va ≤ 80000000 := by rcases hx3 with rfl | rfl | rfl <;> omega
                      have hxb : -80000000 ≤ x * vb ∧ x * vb ≤ 80000000 := by rcases hx3 with rfl | rfl | rfl <;> omega
                      have w1' : IntKind.i64.wrap (x * va) = x * va := IntWalk.i64_in _ (by omega)
                      have w2' : IntKind.i64.wrap (S + x * va) = S + x * va := IntWalk.i64_in _ (by omega)
                      have w3' : IntKind.i64.wrap (x * vb) = x * vb := IntWalk.i64_in _ (by omega)
                      have w4' : IntKind.i64.wrap (S + x * vb) = S + x * vb := IntWalk.i64_in _ (by omega)
                      clear hx3 hxa hxb hfai hfbi hrbM
                      by_cases hMc : M = cn
                      · subst hMc
                        have q1 : ((M : Int) == (M : Int)) = true := by simp
                        go_wp2_with fail
                        go_roundw
                        case rel => exact ⟨M + 1, _, by omega, by rw [Hsm.out, if_pos rfl, HS.out, Hxx.out], by go_num, Lib.hid rfl, HB9⟩
                        case measure => simp [intOf]; omega
                      · have q1 : ((M : Int) == (cn : Int)) = false := by simp; omega
                        go_wp2_with fail
                        go_roundw
                        case rel => exact ⟨M + 1, _, by omega, by rw [Hsm.out, if_neg hMc, HS.out, Hxx.out], by go_num, Lib.hid rfl, HB9⟩
                        case measure => simp [intOf]; omega
                    · obtain rfl : k = M := by omega
                      have hMM : ¬ (k : Int) < (k : Int) := by omega
                      have hside := Mm.side_eq (r := rcI ps r) (n := k) hck HX0.out (fa i) (fb i)
                      rw [Hdf.out i, Hal2.out] at hside
                      have hX3 := HXr.out cn hck
                      obtain ⟨qb, qo, rfl, qlt, qc⟩ := HIs.out.2 (by omega)
                      have q0 := (HB.out.cell (p := ⟨qb, qo + r, none⟩) qlt).trans (qc r hrm)
                      rw [show (seeL ps m (cn : Int) s).getD r 0 = s * rcI ps r cn by unfold seeL; rw [List.getD_eq_getElem?_getD, List.getElem?_map, List.getElem?_range hrm, Int.toNat_natCast]; rfl] at q0
                      have hal0 := Hal.out i hi3 n (Nat.le_refl _)
                      rw [Hal2.out] at hal0
                      obtain ⟨rt, hrt⟩ : ∃ rt, Mm.sm (fun j => rcI ps r j * (if j = cn then fb i else fa i)) k = rt := ⟨_, rfl⟩
                      rw [hrt] at hside hrbM
                      rw [hrt]
                      have HB9 := HB
                      clear qc hrt hfai hfbi
                      obtain ⟨X, hX⟩ : ∃ X, rcI ps r cn = X := ⟨_, rfl⟩
                      rw [hX] at hside hX3 q0
                      clear hX
                      have hX4 : X = -1 ∨ X = 0 ∨ X = 1 := by omega
                      have wn : IntKind.i64.wrap (-rt) = -rt := IntWalk.i64_in _ (by omega)
                      by_cases ha0 : al = 0
                      · have hr0 : rt = 0 := by rw [hside]; exact Mm.eye_zero ha0
                        subst hr0
                        subst ha0
                        clear hside hX4 hX3 wn hrbM hal0 q0
                        go_wp2_with fail
                        go_quiet (fail)
                        go_wp2_with fail
                        go_roundw
                        case rel => exact ⟨r + 1, _, by omega, by go_num, Lib.hid rfl, Lib.hid (bdrewN HB9.out _)⟩
                        case measure => simp [intOf]; omega
                      · have ha1 : 0 < al := by omega
                        have hsg : Mm.sg5 (-rt) = s * X := by rw [hside]; exact Mm.eye_sign hs3 hX4 ha1
                        have ks := fun (V : World) => sign05_any (-rt) V
                        rw [hsg] at ks
                        clear hside hsg
                        have hsx : ((s * X) != (s * X)) = false := by simp
                        have h1 : (al == 0) = false := by simpa using ha0
                        go_wp2_with fail
                        have q0D : W.drew.cell? ⟨qb, qo + r, none⟩ = some (.int .i64 (s * X)) := q0
                        refine wp_region_tree (S := fun U : World => U.cell? ⟨qb, qo + r, none⟩ = some (.int .i64 (s * X))) (.t 0 1 (.t 1 3 (.t 2 7 (.t 3 15 (.t 4 31 (.t 5 63 (.t 6 127 (.t 7 255 (.t 8 511 (.t 9 1023 (.t 10 2047 (.t 11 4095 (.t 13 12287 (.t 14 28671 (.t 15 61439 (.t 16 126975 (.o 12 131071 (.t 17 262143 (.t 18 524287 (.t 19 1048575 .nil)))))))))))))))))))) (by kernel_rfl) (by kernel_rfl) (by as_aux_lemma => kernel_rfl) (by kernel_rfl) (fun c a d v w h => by cases d <;> exact h) q0D (fun hHeld => ?_)
                        clear hHeld q0
                        have hWd : Below W.heap.size W W.drew := Below.drew (Below.refl _ _)
                        have hqW : qb < W.drew.heap.size := World.block_lt_of_cell? _ _ q0D
                        generalize W.drew = V0 at *
                        iterate 3 (refine tree_take (v := ?_) rfl (by rfl) ?_ ?_; rotate_left; (focus (intro w9 hSw; (go_simp <;> with_reducible rfl))); try simp only [Act.put, List.setIfInBounds_toArray, List.set_cons_zero, List.set_cons_succ])
                        iterate 2 (refine tree_skip rfl (by rfl) ?_; try simp only [Act.put, List.setIfInBounds_toArray, List.set_cons_zero, List.set_cons_succ])
                        iterate 7 (refine tree_take (v := ?_) rfl (by rfl) ?_ ?_; rotate_left; (focus (intro w9 hSw; (go_simp <;> with_reducible rfl))); try simp only [Act.put, List.setIfInBounds_toArray, List.set_cons_zero, List.set_cons_succ])
                        iterate 4 (refine tree_take (v := ?_) rfl (by rfl) ?_ ?_; rotate_left; (focus (intro w9 hSw; (go_simp <;> with_reducible rfl))); try simp only [Act.put, List.setIfInBounds_toArray, List.set_cons_zero, List.set_cons_succ])
                        refine tree_one rfl (fun K9 hS9 => ?_)
                        go_simp
                        refine (ks V0).mono ?_
                        rintro e9 V1 ⟨rfl, hy9⟩
                        have hB10 := Lib.hid (HB9.out.trans ((hWd.trans (hy9.mono hWd.size)).mono HB9.out.size))
                        refine hS9.out _ _ ((hy9.cell (p := ⟨qb, qo + r, none⟩) hqW).trans q0D) (fun _ => ?_)
                        clear hS9 K9 hy9 ks
                        try simp only [Act.put, List.setIfInBounds_toArray, List.set_cons_zero, List.set_cons_succ]
                        iterate 3 (refine tree_take (v := ?_) rfl (by rfl) ?_ ?_; rotate_left; (focus (intro w9 hSw; (go_simp <;> with_reducible rfl))); try simp only [Act.put, List.setIfInBounds_toArray, List.set_cons_zero, List.set_cons_succ])
                        refine tree_done (fun U => V1 = U) rfl (fun U hU => ?_)
                        subst hU
                        go_wp2_with fail
                        go_roundw
                        case rel => exact ⟨r + 1, _, by omega, by go_num, Lib.hid rfl, hB10⟩
                        case measure => simp [intOf]; omega
                · have hrr : ¬ (r : Int) < (m : Int) := by omega
                  have HB9 := HB
                  go_wp2_with fail
                  go_roundw
                  case rel => exact ⟨i + 1, _, by omega, by go_num, Lib.hid rfl, HB9⟩
                  case measure => simp [intOf]; omega
        · have hii : ¬ (i : Int) < 3 := by omega
          have HbF := Lib.hid (Hbw8.out.trans (HB.out.mono Hbw8.out.size))
          go_wp2_with fail
          refine (KW.out _ HbF.out).mono ?_
          rintro _ w9 ⟨rfl, hb9⟩
          go_wp2_with fail
          go_ret
          exact ⟨rfl, HbF.out.trans (hb9.mono HbF.out.size)⟩
end Go.Proofs.YtlbjnkopbabcnaaGreatDoor
end

/- TopSeenByEye: the walk for all arguments. -/
section
namespace Go.Proofs.YtlbjnkopbabcnaaGreatDoor
open Go.RowKit Go.Shelf
set_option linter.unusedSimpArgs false
set_option linter.unusedVariables false

set_option maxRecDepth 100000 in
set_option maxHeartbeats 8000000 in
theorem topByEye_any (E : Option Addr) (me ce : Nat) (L : Option Addr) (n cl : Nat) (rs : List (RowR (Int × Int))) (ls : List (Int × Int)) (A : Option Addr) (k1 cA : Nat) (zs : List Int) (D : Option Addr) (kb cb : Nat) (ts : List Int) (ch : Int) (R : Option Addr) (m cr : Nat) (ps : List (RowR Int)) (fy : Int) (w : World)
    (h : Cse w E me L n rs ls) (hz : Ints w A k1 zs) (hk1 : k1 ≤ 9223372036854775807) (ht : U16s w D kb ts) (hkb9 : kb ≤ 9223372036854775807) (hp : RowsI w R m ps) (hm9 : m ≤ 9223372036854775807) (f0 : 0 ≤ fy) (f1 : fy ≤ 255) (hG : GlobW w) :
    Calls Tryz.prog 8 #[.agg #[.slice E me ce, .slice L n cl], .slice A k1 cA, .slice D kb cb, .agg #[.int .i64 ch, .slice R m cr], .int .u8 fy] w fun e w' => e = .returned (.bool true) ∧ Below w.heap.size w w' := by
  by_cases hall : CaseOk n ls me rs ∧ ChipOk n k1 zs ∧ kb ≤ 60 ∧ PlanOkI ch m ps
  · obtain ⟨hc, h1, h3, k, rfl, hP⟩ := hall
    obtain rfl : me = 3 := hc.2.2.1
    obtain rfl : n = k1 := h1.1.symm
    exact topByEye_main E ce L n cl rs ls A cA zs D kb cb ts k R m cr ps fy w h hc hz h1 ht h3 hp hP f0 f1 hG
  have hme := h.me
  have hml := h.ml
  have kcc := fun (V : World) (hV : Below w.heap.size w V) => rcheckCase_any E me ce L n cl rs ls V (h.below hV)
  have kch := fun (V : World) (hV : Below w.heap.size w V) => rchip_any E me ce L n cl A k1 cA zs V (hz.below hV) hk1
  have kpl := fun (V : World) (hV : Below w.heap.size w V) => plan05_any ch R m cr ps V (hp.below hV) hm9
  have kw := fun (V : World) (hV : Below w.heap.size w V) => top_works05_any V (hG.below hV)
  have KW := Lib.hid kw
  have KCH := Lib.hid kch
  have KPL := Lib.hid kpl
  have Hall := Lib.hid hall
  clear kw kch kpl h hz ht hp hG hall
  go_enter Tryz.func8, Tryz.ntmps8
  obtain ⟨W0, hW0⟩ : ∃ W0, (w.alloc (.cells #[.slice E me ce, .slice L n cl] 25)).alloc (.cells #[.int .i64 ch, .slice R m cr] 85) = W0 := ⟨_, rfl⟩
  have hb0 : Below w.heap.size w W0 := by rw [← hW0]; exact balloc (balloc (Below.refl _ _) _) _
  have HB0 := Lib.hid hb0
  have B5 : Cs W0 w.heap.size #[.slice E me ce, .slice L n cl] := by rw [← hW0]; exact csA
  have B8 : Cs W0 (w.heap.size + 1) #[.int .i64 ch, .slice R m cr] := by rw [← hW0]; exact csA
  have HW0 := Lib.hid hW0
  have H5 := Lib.hid B5
  have H8 := Lib.hid B8
  clear hW0 hb0 B5 B8
  by_cases h12 : (12 : Int) < (n : Int)
  · go_wp2_with fail
    rw [HW0.out]
    refine (KW.out _ HB0.out).mono ?_
    rintro _ w9 ⟨rfl, hb9⟩
    have HB9 := Lib.hid (HB0.out.trans (hb9.mono HB0.out.size))
    go_wp2_with fail
    go_ret
    exact ⟨rfl, HB9.out⟩
  · by_cases h6 : (6 : Int) < (me : Int)
    · go_wp2_with fail
      rw [HW0.out]
      refine (KW.out _ HB0.out).mono ?_
      rintro _ w9 ⟨rfl, hb9⟩
      have HB9 := Lib.hid (HB0.out.trans (hb9.mono HB0.out.size))
      go_wp2_with fail
      go_ret
      exact ⟨rfl, HB9.out⟩
    · go_wp2_with fail
      rw [HW0.out]
      refine (kcc _ HB0.out).mono ?_
      rintro _ w1 ⟨⟨q, rfl, hq⟩, hb1⟩
      have HB1 := Lib.hid (HB0.out.trans (hb1.mono HB0.out.size))
      replace H5 := Lib.hid (H5.out.keep hb1)
      replace H8 := Lib.hid (H8.out.keep hb1)
      have cB5 := H5.out.c
      clear hb1 kcc
      by_cases hq0 : q = 0
      · subst hq0
        have HC := Lib.hid (hq.1 rfl)
        clear hq
        go_wp2_with fail
        refine (KCH.out _ HB1.out).mono ?_
        rintro _ w2 ⟨⟨p, rfl, hp⟩, hb2⟩
        have HB2 := Lib.hid (HB1.out.trans (hb2.mono HB1.out.size))
        replace H8 := Lib.hid (H8.out.keep hb2)
        have cB8 := H8.out.c
        clear hb2 cB5
        by_cases hp0 : p = 0
        · subst hp0
          have HO := Lib.hid (hp.1 rfl)
          clear hp
          by_cases h60 : (60 : Int) < (kb : Int)
          · clear cB8
            go_wp2_with fail
            refine (KW.out _ HB2.out).mono ?_
            rintro _ w9 ⟨rfl, hb9⟩
            have HB9 := Lib.hid (HB2.out.trans (hb9.mono HB2.out.size))
            go_wp2_with fail
            go_ret
            exact ⟨rfl, HB9.out⟩
          · go_wp2_with fail
            refine (KPL.out _ HB2.out).mono ?_
            rintro _ w3 ⟨⟨b, rfl, hb⟩, hb3⟩
            have HB3 := Lib.hid (HB2.out.trans (hb3.mono HB2.out.size))
            clear hb3 cB8
            obtain rfl : b = false := by
              cases b with
              | false => rfl
              | true => exact absurd ⟨HC.out, HO.out, by omega, hb.1 rfl⟩ Hall.out
            clear hb
            go_wp2_with fail
            refine (KW.out _ HB3.out).mono ?_
            rintro _ w9 ⟨rfl, hb9⟩
            have HB9 := Lib.hid (HB3.out.trans (hb9.mono HB3.out.size))
            go_wp2_with fail
            go_ret
            exact ⟨rfl, HB9.out⟩
        · have q1 : (p == 0) = false := by simpa using hp0
          have q2 : (p != 0) = true := by simpa using hp0
          clear hp cB8
          go_wp2_with fail
          refine (KW.out _ HB2.out).mono ?_
          rintro _ w9 ⟨rfl, hb9⟩
          have HB9 := Lib.hid (HB2.out.trans (hb9.mono HB2.out.size))
          go_wp2_with fail
          go_ret
          exact ⟨rfl, HB9.out⟩
      · have q1 : (q == 0) = false := by simpa using hq0
        have q2 : (q != 0) = true := by simpa using hq0
        clear hq cB5
        go_wp2_with fail
        refine (KW.out _ HB1.out).mono ?_
        rintro _ w9 ⟨rfl, hb9⟩
        have HB9 := Lib.hid (HB1.out.trans (hb9.mono HB1.out.size))
        go_wp2_with fail
        go_ret
        exact ⟨rfl, HB9.out⟩
end Go.Proofs.YtlbjnkopbabcnaaGreatDoor
end
