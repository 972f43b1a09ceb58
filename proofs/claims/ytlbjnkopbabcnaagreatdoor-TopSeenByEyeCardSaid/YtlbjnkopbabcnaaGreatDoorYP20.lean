/- PE6 -/
import Derived.Test.YtlbjnkopbabcnaaGreatDoorYP18
import Derived.Test.YtlbjnkopbabcnaaGreatDoorYP19
import Derived.Test.YtlbjnkopbabcnaaGreatDoorYB08
import Derived.Deep.DeepCutAuto
import Derived.Deep.RegionHeld3
/- Walks of package metamer: the spans of a chip's numbers. -/
section
namespace Go.Proofs.YtlbjnkopbabcnaaGreatDoor
open Go.RowKit Go.Shelf
set_option linter.unusedSimpArgs false
set_option linter.unusedVariables false

/-- what of a chip is above 0, as far as the first k bands -/
def upL (zs : List Int) (n k : Nat) : List Int := rowF n fun b => if b < k then zF zs b else 0
theorem upL_zero (zs : List Int) (n : Nat) : upL zs n 0 = List.replicate n 0 := by rw [← rowF_zero]; exact rowF_congr fun i _ => if_neg (by omega)
theorem upL_set (zs : List Int) (n : Nat) {k : Nat} (hk : k < n) : (upL zs n k).set k (zF zs k) = upL zs n (k + 1) := by
  unfold upL
  rw [rowF_set]
  refine rowF_congr fun i _ => ?_
  by_cases e : i = k
  · subst e; rw [if_pos rfl, if_pos (by omega)]
  · rw [if_neg e]
    by_cases e2 : i < k
    · rw [if_pos e2, if_pos (by omega)]
    · rw [if_neg e2, if_neg (by omega)]
theorem upL_all {zs : List Int} {n : Nat} (h : zs.length = n) : upL zs n n = zs := by
  apply List.ext_getElem (by simp [upL, rowF, h])
  intro q h1 h2
  simp only [upL, rowF, List.getElem_map, List.getElem_range]
  rw [if_pos (by omega)]
  simp [zF, h2]
theorem zer_set (n : Nat) {k : Nat} (hk : k < n) : (List.replicate n (0 : Int)).set k 0 = List.replicate n 0 := by
  apply List.ext_getElem (by simp)
  intro q h1 h2
  simp [List.getElem_set]
theorem zF_zer (n b : Nat) : zF (List.replicate n 0) b = 0 := by
  unfold zF
  rw [List.getD_eq_getElem?_getD, List.getElem?_replicate]
  split <;> rfl
theorem seen_zer (p : Nat → Nat → Int) (n m i : Nat) : Mm.seen p (zF (List.replicate n 0)) m i = 0 := by
  unfold Mm.seen
  induction m with
  | zero => rfl
  | succ m ih => show Mm.sm _ m + zF _ m * _ = 0; rw [ih, zF_zer]; simp

/-- three spans in a row, as far as the first i -/
def spF (xs ys : List Int) (i j : Nat) : Int := if j / 2 < i then (if j % 2 = 0 then xs.getD (j / 2) 0 else ys.getD (j / 2) 0) else 0
theorem spF_zero (xs ys : List Int) : spF xs ys 0 = fun _ => 0 := funext fun j => if_neg (by omega)
theorem spF_set (xs ys : List Int) {i : Nat} (hi : i < 3) : ((rowF 6 (spF xs ys i)).set (i * 2) (xs.getD i 0)).set (i * 2 + 1) (ys.getD i 0) = rowF 6 (spF xs ys (i + 1)) := by
  rw [rowF_set, rowF_set]
  refine rowF_congr fun j hj => ?_
  unfold spF
  by_cases e1 : j = i * 2 + 1
  · rw [if_pos e1, if_pos (by omega), if_neg (by omega), show j / 2 = i by omega]
  · rw [if_neg e1]
    by_cases e2 : j = i * 2
    · rw [if_pos e2, if_pos (by omega), if_pos (by omega), show j / 2 = i by omega]
    · rw [if_neg e2]
      by_cases e3 : j / 2 < i
      · rw [if_pos e3, if_pos (show j / 2 < i + 1 by omega)]
      · rw [if_neg e3, if_neg (show ¬ j / 2 < i + 1 by omega)]
theorem spF_all {x0 x1 x2 y0 y1 y2 x y : Int} {i : Nat} (h : [(x0, y0), (x1, y1), (x2, y2)][i]? = some (x, y)) : spF [x0, x1, x2] [y0, y1, y2] 3 (i * 2) = x ∧ spF [x0, x1, x2] [y0, y1, y2] 3 (i * 2 + 1) = y := by
  match i, h with
  | 0, h => simp at h; exact ⟨h.1, h.2⟩
  | 1, h => simp at h; exact ⟨h.1, h.2⟩
  | 2, h => simp at h; exact ⟨h.1, h.2⟩
  | i + 3, h => simp at h
theorem Cs.at3 {w : World} {g : Nat} {a b c : Int} (h : Cs w g #[.int .i64 a, .int .i64 b, .int .i64 c]) {i : Nat} (hi : i < 3) : w.cell? ⟨g, i, none⟩ = some (.int .i64 ([a, b, c].getD i 0)) := by
  rw [h.c]
  match i, hi with
  | 0, _ => rfl
  | 1, _ => rfl
  | 2, _ => rfl
theorem zer3 (i : Nat) : [(0 : Int), 0, 0].getD i 0 = 0 := by
  match i with
  | 0 => rfl
  | 1 => rfl
  | 2 => rfl
  | i + 3 => rfl

set_option maxRecDepth 100000 in
set_option maxHeartbeats 8000000 in
theorem spans_any (E : Option Addr) (ce : Nat) (L : Option Addr) (n cl : Nat) (rs : List (RowR (Int × Int))) (ls : List (Int × Int)) (A : Option Addr) (c : Nat) (zs : List Int) (w : World)
    (hC : Cse w E 3 L n rs ls) (hc : CaseOk n ls 3 rs) (hz : Ints w A n zs) (oz : ChipOk n n zs) :
    Calls Tryz.prog 55 #[.agg #[.slice E 3 ce, .slice L n cl], .slice A n c] w fun e w' => ∃ g, e = .returned (.slice (some ⟨g, 0, none⟩) 3 3) ∧
      Prs w' (some ⟨g, 0, none⟩) 3 [(Mm.seen (Mm.low (rgA ls) (egA rs)) (zF zs) n 0, Mm.seen (Mm.high (rgA ls) (egA rs)) (zF zs) n 0), (Mm.seen (Mm.low (rgA ls) (egA rs)) (zF zs) n 1, Mm.seen (Mm.high (rgA ls) (egA rs)) (zF zs) n 1), (Mm.seen (Mm.low (rgA ls) (egA rs)) (zF zs) n 2, Mm.seen (Mm.high (rgA ls) (egA rs)) (zF zs) n 2)] ∧ w.heap.size ≤ g ∧ Below w.heap.size w w' := by
  have hn8 := hc.2.1
  have hn1 := hc.1
  have hzl := hz.1
  have oz' : ∀ b, b < n → 0 ≤ zF zs b ∧ zF zs b ≤ 1000 := fun b hb => by have := oz.2 b hb; unfold zF; omega
  have Hz := Lib.hid hz
  have Hzl := Lib.hid hzl
  have Hoz := Lib.hid oz'
  have hmk := run_makeR n (by omega)
  have KL := Lib.hid (fun (g : Nat) (us : List Int) (W : World) (hW : Below w.heap.size w W) (hu : Ints W (some ⟨g, 0, none⟩) n us) (hb : ∀ b, b < n → -1000 ≤ zF us b ∧ zF us b ≤ 1000) => see_any E 3 ce L n cl (some ⟨g, 0, none⟩) n n us 124 #[.agg #[.slice E 3 ce, .slice L n cl]] #[] (Mm.low (rgA ls) (egA rs)) W
    (enters_of Tryz.func124 (by kernel_rfl) rfl) hu hn8 (fun i b V hi hb hV => low_any i b E 3 ce L n cl rs ls V (hC.below (hW.trans (hV.mono hW.size))) hc hi hb)
    (fun i b hi hb => by have := Mm.low_le hc.ok hi hb; omega) hb)
  have KH := Lib.hid (fun (g : Nat) (us : List Int) (W : World) (hW : Below w.heap.size w W) (hu : Ints W (some ⟨g, 0, none⟩) n us) (hb : ∀ b, b < n → -1000 ≤ zF us b ∧ zF us b ≤ 1000) => see_any E 3 ce L n cl (some ⟨g, 0, none⟩) n n us 125 #[.agg #[.slice E 3 ce, .slice L n cl]] #[] (Mm.high (rgA ls) (egA rs)) W
    (enters_of Tryz.func125 (by kernel_rfl) rfl) hu hn8 (fun i b V hi hb hV => high_any i b E 3 ce L n cl rs ls V (hC.below (hW.trans (hV.mono hW.size))) hc hi hb)
    (fun i b hi hb => by have := Mm.low_le hc.ok hi hb; omega) hb)
  have hsb := fun i (hi : i < 3) => (seen_bd (p := Mm.low (rgA ls) (egA rs)) (s := zF zs) (k := n) (b := n) (i := i) (fun i b hi hb => by have := Mm.low_le hc.ok hi hb; omega) (fun b hb => by have := oz' b hb; omega) hi (Nat.le_refl _) hn8).1
  have hsb2 := fun i (hi : i < 3) => (seen_bd (p := Mm.high (rgA ls) (egA rs)) (s := zF zs) (k := n) (b := n) (i := i) (fun i b hi hb => by have := Mm.low_le hc.ok hi hb; omega) (fun b hb => by have := oz' b hb; omega) hi (Nat.le_refl _) hn8).1
  have Hsb := Lib.hid hsb
  have Hsb2 := Lib.hid hsb2
  obtain ⟨x0, hx0⟩ : ∃ v, Mm.seen (Mm.low (rgA ls) (egA rs)) (zF zs) n 0 = v := ⟨_, rfl⟩
  obtain ⟨x1, hx1⟩ : ∃ v, Mm.seen (Mm.low (rgA ls) (egA rs)) (zF zs) n 1 = v := ⟨_, rfl⟩
  obtain ⟨x2, hx2⟩ : ∃ v, Mm.seen (Mm.low (rgA ls) (egA rs)) (zF zs) n 2 = v := ⟨_, rfl⟩
  obtain ⟨y0, hy0⟩ : ∃ v, Mm.seen (Mm.high (rgA ls) (egA rs)) (zF zs) n 0 = v := ⟨_, rfl⟩
  obtain ⟨y1, hy1⟩ : ∃ v, Mm.seen (Mm.high (rgA ls) (egA rs)) (zF zs) n 1 = v := ⟨_, rfl⟩
  obtain ⟨y2, hy2⟩ : ∃ v, Mm.seen (Mm.high (rgA ls) (egA rs)) (zF zs) n 2 = v := ⟨_, rfl⟩
  simp only [hx0, hx1, hx2, hy0, hy1, hy2]
  have HX0 := Lib.hid hx0
  have HX1 := Lib.hid hx1
  have HX2 := Lib.hid hx2
  have HY0 := Lib.hid hy0
  have HY1 := Lib.hid hy1
  have HY2 := Lib.hid hy2
  clear hC hc hz oz oz' hzl hsb hsb2 hx0 hx1 hx2 hy0 hy1 hy2
  go_enter Tryz.func55, Tryz.ntmps55
  go_upto_region 1 with fail
  go_cut [5, 6] (fun s5 s6 wx => ∃ g5 g6 : Nat, s5 = .slice (some ⟨g5, 0, none⟩) n n ∧ s6 = .slice (some ⟨g6, 0, none⟩) n n ∧ g5 ≠ g6 ∧ w.heap.size < g5 ∧ w.heap.size < g6 ∧ Hid (Rw wx g5 (List.replicate n 0)) ∧ Hid (Rw wx g6 (List.replicate n 0)) ∧ Cs wx w.heap.size #[.slice E 3 ce, .slice L n cl] ∧ Below w.heap.size w wx)
  case first =>
    as_aux_lemma =>
     go_region
     all_goals
      go_wp2_with fail
      go_meet
      refine ⟨_, _, rfl, rfl, ?_, ?_, ?_, Lib.hid ?_, Lib.hid ?_, csA, blA⟩
      all_goals first | omega | (with_reducible refine Rw.drew ?_)
      all_goals first | (with_reducible refine Rw.zerosT _ _ _ _ ?_; simp; done) | (with_reducible refine Rw.alloc ?_ _; with_reducible refine Rw.zerosT _ _ _ _ ?_; simp; done)
  case rest =>
    obtain ⟨g5, g6, rfl, rfl, h56, h5, h6, HU, HD, BM, hbw⟩ := hcut
    rw [← upL_zero zs] at HU
    have HBM := Lib.hid BM
    clear BM hmk
    go_wp2_with fail
    go_loopw [23] (fun s23 wx => ∃ (b : Nat) (W : World), b ≤ n ∧ s23 = .int .i64 (b : Nat) ∧ Hid (W = wx) ∧ Hid (Rw W g5 (upL zs n b)) ∧ Hid (Rw W g6 (List.replicate n 0)) ∧ Hid (Cs W w.heap.size #[.slice E 3 ce, .slice L n cl]) ∧ Below w.heap.size w W) (fun s23 _ => n - (intOf s23).toNat)
    case atStart => exact ⟨0, _, Nat.zero_le _, rfl, Lib.hid rfl, HU, HD, HBM, hbw⟩
    case round =>
      clear HU HD HBM hbw
      obtain ⟨b, W, hb, rfl, HW, HU, HD, HBM, hbw⟩ := hrel
      obtain rfl := HW.out
      clear HW
      by_cases hbn : b < n
      · have hbi : (b : Int) < (n : Int) := by omega
        obtain ⟨ab, ao, rfl, alt, c0⟩ := Hz.out.at0 hbw hbn
        have d5 := HU.out.cell (k := b) (by simp [upL, rowF]; exact hbn)
        have d6 := HD.out.cell (k := b) (by simp; exact hbn)
        have hset := upL_set zs n hbn
        have hzs := zer_set n hbn
        have q := Hoz.out b hbn
        obtain ⟨u, hu⟩ : ∃ u, zs.getD b 0 = u := ⟨_, rfl⟩
        have hu' : zF zs b = u := hu
        rw [hu] at c0
        rw [hu'] at q hset
        obtain ⟨q1, q2⟩ := q
        have q3 : ¬ u < 0 := by omega
        have q4 : (if 0 < u then (0 : Int) else u) = 0 := by split <;> omega
        have f5 := HU.out.frozen
        have l5 := HU.out.lt
        have f6 := HD.out.frozen
        have l6 := HD.out.lt
        have Hset := Lib.hid hset
        have Hzs := Lib.hid hzs
        clear hset hzs hu hu'
        go_wp2_with fail
        go_roundw
        case rel => exact ⟨b + 1, _, by omega, by go_num, Lib.hid rfl, Lib.hid (by rw [← Hset.out]; exact (HU.out.set b _).other h56 _), Lib.hid (by rw [← Hzs.out]; exact (HD.out.other (Ne.symm h56) _).set b _), Lib.hid ((HBM.out.other (p := ⟨g5, b, none⟩) (by show w.heap.size ≠ g5; omega) _).other (p := ⟨g6, b, none⟩) (by show w.heap.size ≠ g6; omega) _), bset (bset hbw (p := ⟨g5, b, none⟩) (by show w.heap.size ≤ g5; omega) _) (p := ⟨g6, b, none⟩) (by show w.heap.size ≤ g6; omega) _⟩
        case measure => simp [intOf]; omega
      · obtain rfl : n = b := by omega
        have IU : Ints W (some ⟨g5, 0, none⟩) n zs := by have := HU.out; rw [upL_all Hzl.out] at this; exact this.ints Hzl.out
        have ID : Ints W (some ⟨g6, 0, none⟩) n (List.replicate n 0) := HD.out.ints (by simp)
        clear HU HD
        have hk1 : ∀ b, b < n → -1000 ≤ zF zs b ∧ zF zs b ≤ 1000 := fun b hb => by have := Hoz.out b hb; omega
        have hk2 : ∀ b, b < n → -1000 ≤ zF (List.replicate n 0) b ∧ zF (List.replicate n 0) b ≤ 1000 := fun b hb => by rw [zF_zer]; omega
        have k1 := fun (V : World) (hV : Below W.heap.size W V) => KL.out g5 zs V (hbw.trans (hV.mono hbw.size)) (IU.below hV) hk1
        have k2 := fun (V : World) (hV : Below W.heap.size W V) => KH.out g5 zs V (hbw.trans (hV.mono hbw.size)) (IU.below hV) hk1
        have k3 := fun (V : World) (hV : Below W.heap.size W V) => KH.out g6 (List.replicate n 0) V (hbw.trans (hV.mono hbw.size)) (ID.below hV) hk2
        have k4 := fun (V : World) (hV : Below W.heap.size W V) => KL.out g6 (List.replicate n 0) V (hbw.trans (hV.mono hbw.size)) (ID.below hV) hk2
        simp only [seen_zer] at k3 k4
        simp only [HX0.out, HX1.out, HX2.out] at k1
        simp only [HY0.out, HY1.out, HY2.out] at k2
        have K1 := Lib.hid k1
        have K2 := Lib.hid k2
        have K3 := Lib.hid k3
        have K4 := Lib.hid k4
        have HIU := Lib.hid IU
        clear k1 k2 k3 k4 IU ID hk1 hk2 KL KH
        have e1 := Hsb.out 0 (by omega)
        have e2 := Hsb.out 1 (by omega)
        have e3 := Hsb.out 2 (by omega)
        have e4 := Hsb2.out 0 (by omega)
        have e5 := Hsb2.out 1 (by omega)
        have e6 := Hsb2.out 2 (by omega)
        rw [HX0.out] at e1
        rw [HX1.out] at e2
        rw [HX2.out] at e3
        rw [HY0.out] at e4
        rw [HY1.out] at e5
        rw [HY2.out] at e6
        clear HX0 HX1 HX2 HY0 HY1 HY2
        clear Hsb Hsb2
        have hE := Lib.hid (And.intro e1 (And.intro e2 (And.intro e3 (And.intro e4 (And.intro e5 e6)))))
        clear e1 e2 e3 e4 e5 e6
        go_upto_region 7 with fail
        go_cut [9, 10] (fun s9 s10 wx => ∃ pa pb : Nat, s9 = .pointer (some ⟨pa, 0, none⟩) ∧ s10 = .pointer (some ⟨pb, 0, none⟩) ∧ Hid (Cs wx pa #[.int .i64 x0, .int .i64 x1, .int .i64 x2]) ∧ Hid (Cs wx pb #[.int .i64 y0, .int .i64 y1, .int .i64 y2]) ∧ W.heap.size ≤ pa ∧ W.heap.size ≤ pb ∧ Below W.heap.size W wx)
        case first =>
          as_aux_lemma =>
           have HS : Hid (∀ V, Below W.heap.size W V → V.cell? ⟨w.heap.size, 0, none⟩ = some (.slice E 3 ce) ∧ V.cell? ⟨w.heap.size, 1, none⟩ = some (.slice L n cl)) := Lib.hid fun V hV => ⟨(HBM.out.keep hV).c 0, (HBM.out.keep hV).c 1⟩
           refine wp_region_free (S := fun V : World => V.cell? ⟨w.heap.size, 0, none⟩ = some (.slice E 3 ce) ∧ V.cell? ⟨w.heap.size, 1, none⟩ = some (.slice L n cl)) [(0, 1), (1, 3), (2, 7), (3, 15), (5, 47), (6, 111), (7, 239), (8, 495)] 495 [(4, []), (9, [4]), (10, []), (11, []), (12, [4, 9, 10, 11]), (13, [4, 9, 10, 11, 12])] (by kernel_rfl) (by kernel_rfl) (fun c a d v w h => by cases d <;> exact h) (HS.out _ (Below.drew (Below.refl _ _))) (fun hHeld => ?_)
           clear hHeld
           iterate 8 (refine free_take (v := ?_) rfl (by rfl) ?_ ?_; rotate_left; (focus (intro w9 hSw; obtain ⟨s1, s2⟩ := hSw; (go_simp <;> with_reducible rfl))); try simp only [Act.put, List.setIfInBounds_toArray, List.set_cons_zero, List.set_cons_succ])
           refine free_part [43, 48, 9, 10] (fun d vs V => ∃ va vb vp vq, vs = [va, vb, vp, vq] ∧ JS W W.heap.size (x0) (x1) (x2) (y0) (y1) (y2) d va vb vp vq V) (fun d vs V ⟨_, _, _, _, _, h⟩ => HS.out _ h.hb) ?_ ?_ ?_
           · intro d vs hl hd
             obtain ⟨va, vb, vp, vq, rfl⟩ := len_four' hl
             simp only [fsts, noB] at hd
             obtain ⟨n4, n9, n10, n11, n12, n13, -⟩ := hd
             exact ⟨_, _, _, _, rfl, Below.drew (Below.refl _ _), Nat.le_refl _, fun h => by simp [n4] at h, fun h => by simp [n9] at h, Mk3.no n10 n12, Mk3.no n11 n13, fun h => by simp [n10] at h⟩
           refine free_step rfl ?_ ?_
           · rintro d _ V ⟨va, vb, vp, vq, rfl, hJ⟩ hd hD K9 hS9
             simp only [puts, Act.put, List.setIfInBounds_toArray, List.set_cons_zero, List.set_cons_succ]
             go_simp
             refine (K1.out V hJ.hb).mono ?_
             rintro e V3 ⟨rfl, hb3⟩
             refine hS9.out _ _ ⟨[_, vb, vp, vq], rfl, _, _, _, _, rfl, ?_⟩
             exact ⟨hJ.hb.trans (hb3.mono hJ.hB), Nat.le_trans hJ.hB hb3.size, fun _ => rfl, hJ.e, hJ.p.below hb3, hJ.q.below hb3, hJ.n⟩
           refine free_step rfl ?_ ?_
           · rintro d _ V ⟨va, vb, vp, vq, rfl, hJ⟩ hd hD K9 hS9
             simp only [puts, Act.put, List.setIfInBounds_toArray, List.set_cons_zero, List.set_cons_succ]
             go_simp
             refine (K2.out V hJ.hb).mono ?_
             rintro e V3 ⟨rfl, hb3⟩
             refine hS9.out _ _ ⟨[va, _, vp, vq], rfl, _, _, _, _, rfl, ?_⟩
             exact ⟨hJ.hb.trans (hb3.mono hJ.hB), Nat.le_trans hJ.hB hb3.size, hJ.c, fun _ => rfl, hJ.p.below hb3, hJ.q.below hb3, hJ.n⟩
           refine free_step rfl ?_ ?_
           · rintro d _ V ⟨va, vb, vp, vq, rfl, hJ⟩ hd hD K9 hS9
             simp only [puts, Act.put, List.setIfInBounds_toArray, List.set_cons_zero, List.set_cons_succ]
             go_simp
             refine hS9.out _ _ ⟨[va, vb, _, vq], rfl, _, _, _, _, rfl, ?_⟩
             exact ⟨hJ.hb.alloc hJ.hB _, by have := hJ.hB; simp; omega, hJ.c, hJ.e, hJ.p.new hd hJ.hB, hJ.q.alloc _, fun _ h => (hJ.q.ne h).symm⟩
           refine free_step rfl ?_ ?_
           · rintro d _ V ⟨va, vb, vp, vq, rfl, hJ⟩ hd hD K9 hS9
             simp only [puts, Act.put, List.setIfInBounds_toArray, List.set_cons_zero, List.set_cons_succ]
             go_simp
             refine hS9.out _ _ ⟨[va, vb, vp, _], rfl, _, _, _, _, rfl, ?_⟩
             exact ⟨hJ.hb.alloc hJ.hB _, by have := hJ.hB; simp; omega, hJ.c, hJ.e, hJ.p.alloc _, hJ.q.new hd hJ.hB, fun h _ => hJ.p.ne h⟩
           refine free_step rfl ?_ ?_
           · rintro d _ V ⟨va, vb, vp, vq, rfl, hJ⟩ hd hD K9 hS9
             simp only [puts, Act.put, List.setIfInBounds_toArray, List.set_cons_zero, List.set_cons_succ]
             obtain ⟨h4, h9, h10, h11, -⟩ := hD
             obtain rfl := hJ.c h4
             obtain rfl := hJ.e h9
             obtain ⟨g, a, b, c, rfl, hBg, hg⟩ := hJ.p.at_ h10
             have cg := hg.c
             have fg := hg.f
             have lg := hg.lt
             go_simp
             refine hS9.out _ _ ⟨[_, _, _, vq], rfl, _, _, _, _, rfl, ?_⟩
             exact ⟨bset3B hJ.hb hBg _ _ _, by simpa [World.setCell] using hJ.hB, hJ.c, hJ.e, hJ.p.set h10, hJ.q.other (fun h => (hJ.n h10 h).symm), hJ.n⟩
           refine free_step rfl ?_ ?_
           · rintro d _ V ⟨va, vb, vp, vq, rfl, hJ⟩ hd hD K9 hS9
             simp only [puts, Act.put, List.setIfInBounds_toArray, List.set_cons_zero, List.set_cons_succ]
             obtain ⟨h4, h9, h10, h11, h12, -⟩ := hD
             obtain rfl := hJ.c h4
             obtain rfl := hJ.e h9
             obtain ⟨g, a, b, c, rfl, hBg, hg⟩ := hJ.q.at_ h11
             have cg := hg.c
             have fg := hg.f
             have lg := hg.lt
             go_simp
             refine hS9.out _ _ ⟨[_, _, vp, _], rfl, _, _, _, _, rfl, ?_⟩
             exact ⟨bset3B hJ.hb hBg _ _ _, by simpa [World.setCell] using hJ.hB, hJ.c, hJ.e, hJ.p.other (fun h => hJ.n h h11), hJ.q.set h11, hJ.n⟩
           · exact free_done
           rintro d _ V hd ⟨va, vb, vp, vq, rfl, hJ⟩
           simp only [fsts, allB] at hd
           obtain ⟨h4, h9, h10, h11, h12, h13, -⟩ := hd
           obtain rfl := hJ.c h4
           obtain rfl := hJ.e h9
           obtain ⟨pa, rfl, hBa, Ba⟩ := hJ.p.out h10 h12
           obtain ⟨pb, rfl, hBb, Bb⟩ := hJ.q.out h11 h13
           simp only [puts, Act.put, List.setIfInBounds_toArray, List.set_cons_zero, List.set_cons_succ]
           go_wp2_with fail
           go_meet
           exact ⟨_, _, rfl, rfl, Lib.hid Ba, Lib.hid Bb, hBa, hBb, hJ.hb⟩
        case rest =>
          obtain ⟨g9, g10, rfl, rfl, B9, B10, hg9, hg10, hbW⟩ := hcut
          clear K1 K2
          have HBM2 := Lib.hid (HBM.out.keep hbW)
          have hbw2 := hbw.trans (hbW.mono hbw.size)
          have HbW := Lib.hid hbW
          clear HBM hbW
          replace K3 : Hid (∀ V, Below wc.heap.size wc V → _) := Lib.hid fun V hV => K3.out V (HbW.out.trans (hV.mono HbW.out.size))
          replace K4 : Hid (∀ V, Below wc.heap.size wc V → _) := Lib.hid fun V hV => K4.out V (HbW.out.trans (hV.mono HbW.out.size))
          obtain ⟨W8, hW8⟩ : ∃ W8, W8 = wc := ⟨_, rfl⟩
          subst hW8
          clear HbW
          go_upto_region 8 with fail
          go_cut [11, 12] (fun s11 s12 wx => ∃ pa pb : Nat, s11 = .pointer (some ⟨pa, 0, none⟩) ∧ s12 = .pointer (some ⟨pb, 0, none⟩) ∧ Hid (Cs wx pa #[.int .i64 0, .int .i64 0, .int .i64 0]) ∧ Hid (Cs wx pb #[.int .i64 0, .int .i64 0, .int .i64 0]) ∧ W8.heap.size ≤ pa ∧ W8.heap.size ≤ pb ∧ Below W8.heap.size W8 wx)
          case first =>
            as_aux_lemma =>
             have HS : Hid (∀ V, Below W8.heap.size W8 V → V.cell? ⟨w.heap.size, 0, none⟩ = some (.slice E 3 ce) ∧ V.cell? ⟨w.heap.size, 1, none⟩ = some (.slice L n cl)) := Lib.hid fun V hV => ⟨(HBM2.out.keep hV).c 0, (HBM2.out.keep hV).c 1⟩
             refine wp_region_free (S := fun V : World => V.cell? ⟨w.heap.size, 0, none⟩ = some (.slice E 3 ce) ∧ V.cell? ⟨w.heap.size, 1, none⟩ = some (.slice L n cl)) [(0, 1), (1, 3), (2, 7), (3, 15), (5, 47), (6, 111), (7, 239), (8, 495)] 495 [(4, []), (9, [4]), (10, []), (11, []), (12, [4, 9, 10, 11]), (13, [4, 9, 10, 11, 12])] (by kernel_rfl) (by kernel_rfl) (fun c a d v w h => by cases d <;> exact h) (HS.out _ (Below.drew (Below.refl _ _))) (fun hHeld => ?_)
             clear hHeld
             iterate 8 (refine free_take (v := ?_) rfl (by rfl) ?_ ?_; rotate_left; (focus (intro w9 hSw; obtain ⟨s1, s2⟩ := hSw; (go_simp <;> with_reducible rfl))); try simp only [Act.put, List.setIfInBounds_toArray, List.set_cons_zero, List.set_cons_succ])
             refine free_part [53, 58, 11, 12] (fun d vs V => ∃ va vb vp vq, vs = [va, vb, vp, vq] ∧ JS W8 W8.heap.size 0 0 0 0 0 0 d va vb vp vq V) (fun d vs V ⟨_, _, _, _, _, h⟩ => HS.out _ h.hb) ?_ ?_ ?_
             · intro d vs hl hd
               obtain ⟨va, vb, vp, vq, rfl⟩ := len_four' hl
               simp only [fsts, noB] at hd
               obtain ⟨n4, n9, n10, n11, n12, n13, -⟩ := hd
               exact ⟨_, _, _, _, rfl, Below.drew (Below.refl _ _), Nat.le_refl _, fun h => by simp [n4] at h, fun h => by simp [n9] at h, Mk3.no n10 n12, Mk3.no n11 n13, fun h => by simp [n10] at h⟩
             refine free_step rfl ?_ ?_
             · rintro d _ V ⟨va, vb, vp, vq, rfl, hJ⟩ hd hD K9 hS9
               simp only [puts, Act.put, List.setIfInBounds_toArray, List.set_cons_zero, List.set_cons_succ]
               go_simp
               refine (K3.out V hJ.hb).mono ?_
               rintro e V3 ⟨rfl, hb3⟩
               refine hS9.out _ _ ⟨[_, vb, vp, vq], rfl, _, _, _, _, rfl, ?_⟩
               exact ⟨hJ.hb.trans (hb3.mono hJ.hB), Nat.le_trans hJ.hB hb3.size, fun _ => rfl, hJ.e, hJ.p.below hb3, hJ.q.below hb3, hJ.n⟩
             refine free_step rfl ?_ ?_
             · rintro d _ V ⟨va, vb, vp, vq, rfl, hJ⟩ hd hD K9 hS9
               simp only [puts, Act.put, List.setIfInBounds_toArray, List.set_cons_zero, List.set_cons_succ]
               go_simp
               refine (K4.out V hJ.hb).mono ?_
               rintro e V3 ⟨rfl, hb3⟩
               refine hS9.out _ _ ⟨[va, _, vp, vq], rfl, _, _, _, _, rfl, ?_⟩
               exact ⟨hJ.hb.trans (hb3.mono hJ.hB), Nat.le_trans hJ.hB hb3.size, hJ.c, fun _ => rfl, hJ.p.below hb3, hJ.q.below hb3, hJ.n⟩
             refine free_step rfl ?_ ?_
             · rintro d _ V ⟨va, vb, vp, vq, rfl, hJ⟩ hd hD K9 hS9
               simp only [puts, Act.put, List.setIfInBounds_toArray, List.set_cons_zero, List.set_cons_succ]
               go_simp
               refine hS9.out _ _ ⟨[va, vb, _, vq], rfl, _, _, _, _, rfl, ?_⟩
               exact ⟨hJ.hb.alloc hJ.hB _, by have := hJ.hB; simp; omega, hJ.c, hJ.e, hJ.p.new hd hJ.hB, hJ.q.alloc _, fun _ h => (hJ.q.ne h).symm⟩
             refine free_step rfl ?_ ?_
             · rintro d _ V ⟨va, vb, vp, vq, rfl, hJ⟩ hd hD K9 hS9
               simp only [puts, Act.put, List.setIfInBounds_toArray, List.set_cons_zero, List.set_cons_succ]
               go_simp
               refine hS9.out _ _ ⟨[va, vb, vp, _], rfl, _, _, _, _, rfl, ?_⟩
               exact ⟨hJ.hb.alloc hJ.hB _, by have := hJ.hB; simp; omega, hJ.c, hJ.e, hJ.p.alloc _, hJ.q.new hd hJ.hB, fun h _ => hJ.p.ne h⟩
             refine free_step rfl ?_ ?_
             · rintro d _ V ⟨va, vb, vp, vq, rfl, hJ⟩ hd hD K9 hS9
               simp only [puts, Act.put, List.setIfInBounds_toArray, List.set_cons_zero, List.set_cons_succ]
               obtain ⟨h4, h9, h10, h11, -⟩ := hD
               obtain rfl := hJ.c h4
               obtain rfl := hJ.e h9
               obtain ⟨g, a, b, c, rfl, hBg, hg⟩ := hJ.p.at_ h10
               have cg := hg.c
               have fg := hg.f
               have lg := hg.lt
               go_simp
               refine hS9.out _ _ ⟨[_, _, _, vq], rfl, _, _, _, _, rfl, ?_⟩
               exact ⟨bset3B hJ.hb hBg _ _ _, by simpa [World.setCell] using hJ.hB, hJ.c, hJ.e, hJ.p.set h10, hJ.q.other (fun h => (hJ.n h10 h).symm), hJ.n⟩
             refine free_step rfl ?_ ?_
             · rintro d _ V ⟨va, vb, vp, vq, rfl, hJ⟩ hd hD K9 hS9
               simp only [puts, Act.put, List.setIfInBounds_toArray, List.set_cons_zero, List.set_cons_succ]
               obtain ⟨h4, h9, h10, h11, h12, -⟩ := hD
               obtain rfl := hJ.c h4
               obtain rfl := hJ.e h9
               obtain ⟨g, a, b, c, rfl, hBg, hg⟩ := hJ.q.at_ h11
               have cg := hg.c
               have fg := hg.f
               have lg := hg.lt
               go_simp
               refine hS9.out _ _ ⟨[_, _, vp, _], rfl, _, _, _, _, rfl, ?_⟩
               exact ⟨bset3B hJ.hb hBg _ _ _, by simpa [World.setCell] using hJ.hB, hJ.c, hJ.e, hJ.p.other (fun h => hJ.n h h11), hJ.q.set h11, hJ.n⟩
             · exact free_done
             rintro d _ V hd ⟨va, vb, vp, vq, rfl, hJ⟩
             simp only [fsts, allB] at hd
             obtain ⟨h4, h9, h10, h11, h12, h13, -⟩ := hd
             obtain rfl := hJ.c h4
             obtain rfl := hJ.e h9
             obtain ⟨pa, rfl, hBa, Ba⟩ := hJ.p.out h10 h12
             obtain ⟨pb, rfl, hBb, Bb⟩ := hJ.q.out h11 h13
             simp only [puts, Act.put, List.setIfInBounds_toArray, List.set_cons_zero, List.set_cons_succ]
             go_wp2_with fail
             go_meet
             exact ⟨_, _, rfl, rfl, Lib.hid Ba, Lib.hid Bb, hBa, hBb, hJ.hb⟩
          case rest =>
            obtain ⟨g11, g12, rfl, rfl, B11, B12, hg11, hg12, hbW⟩ := hcut
            obtain ⟨W9, hW9⟩ : ∃ W9, W9 = wc := ⟨_, rfl⟩
            subst hW9
            clear K3 K4
            replace B9 := Lib.hid (B9.out.keep hbW)
            replace B10 := Lib.hid (B10.out.keep hbW)
            have hbw3 := hbw2.trans (hbW.mono hbw2.size)
            clear HBM2 hbW
            have hmk : ∀ w : World, (Instr.makeSlice 23 (.int .i64 3) (.int .i64 3)).run Tryz.prog w = .ok (.slice (some ⟨w.heap.size, 0, none⟩) 3 3) (w.alloc (.cells (zerosA 6) 41)) := fun w => run_makeR2 3 (by omega) w
            go_wp2_with fail
            clear hmk
            have HW : Hid (Below W9.heap.size W9 (W9.alloc (.cells (zerosA 6) 41))) := Lib.hid blA
            have HO : Hid (Rx (W9.alloc (.cells (zerosA 6) 41)) W9.heap.size (rowF 6 (spF [x0, x1, x2] [y0, y1, y2] 0))) := Lib.hid (by rw [spF_zero, rowF_zero]; exact (Rw.zerosT _ _ _ _ rfl).x)
            go_loopw [62] (fun s62 wx => ∃ (i : Nat) (V : World), i ≤ 3 ∧ s62 = .int .i64 (i : Nat) ∧ Hid (V = wx) ∧ Hid (Rx V W9.heap.size (rowF 6 (spF [x0, x1, x2] [y0, y1, y2] i))) ∧ Hid (Below W9.heap.size W9 V)) (fun s62 _ => 3 - (intOf s62).toNat)
            case atStart => exact ⟨0, _, Nat.zero_le _, rfl, Lib.hid rfl, HO, HW⟩
            case round =>
              clear HO HW
              obtain ⟨i, V, hi, rfl, HV, HO, HW⟩ := hrel
              obtain rfl := HV.out
              clear HV
              by_cases hi3 : i < 3
              · have hii : (i : Int) < 3 := by omega
                have l9 := B9.out.lt
                have l10 := B10.out.lt
                have l11 := B11.out.lt
                have l12 := B12.out.lt
                have c9 := (B9.out.keep HW.out).at3 hi3
                have c10 := (B10.out.keep HW.out).at3 hi3
                have c11 := (B11.out.keep HW.out).at3 hi3
                have c12 := (B12.out.keep HW.out).at3 hi3
                rw [zer3] at c11 c12
                have hxb : -80000000 ≤ [x0, x1, x2].getD i 0 ∧ [x0, x1, x2].getD i 0 ≤ 80000000 := by
                  obtain ⟨e1, e2, e3, -⟩ := hE.out
                  match i, hi3 with
                  | 0, _ => exact e1
                  | 1, _ => exact e2
                  | 2, _ => exact e3
                have hyb : -80000000 ≤ [y0, y1, y2].getD i 0 ∧ [y0, y1, y2].getD i 0 ≤ 80000000 := by
                  obtain ⟨-, -, -, e1, e2, e3⟩ := hE.out
                  match i, hi3 with
                  | 0, _ => exact e1
                  | 1, _ => exact e2
                  | 2, _ => exact e3
                have hset := spF_set [x0, x1, x2] [y0, y1, y2] hi3
                generalize [x0, x1, x2].getD i 0 = u at *
                generalize [y0, y1, y2].getD i 0 = v at *
                obtain ⟨hx1, hx2⟩ := hxb
                obtain ⟨hy1, hy2⟩ := hyb
                have hw1 : IntKind.i64.wrap (u + 0) = u := by rw [Int.add_zero]; exact IntWalk.i64_in _ (by omega)
                have hw2 : IntKind.i64.wrap (v + 0) = v := by rw [Int.add_zero]; exact IntWalk.i64_in _ (by omega)
                have hw3 : IntKind.i64.wrap u = u := IntWalk.i64_in _ (by omega)
                have hw4 : IntKind.i64.wrap v = v := IntWalk.i64_in _ (by omega)
                have d0 := HO.out.cell (k := i * 2) (by rw [rowF_len]; omega)
                have d1 := HO.out.cell (k := i * 2 + 1) (by rw [rowF_len]; omega)
                have fO := HO.out.frozen
                have lO := HO.out.lt
                have Hset := Lib.hid hset
                clear hset
                go_wp2_with fail
                go_region
                go_wp2_with fail
                go_roundw
                case rel => exact ⟨i + 1, _, by omega, by go_num, Lib.hid rfl, Lib.hid (by rw [← Hset.out]; exact (HO.out.drew.set (i * 2) u).set (i * 2 + 1) v), Lib.hid ((HW.out.drew.setCell (p := ⟨W9.heap.size, i * 2, none⟩) (Nat.le_refl _) _).setCell (p := ⟨W9.heap.size, i * 2 + 1, none⟩) (Nat.le_refl _) _)⟩
                case measure => simp [intOf]; omega
              · obtain rfl : 3 = i := by omega
                go_wp2_with fail
                go_ret
                exact ⟨_, rfl, flat_prs HO.out rfl (fun i x y h => spF_all h), hbw3.size, hbw3.trans (HW.out.mono hbw3.size)⟩
end Go.Proofs.YtlbjnkopbabcnaaGreatDoor
end
