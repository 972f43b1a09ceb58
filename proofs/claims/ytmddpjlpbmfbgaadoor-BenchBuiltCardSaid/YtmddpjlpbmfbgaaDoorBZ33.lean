/- BK11 BT11 -/
import Derived.Test.YtmddpjlpbmfbgaaDoorBZ24
import Derived.Test.YtmddpjlpbmfbgaaDoorBZ30
import Derived.Test.YtmddpjlpbmfbgaaDoorBZ29
import Derived.Test.YtmddpjlpbmfbgaaDoorBZ17
/- The walk of BenchBuilt: it answers true. -/
section
namespace Go.Proofs.YtmddpjlpbmfbgaaDoor
open Go.RowKit Go.Shelf
set_option linter.unusedSimpArgs false
set_option linter.unusedVariables false
open Bm (Pr OkP runL srtL uslL buildL runB tab ordB)

/-- an append of some pairs -/
theorem list_prs {T e : TypeId} (hT : ElemT T e (.agg #[.int .i64 0, .int .i64 0]) 2 16) {ops : Array Oper} {rest : List Oper} {o : Oper} {a : Act} {w : World} {Q : Exit → Act → World → Prop}
    (hg : o.guard = none) (s x : Operand) (hop : o.op = Op.call { callee := Callee.builtin Builtin.append, args := #[s, x], argTypes := #[T, T] })
    (B n : Nat) (v : Value) (xs : List (Int × Int)) (hs : a.eval s = v) (hown : w.ownsRow B e 2 v n (xs.flatMap encR))
    (b off m c : Nat) (ys : List (Int × Int)) (hx : a.eval x = .slice (some ⟨b, off, none⟩) m c) (hy : Prs w (some ⟨b, off, none⟩) m ys) (hm : 0 < m) (hn : n + m ≤ 6000) (hB : B ≤ w.heap.size)
    (hK : ∀ g c w', w'.ownsRow B e 2 (.slice (some ⟨g, 0, none⟩) (n + m) c) (n + m) ((xs ++ ys).flatMap encR) → Below B w w' → wpList Tryd.prog ops Q rest (a.put o.dst (.slice (some ⟨g, 0, none⟩) (n + m) c)) w') :
    wpList Tryd.prog ops Q (o :: rest) a w := by
  refine list_ownG hT hg s x hop B n v _ hs hown ⟨b, off, none⟩ m c (ys.flatMap encR) hx (by rw [flatR_len, hy.1]) ?_ ?_ hm hn hB ?_
  · intro j u hu
    have hj : j < m * 2 := by have := (List.getElem?_eq_some_iff.1 hu).1; rwa [flatR_len, hy.1] at this
    have hyi : ys[j / 2]? = some (ys[j / 2]'(by rw [hy.1]; omega)) := List.getElem?_eq_getElem _
    obtain ⟨b', off', e, _, hc⟩ := hy.2 hm
    injection e with e
    injection e with e1 e2
    subst e1 e2
    obtain ⟨c0, c1⟩ := hc (j / 2) _ _ hyi
    obtain ⟨f0, f1⟩ := flatR_get ys (j / 2) _ _ hyi
    rw [Go.WideShapes.add_plain]
    rcases (show j = j / 2 * 2 ∨ j = j / 2 * 2 + 1 by omega) with h | h
    · rw [← h] at f0 c0
      rw [f0] at hu; injection hu with hu; rw [← hu]; exact c0
    · rw [← h] at f1
      rw [Nat.add_assoc, ← h] at c1
      rw [f1] at hu; injection hu with hu; rw [← hu]; exact c1
  · intro u hu
    obtain ⟨y, _, hu⟩ := List.mem_flatMap.1 hu
    simp [encR] at hu
    rcases hu with rfl | rfl <;> rfl
  · intro g c w' h1 h2
    exact hK g c w' (by simpa using h1) h2
theorem own_emptyP {B : Nat} (w : World) (hB : B ≤ w.heap.size) : (w.alloc (.cells #[] 52)).ownsRow B 52 2 (.slice (some ⟨w.heap.size, 0, none⟩) 0 0) 0 (([] : List (Int × Int)).flatMap encR) :=
  ⟨rfl, .inr ⟨w.heap.size, 0, #[], rfl, hB, heap_alloc_new w _, Nat.le_refl _, by unfold maxLen; omega, rfl, rfl⟩⟩
theorem built_pos {n : Nat} (h2 : 2 ≤ n) (h12 : n ≤ 12) : 0 < (buildL n).length := by
  have h : ((List.range 11).all fun i => decide (0 < (buildL (i + 2)).length)) = true := by decide +kernel
  have := List.all_eq_true.1 h (n - 2) (by simp; omega)
  rw [show n - 2 + 2 = n by omega] at this
  simpa using this
theorem ext_step {n i : Nat} {zs : List (Int × Int)} {x y : Int} (h : zs[i]? = some (x, y)) : cst (buildL n ++ (zs.map (extP n)).take (i + 1)) = cst (buildL n ++ (zs.map (extP n)).take i) ++ [(((extP n (x, y)).1 : Int), ((extP n (x, y)).2 : Int))] := by
  rw [List.take_add_one, List.getElem?_map, h, ← List.append_assoc]
  exact cst_snoc _ _ _
theorem ext_num {n : Nat} {x y : Int} (h2 : 2 ≤ n) (hx : 0 ≤ x) (hy : 0 ≤ y) : ∃ a d : Nat, a + 1 < n ∧ a + 1 + d < n ∧ x.tmod ((n : Int) - 1) = (a : Int) ∧ y.tmod ((n : Int) - 1 - (a : Int)) = (d : Int) ∧ extP n (x, y) = (a, a + 1 + d) := by
  have h1 := Int.emod_nonneg x (show (n : Int) - 1 ≠ 0 by omega)
  have h3 := Int.emod_lt_of_pos x (show 0 < (n : Int) - 1 by omega)
  unfold extP
  simp only []
  rw [Int.tmod_eq_emod_of_nonneg hx]
  obtain ⟨a, ha⟩ := Int.eq_ofNat_of_zero_le h1
  rw [ha] at h3 ⊢
  have h4 := Int.emod_nonneg y (show (n : Int) - 1 - (a : Int) ≠ 0 by omega)
  have h5 := Int.emod_lt_of_pos y (show 0 < (n : Int) - 1 - (a : Int) by omega)
  obtain ⟨d, hd⟩ := Int.eq_ofNat_of_zero_le h4
  refine ⟨a, d, by omega, by omega, rfl, ?_, ?_⟩
  · rw [Int.tmod_eq_emod_of_nonneg hy]; exact hd
  · rw [hd]; rfl

set_option maxRecDepth 100000 in
set_option maxHeartbeats 16000000 in
theorem built_main (A B : Option Addr) (n k D m C : Nat) (bs : List Int) (ms : List (Int × Int)) (lst : Int) (w : World) (hy : U32s w A k bs) (hk : k ≤ 20) (hv : U8Prs w B m ms) (hm : m ≤ 10)
    (n2 : 2 ≤ n) (n12 : n ≤ 12) (hn : 2 + lst % 11 = (n : Int)) (hb0 : 0 ≤ lst) (hb1 : lst ≤ 255) (hT : TabW w) :
    Calls Tryd.prog 8 #[.int .u8 lst, .slice A k D, .slice B m C] w fun e w' => e = .returned (.bool true) ∧ Below w.heap.size w w' := by
  have kw := fun W hT => works_any W hT
  have HT := Lib.hid hT
  have kb := fun (W : World) => build_ok n W n2 n12
  have hPok := (Bm.build_ok n2 n12).1
  have hPl := (Bm.build_ok n2 n12).2
  have hP0 := built_pos n2 n12
  have hP66 : (buildL n).length ≤ 66 := by
    have h1 : n * (n - 1) / 2 ≤ 66 := by
      have : n * (n - 1) ≤ 12 * 11 := Nat.mul_le_mul n12 (by omega)
      omega
    omega
  obtain ⟨M, hM⟩ : ∃ M, n * (n - 1) = M := ⟨_, rfl⟩
  have hM132 : M ≤ 132 := by rw [← hM]; exact Nat.mul_le_mul n12 (show n - 1 ≤ 11 by omega)
  have hMn : (n : Int) * ((n : Int) - 1) = (M : Int) := by
    rw [show (n : Int) * ((n : Int) - 1) = ((n * (n - 1) : Nat) : Int) by rw [Int.natCast_mul, Int.natCast_sub (by omega)]; rfl, hM]
  have hw2 : (M : Int).tdiv 2 = ((M / 2 : Nat) : Int) := by rw [Int.tdiv_eq_ediv_of_nonneg (by omega)]; rfl
  rw [hM] at hPl
  obtain ⟨H, hH⟩ : ∃ H, M / 2 = H := ⟨_, rfl⟩
  rw [hH] at hPl hw2
  have hP66 : (buildL n).length ≤ 66 := by omega
  have HMn := Lib.hid hMn
  have Hw2 := Lib.hid hw2
  have hH66 : H ≤ 66 := by omega
  clear hMn hw2 hM hH
  have kf := fun (W : World) (X : Option Addr) (c C : Nat) (hi : Prs W X c (cst (buildL n))) => fine_any (n : Int) X c C (cst (buildL n)) W hi (by have := hi.1; rw [cst_len] at this; omega)
  rw [show fineP n (cst (buildL n)) = true by unfold fineP; rw [chk_of n2 n12 hPok (by omega)]; rfl] at kf
  have kt := fun (W : World) (X : Option Addr) (c C : Nat) (hi : Prs W X c (cst (buildL n))) (hC : c ≤ C) (hb : Below w.heap.size w W) => test_ok X n c n C (buildL n) W hi (by have := hi.1; rw [cst_len] at this; omega) hC n2 n12 hPok (by omega) (by omega) (hT.below hb hT.1)
  rw [show firstS n (fun k => badT n n (runB (buildL n) (tab n k))) = ([], 5) by unfold firstS; rw [built_none n2 n12]] at kt
  have kp := fun (W : World) (hb : Below w.heap.size w W) => powers_any n A k D bs W (hy.below hb) (by omega) n12
  have ho := powL_out n bs
  have hyl := powL_len n bs
  generalize powL n bs = ys at *
  have kr := fun (W : World) (X Y : Option Addr) (c C c' : Nat) (hi : Prs W X c (cst (buildL n))) (hj : Ints W Y n ys) => run_ok X Y n c' c C (buildL n) ys W hi (by have := hi.1; rw [cst_len] at this; omega) hj n2 n12 ho hPok
  have ks := fun (W : World) (X : Option Addr) (c' : Nat) (hi : Ints W X n ys) => sorted_any X n c' ys W hi (by omega) n12
  have kl := fun A B n m c c' xs W hx hy hn hm => longs_any A B n m c c' xs xs W hx hy hn hm true (by simp)
  obtain ⟨hord, hsrt⟩ := built_sorts n2 n12 hyl
  have hRl : (runL (buildL n) ys).length = n := by rw [Bm.runL_len, hyl]
  have hEok := ext_ok n2 ms
  have hEl : (ms.map (extP n)).length = m := by rw [List.length_map, hv.1]
  have hQok : OkP n (buildL n ++ ms.map (extP n)) := fun x hx => by
    rcases List.mem_append.1 hx with hx | hx
    · exact hPok x hx
    · exact hEok x hx
  have hQl : (buildL n ++ ms.map (extP n)).length = (buildL n).length + m := by rw [List.length_append, hEl]
  have hQr : runL (buildL n ++ ms.map (extP n)) ys = runL (buildL n) ys := by rw [Bm.runL_append, ord_runL hord hRl _ hEok]
  have HEs := Lib.hid (fun (i : Nat) (x y : Int) (h : ms[i]? = some (x, y)) => ext_step (n := n) h)
  have HUl := Lib.hid (fun (i : Nat) (hi : i < m) => usl_last n2 n12 hEl hEok hi _ rfl)
  have HE0 : Hid (cst (buildL n ++ (ms.map (extP n)).take 0) = cst (buildL n)) := Lib.hid (by simp)
  have HEm : Hid (cst (buildL n ++ (ms.map (extP n)).take m) = cst (buildL n ++ ms.map (extP n))) := Lib.hid (by rw [List.take_of_length_le (by omega)])
  have HEn := Lib.hid (fun (i : Nat) (hi : i ≤ m) => (show (cst (buildL n ++ (ms.map (extP n)).take i)).length = (buildL n).length + i by rw [cst_len, List.length_append, List.length_take]; omega))
  rw [← hsrt] at ks
  generalize hP : buildL n = P at *
  generalize ms.map (extP n) = E at *
  have kf2 := fun (W : World) (X : Option Addr) (c C : Nat) (hi : Prs W X c (cst (P ++ E))) => fine_any (n : Int) X c C (cst (P ++ E)) W hi (by have := hi.1; rw [cst_len] at this; omega)
  rw [show fineP n (cst (P ++ E)) = true by unfold fineP; rw [chk_of n2 n12 hQok (by omega)]; rfl] at kf2
  have ku := fun (W : World) (X : Option Addr) (c C : Nat) (hi : Prs W X c (cst (P ++ E))) (hC : c ≤ C) => useless_ok X n c C (P ++ E) W hi (by have := hi.1; rw [cst_len] at this; omega) hC n2 n12 hQok
  have kr2 := fun (W : World) (X Y : Option Addr) (c C c' : Nat) (hi : Prs W X c (cst (P ++ E))) (hj : Ints W Y n ys) => run_ok X Y n c' c C (P ++ E) ys W hi (by have := hi.1; rw [cst_len] at this; omega) hj n2 n12 ho hQok
  rw [hQr] at kr2
  generalize uslL n [] 0 (P ++ E) = U at *
  generalize runL P ys = R at *
  have hCl := cst_len P
  have hCl2 := cst_len (P ++ E)
  have HQl := Lib.hid hQl
  have Hv := Lib.hid hv
  unfold RetLE at kt kr ku kr2
  unfold RetPE at kb
  have a2 : ¬ (20 : Int) < (k : Int) := by omega
  have a3 : ¬ (10 : Int) < (m : Int) := by omega
  clear hy hT hv hPok hQok hEok hord hsrt hQr hP ho
  go_enter Tryd.func8, Tryd.ntmps8
  go_wp2_with fail
  refine (kb _).mono ?_
  rintro _ w1 ⟨A1, n1, c1, rfl, i1, ⟨hl1, hl1'⟩, hb1⟩
  replace hbw : Below w.heap.size w w1 := blA
  clear hb1
  obtain rfl : n1 = P.length := by rw [← i1.1, hCl]
  clear kb
  have q0 : ¬ (H : Int) < ((P.length : Nat) : Int) := by omega
  have M0 : (M : Int) ≤ 132 := by omega
  have hw3 : wrap64 (H : Int) = (H : Int) := IntWalk.wrap64_in _ ⟨by omega, by omega⟩
  have hw1 : wrap64 ((n : Int) * ((n : Int) - 1)) = (M : Int) := HMn.out ▸ IntWalk.wrap64_in _ ⟨by rw [HMn.out]; exact Int.le_trans (by decide) (Int.natCast_nonneg _), by rw [HMn.out]; exact Int.le_trans M0 (by decide)⟩
  have hw2 := Hw2.out
  go_wp2_with fail
  refine (kf _ _ _ _ i1).mono ?_
  rintro _ w2 ⟨rfl, hb2⟩
  clear hw1 hw2 hw3 HMn Hw2
  replace i1 : Prs w2 A1 P.length (cst P) := Prs.below i1 blA
  replace hbw : Below w.heap.size w w2 := blA
  clear hb2
  go_wp2_with fail
  refine (kt _ _ _ _ i1 (by omega) blA).mono ?_
  rintro _ w3 ⟨A3, n3, c3, rfl, i3, _, hb3⟩
  replace i1 : Prs w3 A1 P.length (cst P) := Prs.below i1 blA
  replace hbw : Below w.heap.size w w3 := blA
  clear hb3
  clear i3
  go_wp2_with fail
  refine (kp _ blA).mono ?_
  rintro _ w4 ⟨A4, c4, rfl, i4, hn4, hb4⟩
  replace i1 : Prs w4 A1 P.length (cst P) := Prs.below i1 blA
  replace hbw : Below w.heap.size w w4 := blA
  clear hb4
  go_wp2_with fail
  refine (kr _ _ _ _ _ _ i1 i4).mono ?_
  rintro _ w5 ⟨A5, n5, c5, rfl, i5, _, hb5⟩
  replace i1 : Prs w5 A1 P.length (cst P) := Prs.below i1 blA
  replace i4 : Ints w5 A4 n ys := Ints.below intsA hb5
  replace hbw : Below w.heap.size w w5 := blA
  clear hb5
  obtain rfl : n = n5 := by rw [← i5.1, hRl]
  go_wp2_with fail
  refine (ks _ _ _ i4).mono ?_
  rintro _ w6 ⟨A6, c6, rfl, i6, _, hb6⟩
  replace i1 : Prs w6 A1 P.length (cst P) := Prs.below i1 blA
  replace i4 : Ints w6 A4 n ys := Ints.below intsA hb6
  replace i5 : Ints w6 A5 n R := Ints.below intsA hb6
  replace hbw : Below w.heap.size w w6 := blA
  clear hb6
  go_wp2_with fail
  refine (kl _ _ _ _ _ _ _ _ i5 i6 (by omega) (by omega)).mono ?_
  rintro e w7 ⟨rfl, hb7⟩
  try clear i6
  replace i1 : Prs w7 A1 P.length (cst P) := Prs.below i1 blA
  replace i4 : Ints w7 A4 n ys := Ints.below intsA hb7
  replace i5 : Ints w7 A5 n R := Ints.below intsA hb7
  replace hbw : Below w.heap.size w w7 := blA
  clear hb7
  clear kf kt kp kr ks
  obtain ⟨b1, o1, rfl, hlt1, _⟩ := i1.2 (by omega)
  go_wp2_with (at_builtin; refine list_prs elPair rfl _ _ rfl w7.heap.size 0 _ [] (by rfl) (own_emptyP w7 (Nat.le_refl _)) b1 o1 P.length _ (cst P) (by rfl) (i1.alloc _) (by omega) (by omega) (by simp) ?_; intro g8 c8 w8 hO8 hb8)
  have HO8 := Lib.hid hO8
  have hb78 : Below w7.heap.size w7 w8 := (balloc' _ _ _ (Nat.le_refl _)).trans hb8
  rw [List.nil_append, ← HE0.out, Nat.zero_add] at HO8
  clear hO8 hb8 HE0
  have hbw7 := hbw
  have i47 := i4
  have i57 := i5
  clear hbw i1 i4 i5
  go_loopw [15, 16, 17] (fun s15 s16 _ wx => ∃ (i : Nat) (W : World), i ≤ m ∧ s16 = .int .i64 (i : Nat) ∧ Hid (W = wx) ∧ Hid (W.ownsRow w7.heap.size 52 2 s15 (P.length + i) ((cst (P ++ E.take i)).flatMap encR)) ∧ Below w7.heap.size w7 W) (fun _ s16 _ _ => m - (intOf s16).toNat)
  case atStart => exact ⟨0, _, Nat.zero_le _, rfl, Lib.hid rfl, HO8, hb78⟩
  case round =>
    clear HO8 hb78
    obtain ⟨i, W, hi, rfl, HW, HO, hbx⟩ := hrel
    obtain rfl := HW.out
    clear HW
    have hbW := hbw7.trans (hbx.mono hbw7.size)
    by_cases hin : i < m
    · obtain ⟨b2, o2, x, y, rfl, hlt2, hget, c0, c1'⟩ := Hv.out.at_ hbW hin
      obtain ⟨c1', hx, hy⟩ := c1'
      obtain ⟨a, d, ha, hd, hxa, hyd, hex⟩ := ext_num (n := n) n2 hx.1 hy.1
      have Hst := Lib.hid (HEs.out i x y hget)
      rw [hex] at Hst
      clear hex hget
      have g0 : ¬ (n : Int) - 1 = 0 := by omega
      have g1 : ¬ (n : Int) - 1 - (a : Int) = 0 := by omega
      have hx' : x % ((n : Int) - 1) = (a : Int) := by rw [← hxa, Int.tmod_eq_emod_of_nonneg hx.1]
      have hy' : y % ((n : Int) - 1 - (a : Int)) = (d : Int) := by rw [← hyd, Int.tmod_eq_emod_of_nonneg hy.1]
      go_wp2_with fail
      refine (pair_any _ _ _).mono ?_
      rintro _ w9 ⟨rfl, hb9⟩
      have HO2 := Lib.hid (own_keep HO.out hb9)
      have hb79 := hbx.trans (hb9.mono hbx.size)
      have hs79 := hb79.size
      have Hst2 : Hid (cst (P ++ E.take (i + 1)) = cst (P ++ E.take i) ++ [((a : Int), (a : Int) + 1 + (d : Int))]) := Lib.hid Hst.out
      clear HO hb9 Hst hx' hy' hxa hyd g0 g1 hbx
      go_wp2_with (at_builtin; refine list_pair elPair rfl _ _ rfl w7.heap.size (P.length + i) _ (cst (P ++ E.take i)) (by rfl) (HO2.out.alloc _) w9.heap.size (a : Nat) ((a : Int) + 1 + (d : Int)) (by rfl) (by simp) (by simp) (by omega) (by simp; omega) ?_; intro g6 c6 w6 hO6 hb6)
      go_roundw
      case rel => exact ⟨i + 1, _, by omega, by go_num, Lib.hid rfl, Lib.hid (by rw [Hst2.out]; exact hO6), hb79.trans ((balloc' _ _ _ hb79.size).trans hb6)⟩
      case measure => simp [intOf]; omega
    · obtain rfl : m = i := by omega
      have HO1 := HO.out
      rw [HEm.out] at HO1
      obtain ⟨A8, c8', rfl, i8, hcc⟩ := own_prs (n := P.length + m) (zs := cst (P ++ E)) (by rw [hCl2, HQl.out]) HO1
      replace i4 : Ints W A4 n ys := i47.below hbx
      replace i5 : Ints W A5 n R := i57.below hbx
      have hbw := hbW
      clear HO HO1 hbx i47 i57 hbW
      go_wp2_with fail
      refine (kf2 _ _ _ _ i8).mono ?_
      rintro e w10 ⟨rfl, hb10⟩
      replace i8 : Prs w10 A8 (P.length + m) (cst (P ++ E)) := Prs.below i8 blA
      replace i4 : Ints w10 A4 n ys := Ints.below intsA hb10
      replace i5 : Ints w10 A5 n R := Ints.below intsA hb10
      replace hbw : Below w.heap.size w w10 := blA
      clear hb10
      go_wp2_with fail
      refine (ku _ _ _ _ i8 hcc).mono ?_
      rintro _ w11 ⟨A11, n11, c11, rfl, i11, ⟨hl11, hl11'⟩, hb11⟩
      replace i8 : Prs w11 A8 (P.length + m) (cst (P ++ E)) := Prs.below i8 blA
      replace i4 : Ints w11 A4 n ys := Ints.below intsA hb11
      replace i5 : Ints w11 A5 n R := Ints.below intsA hb11
      replace hbw : Below w.heap.size w w11 := blA
      clear hb11
      obtain rfl : n11 = U.length := by rw [← i11.1, List.length_map]
      go_wp2_with fail
      refine (kr2 _ _ _ _ _ _ i8 i4).mono ?_
      rintro _ w12 ⟨A12, n12', c12, rfl, i12, _, hb12⟩
      try clear i8
      try clear i4
      replace i5 : Ints w12 A5 n R := Ints.below intsA hb12
      replace i11 : Ints w12 A11 U.length (U.map fun x => ((x : Nat) : Int)) := Ints.below intsA hb12
      replace hbw : Below w.heap.size w w12 := blA
      clear hb12
      obtain rfl : n = n12' := by rw [← i12.1, hRl]
      have hmU : m ≤ U.length := by
        rcases Nat.eq_zero_or_pos m with h | h
        · omega
        · exact (HUl.out 0 h).1
      have u0 : ¬ ((U.length : Nat) : Int) < (m : Int) := by omega
      go_wp2_with fail
      refine (kl _ _ _ _ _ _ _ _ i12 i5 (by omega) (by omega)).mono ?_
      rintro e w13 ⟨rfl, hb13⟩
      try clear i8
      try clear i4
      try clear i5
      try clear i12
      replace i11 : Ints w13 A11 U.length (U.map fun x => ((x : Nat) : Int)) := Ints.below intsA hb13
      replace hbw : Below w.heap.size w w13 := blA
      clear hb13
      have Hi11 := Lib.hid i11
      have hbw13 := hbw
      clear kf2 ku kr2 kl i11 hbw
      have HU2 : Hid (∀ (i : Nat), i < m → (U.map fun x => ((x : Nat) : Int)).getD (U.length - 1 - i) 0 = ((P.length + m - 1 - i : Nat) : Int)) := Lib.hid (fun i hi => by
        rw [← (HUl.out i hi).2, List.getD_eq_getElem?_getD, List.getElem?_map, List.getD_eq_getElem?_getD, List.getElem?_eq_getElem (show U.length - 1 - i < U.length by omega)]; rfl)
      go_wp2_with fail
      go_loopw [22] (fun s22 wx => ∃ (i : Nat) (W : World), i ≤ m ∧ s22 = .int .i64 (i : Nat) ∧ Hid (W = wx) ∧ Below w13.heap.size w13 W) (fun s22 _ => m - (intOf s22).toNat)
      case atStart => exact ⟨0, _, Nat.zero_le _, rfl, Lib.hid rfl, blA⟩
      case round =>
        obtain ⟨i, V, hi, rfl, HV, hbx⟩ := hrel
        obtain rfl := HV.out
        clear HV
        have hbV := hbw13.trans (hbx.mono hbw13.size)
        by_cases hin : i < m
        · obtain ⟨b11, o11, rfl, _, e0⟩ := Hi11.out.at0 hbx (show U.length - 1 - i < U.length by omega)
          rw [HU2.out i hin] at e0
          obtain ⟨r, hr⟩ : ∃ r, U.length - 1 - i = r := ⟨_, rfl⟩
          have hr2 : ((U.length : Nat) : Int) - 1 - (i : Int) = (r : Int) := by omega
          have hr3 : r < U.length := by omega
          have hr4 : (0 : Int) ≤ (r : Int) := by omega
          obtain ⟨t, ht⟩ : ∃ t, P.length + m - 1 - i = t := ⟨_, rfl⟩
          have ht2 : ((P.length : Nat) : Int) + (m : Int) - 1 - (i : Int) = (t : Int) := by omega
          have ht3 : ((P.length + m : Nat) : Int) - 1 - (i : Int) = (t : Int) := by omega
          rw [hr, ht] at e0
          clear hr ht
          go_wp2_with fail
          go_roundw
          case rel => exact ⟨i + 1, _, by omega, by go_num, Lib.hid rfl, blA⟩
          case measure => simp [intOf]; omega
        · go_wp2_with fail
          refine (kw _ (HT.out.below blA HT.out.1)).mono ?_
          rintro _ w14 ⟨rfl, hb14⟩
          go_wp2_with fail
          go_ret
          exact ⟨rfl, blA⟩

set_option maxRecDepth 100000 in
set_option maxHeartbeats 4000000 in
theorem benchBuilt_any (lst : Int) (A B : Option Addr) (k D m C : Nat) (bs : List Int) (ms : List (Int × Int)) (w : World) (hb0 : 0 ≤ lst) (hb1 : lst ≤ 255) (hy : U32s w A k bs) (hk : k ≤ 9223372036854775807) (hv : U8Prs w B m ms) (hm : m ≤ 9223372036854775807) (hT : TabW w) :
    Calls Tryd.prog 8 #[.int .u8 lst, .slice A k D, .slice B m C] w fun e w' => e = .returned (.bool true) ∧ Below w.heap.size w w' := by
  have kw := fun W hT => works_any W hT
  have HT := Lib.hid hT
  have hn0 := Int.emod_nonneg lst (show (11 : Int) ≠ 0 by omega)
  have hn1 := Int.emod_lt_of_pos lst (show (0 : Int) < 11 by omega)
  by_cases h20 : 20 < k
  · have h2 : (20 : Int) < (k : Int) := by omega
    generalize lst % 11 = q at *
    clear hy hv hT
    go_enter Tryd.func8, Tryd.ntmps8
    go_wp2_with fail
    refine (kw _ (HT.out.below blA HT.out.1)).mono ?_
    rintro e w2 ⟨rfl, hb2⟩
    replace hbw : Below w.heap.size w w2 := blA
    clear hb2
    go_wp2_with fail
    go_ret
    exact ⟨rfl, blA⟩
  · by_cases h10 : 10 < m
    · have h2 : ¬ (20 : Int) < (k : Int) := by omega
      have h3 : (10 : Int) < (m : Int) := by omega
      clear hy hv hT
      go_enter Tryd.func8, Tryd.ntmps8
      go_wp2_with fail
      refine (kw _ (HT.out.below blA HT.out.1)).mono ?_
      rintro e w2 ⟨rfl, hb2⟩
      replace hbw : Below w.heap.size w w2 := blA
      clear hb2
      go_wp2_with fail
      go_ret
      exact ⟨rfl, blA⟩
    · exact built_main A B (2 + (lst % 11).toNat) k D m C bs ms lst w hy (by omega) hv (by omega) (by omega) (by omega) (by omega) hb0 hb1 hT

end Go.Proofs.YtmddpjlpbmfbgaaDoor
end

/- BenchBuilt: the call answers true, whatever the input, and every argument reads as it did. Conditions: none of its own; the listed variable is tied to the program's text by the given tie. -/
section
namespace Go.Proofs.YtmddpjlpbmfbgaaDoor
open Go.ChangeShapes Go.WideShapes Go.ChangeAt Go.RowKit
set_option linter.unusedVariables false

theorem benchBuilt_params : (Tryd.f8.params.toList.all fun t => Tryd.prog.readableRec t && decide (t < Tryd.prog.types.size)) = true := by kernel_rfl

set_option maxRecDepth 100000 in
/-- the walk, for each argument that there is and each world that holds the listed variable -/
theorem benchBuilt_contract (H : Type) (enc : TypeId × Value → H) (W : World) (base : Nat) (args : Array Value) (ds gs : List (DataW H)) (before : List MemPlace)
    (hval : ∀ (j : Nat) t v, Tryd.f8.params[j]? = some t → args[j]? = some v → Value.okWide Tryd.prog W .any base t v)
    (hW : DataW.Whole enc Tryd.prog Tryd.f8.params.toList Rows.benchBuiltSpec.vars false W args.toList ds gs before) (hL : laidMetH Tryd.prog Rows.benchBuiltRow.laid W) :
    Calls Tryd.prog 8 args W fun e W' => ∃ v, e = .returned v ∧ Rows.benchBuiltSpec.post enc Tryd.prog Tryd.f8 false true false false W args v W' := by
  have hW' := hW
  obtain ⟨p, q, hA0, hV, hps, hfz, hnd⟩ := hW
  have hA : DataW.TrodAll enc Tryd.prog W 0 (fun _ => true) true Tryd.f8.params.toList args.toList ds p := hA0
  rw [Tryd.params8] at hA hval
  obtain ⟨v0, v1, v2, d0, d1, d2, p0, p1, p2, rfl, rfl, rfl, h0, h1, h2⟩ := trodAll_three hA
  have hf := tabAt hL
  obtain ⟨n0, rfl, _, _, w0⟩ := open_int Tryd.underlying5 (hval 0 5 v0 rfl rfl) h0
  have bd0 := bounds_u8 w0
  obtain ⟨A1, n1, cap1, zs1, rfl, hz1, hn1⟩ := arg_u32s (hval 1 36 v1 rfl rfl) h1
  obtain ⟨A2, n2, cap2, zs2, rfl, hz2, hn2⟩ := arg_u8x2s (hval 2 47 v2 rfl rfl) h2
  clear hA0
  refine (benchBuilt_any n0 A1 A2 n1 cap1 n2 cap2 zs1 zs2 W bd0.1 bd0.2 hz1 hn1 hz2 hn2 hf).mono fun e W' ⟨he, hb⟩ => ?_
  subst he
  exact ⟨_, rfl, law_done laidOut rfl (fun t ht => by have := List.all_eq_true.1 benchBuilt_params t ht; simpa using this) (by kernel_rfl) Tryd.underlying4 hW' (fun h => by subst h; rfl) (fun h => by subst h; rfl) (fun h => by subst h; rfl) hb⟩

theorem benchBuilt_laid_met (os : Os) : laidMet Tryd.prog Rows.benchBuiltRow.laid ((laidWorld os).forCall (fun _ _ => 0) ⟨#[], #[.int .u8 0, .slice none 0 0, .slice none 0 0], []⟩).memory :=
  laidMet_of_run' 8 (by kernel_rfl) (by kernel_rfl)
theorem benchBuilt_reads (os : Os) {H : Type} (enc : TypeId × Value → H) : ∃ places, DataW.whole enc Tryd.prog ((laidWorld os).forCall (fun _ _ => 0) ⟨#[], #[.int .u8 0, .slice none 0 0, .slice none 0 0], []⟩).memory Tryd.f8.params.toList Rows.benchBuiltSpec.vars false (#[.int .u8 0, .slice none 0 0, .slice none 0 0] : Array Value).toList 8 = some ([.lit (.int .u8 0), .nil, .nil], [], places) :=
  ⟨[], by kernel_rfl⟩

set_option maxRecDepth 100000 in
theorem benchBuilt_lifted (os : Os) (started : os.Started) (H : Type) (enc : TypeId × Value → H) (F : Stop.Interp) :
    ReturnsInHanded {} Tryd.checked os 8 .any ((OpenSpec.ofChange Rows.benchBuiltSpec).preRow enc Tryd.prog Tryd.f8 Rows.benchBuiltRow.domain false Rows.benchBuiltRow.laid) (((OpenSpec.ofChange Rows.benchBuiltSpec).at F).post enc Tryd.prog Tryd.f8 false true false false) := by
  obtain ⟨places, hx⟩ := benchBuilt_reads os enc
  refine returnsInHanded_of_row (C := Tryd.checked) (s := OpenSpec.ofChange Rows.benchBuiltSpec) own started (by kernel_rfl) Tryd.func8
    (witness_row_at (enc := enc) (C := Tryd.checked) false (laidWorld os) #[.int .u8 0, .slice none 0 0, .slice none 0 0] rfl (by kernel_rfl) (by kernel_rfl) (by kernel_rfl)
      (OpenSpec.preRow_of_cond 8 hx (by kernel_rfl) (fun k hk => by cases hk) (by kernel_rfl) (benchBuilt_laid_met os))) ?_
  intro W base args ds gs before hval hW _ _ _ hL _ _
  exact benchBuilt_contract H enc W base args ds gs before hval hW hL

theorem benchBuilt_said : Rows.BenchBuiltSaid :=
  OpenClaim.holds_of_cond 8 Tryd.f8 rfl rfl rfl rfl rfl rfl rfl ⟨rfl, rfl, rfl, rfl, rfl⟩ rfl rfl rfl rfl rfl (by kernel_rfl) Tryd.func8 (by kernel_rfl)
    (of_decide_eq_true (by kernel_rfl)) (by unfold Func.isWrapper; first | (rw [if_pos (by decide +kernel)]; kernel_rfl) | (rw [if_neg (by decide +kernel)]; exact ⟨rfl, rfl⟩))
    (fun os started H enc _ F => by rw [OpenClaim.pre_eq_preRow]; exact benchBuilt_lifted os started H enc F)

theorem benchBuilt_plain (f : FuncId) (fn : Func) (hf : Tryd.pinned.checked.prog.funcNamed Rows.benchBuiltRow.func = some f) (hfn : Tryd.pinned.checked.prog.funcs[f]? = some fn) :
    false = Tryd.pinned.checked.prog.looks [] ∧ ∀ (j : Nat) t, fn.params[j]? = some t → Tryd.pinned.checked.prog.wantsStandIn t = false := by
  obtain rfl : f = 8 := Option.some.inj ((show Tryd.prog.funcNamed Rows.benchBuiltRow.func = some 8 by kernel_rfl).symm.trans hf) |>.symm
  obtain rfl : fn = Tryd.f8 := (Option.some.inj (Tryd.func8.symm.trans hfn)).symm
  refine ⟨by kernel_rfl, fun j t ht => ?_⟩
  have hall : (Tryd.f8.params.toList.all fun u => !Tryd.prog.wantsStandIn u) = true := by kernel_rfl
  have hm : t ∈ Tryd.f8.params.toList := by simpa using Array.mem_of_getElem? ht
  exact (show Tryd.prog.wantsStandIn t = false by simpa using List.all_eq_true.1 hall t hm)

/-- BenchBuilt, the card -/
theorem benchBuilt_card : Rows.BenchBuiltCardSaid :=
  Claim7.holds_tied_plain_at .later [] _ _ _ _ benchBuilt_said (fun _ h => by cases h) (by kernel_rfl) (fun _ h => by cases h) benchBuilt_row_tie rfl ⟨rfl, rfl⟩ (by kernel_rfl) rfl benchBuilt_plain (by kernel_rfl)
#print axioms benchBuilt_card
end Go.Proofs.YtmddpjlpbmfbgaaDoor
end
