/- BM9 BK06 BT06 -/
import Derived.Test.YtmddpjlpbmfbgaaDoorBZ24
import Derived.Test.YtmddpjlpbmfbgaaDoorBZ21
import Derived.Test.YtmddpjlpbmfbgaaDoorBZ17
/- Plain laws: a programme that Merge names no row for puts each row in order whose two parts are in order. -/
section
namespace Go.Proofs.YtmddpjlpbmfbgaaDoor
set_option linter.unusedSimpArgs false
set_option linter.unusedVariables false
open Bm (Pr OkP runL runB runF tab rowL ordB unord UnF fstBad num thr srtL srtL_eq srtL_dec srtL_len Dec)

/-- two parts, each put in order -/
def prtL (f : Nat) (l : List Int) : List Int := srtL (l.take f) ++ srtL (l.drop f)
theorem prtL_len (f : Nat) (l : List Int) : (prtL f l).length = l.length := by
  unfold prtL; rw [List.length_append, srtL_len, srtL_len, List.length_take, List.length_drop]; omega
theorem prt_dec {f n : Nat} {l : List Int} (hl : l.length = n) (hf : f ≤ n) {i k : Nat} (hk : k < n) (hi : i < k) (hin : ins f i k = true) : (prtL f l).getD k 0 ≤ (prtL f l).getD i 0 := by
  have l1 : (srtL (l.take f)).length = f := by rw [srtL_len, List.length_take]; omega
  have l2 : (srtL (l.drop f)).length = n - f := by rw [srtL_len, List.length_drop]; omega
  unfold prtL
  rw [List.getD_eq_getElem?_getD, List.getD_eq_getElem?_getD]
  by_cases ha : k < f
  · rw [List.getElem?_append_left (by omega), List.getElem?_append_left (by omega), List.getElem?_eq_getElem (by omega), List.getElem?_eq_getElem (by omega)]
    exact List.pairwise_iff_getElem.1 (srtL_dec (l.take f)) i k (by omega) (by omega) hi
  · have hb : ¬ i < f := by
      intro hb; simp [ins, ha, hb] at hin
    rw [List.getElem?_append_right (by omega), List.getElem?_append_right (by omega), List.getElem?_eq_getElem (by omega), List.getElem?_eq_getElem (by omega)]
    exact List.pairwise_iff_getElem.1 (srtL_dec (l.drop f)) (i - (srtL (l.take f)).length) (k - (srtL (l.take f)).length) (by omega) (by omega) (by omega)
theorem mg_good {n f : Nat} {p : List Pr} (hp : OkP n p) (hf : f ≤ n) (h : fstBad n (badM n f p) = none) {ys : List Int} (hl : ys.length = n) : ordB (runL p (prtL f ys)) = true := by
  have hrl : (runL p (prtL f ys)).length = n := by rw [Bm.runL_len, prtL_len, hl]
  have hno := Bm.fstBad_none.1 h
  cases hb : ordB (runL p (prtL f ys)) with
  | true => rfl
  | false =>
    have hu := Bm.ordB_un.1 hb
    rw [hrl] at hu
    obtain ⟨t, ht⟩ := Bm.zeroOne hp (un_runF hp (by rw [prtL_len, hl]) hu)
    have h1 := hno (num (thr t fun i => (prtL f ys).getD i 0) n) (Bm.num_lt _ n)
    unfold badM at h1
    rw [ht, Bool.and_true] at h1
    have h2 : unord n (ins f) (tab n (num (thr t fun i => (prtL f ys).getD i 0) n)) = true := by simpa using h1
    rw [Bm.unord_congr (Bm.tab_num _ n), Bm.unord_iff] at h2
    obtain ⟨k, i, hk, hi, hin, h3, h4⟩ := h2
    have := prt_dec hl hf hk hi hin
    unfold thr at h3 h4
    simp at h3 h4
    simp at this
    omega
theorem mg_sort {n f : Nat} {p : List Pr} (hp : OkP n p) {ys : List Int} (hl : ys.length = n) (h : ordB (runL p (prtL f ys)) = true) : runL p (prtL f ys) = srtL (prtL f ys) :=
  srtL_eq (Bm.ordB_dec.1 h) (Bm.runL_perm n p hp _ (by rw [prtL_len, hl]))
theorem prtL_out {f : Nat} {l : List Int} (h : l.any (out 0 100000) = false) : (prtL f l).any (out 0 100000) = false := by
  rw [List.any_eq_false] at h ⊢
  intro x hx
  unfold prtL at hx
  rcases List.mem_append.1 hx with hx | hx
  · exact h x (List.mem_of_mem_take ((Bm.srtL_perm _).mem_iff.1 hx))
  · exact h x (List.mem_of_mem_drop ((Bm.srtL_perm _).mem_iff.1 hx))
theorem mg_row {n f k : Nat} {p : List Pr} (hp : OkP n p) (hf : f ≤ n) (h : badM n f p k = true) : ordB ((rowL n k).take f) = true ∧ ordB ((rowL n k).drop f) = true ∧ ordB (runL p (rowL n k)) = false := by
  unfold badM at h
  rw [Bool.and_eq_true] at h
  have h1 := ins_ord (n := n) (k := k) hf
  rw [h.1, Bool.and_eq_true] at h1
  have h2 := ord_bad (n := n) (k := k) hp
  rw [h.2] at h2
  exact ⟨h1.1, h1.2, by simpa using h2⟩

end Go.Proofs.YtmddpjlpbmfbgaaDoor
end

/- The walk of BenchMerged: it answers true. -/
section
namespace Go.Proofs.YtmddpjlpbmfbgaaDoor
open Go.RowKit Go.Shelf
set_option linter.unusedSimpArgs false
set_option linter.unusedVariables false
open Bm (Pr OkP runL runB tab rowL ordB fstBad srtL)

set_option maxRecDepth 100000 in
set_option maxHeartbeats 8000000 in
theorem merged_main (A B : Option Addr) (n q c C k D : Nat) (p : List Pr) (bs : List Int) (bst : Int) (w : World) (hz : Prs w A c (cst p)) (hc : c ≤ 80) (hC : c ≤ C) (hy : U32s w B k bs) (hk : k ≤ 20)
    (n2 : 2 ≤ n) (n12 : n ≤ 12) (hp : OkP n p) (hq : q + 1 < n) (hbq : bst.tmod ((n : Int) - 1) = (q : Int)) (hb0 : 0 ≤ bst) (hb1 : bst ≤ 255) (hT : TabW w) :
    Calls Tryd.prog 6 #[.int .i64 (n : Nat), .slice A c C, .slice B k D, .int .u8 bst] w fun e w' => e = .returned (.bool true) ∧ Below w.heap.size w w' := by
  have kw := fun W hT => works_any W hT
  have HT := Lib.hid hT
  have kf := fun (W : World) (hb : Below w.heap.size w W) => fine_any (n : Int) A c C (cst p) W (hz.below hb) (by omega)
  rw [show fineP n (cst p) = true by unfold fineP; rw [chk_of n2 n12 hp (by have := hz.1; rw [cst_len] at this; omega)]; rfl] at kf
  have kt := fun (W : World) (v : Int) (hv : v = ((1 + q : Nat) : Int)) (hb : Below w.heap.size w W) => hv ▸ merge_ok A n c (1 + q) C p W (hz.below hb) hc hC n2 n12 hp (by omega) (by omega) (hT.below hb hT.1)
  have kp := fun (W : World) (hb : Below w.heap.size w W) => powers_any n B k D bs W (hy.below hb) (by omega) n12
  have kr := fun (W : World) (X : Option Addr) (c' : Nat) (ys : List Int) (hb : Below w.heap.size w W) (hi : Ints W X n ys) (ho : ys.any (out 0 100000) = false) => run_ok A X n c' c C p ys W (hz.below hb) (by omega) hi n2 n12 ho hp
  have ks := fun (W : World) (X : Option Addr) (m c' : Nat) (ys : List Int) (h1 : 1 ≤ m) (h2 : m ≤ 12) (hi : Ints W X m ys) => sorted_own X m c' ys W hi h1 h2
  have kl := fun A B n m c c' xs W hx hy hn hm => longs_any A B n m c c' xs xs W hx hy hn hm true (by simp)
  have hRl : ∀ ys : List Int, ys.length = n → (runL p ys).length = n := fun ys h => by rw [Bm.runL_len, h]
  have hrow := fun j => Bm.rowL_len n j
  have hro := fun j => rowL_out n j
  have ho := powL_out n bs
  have hpl := powL_len n bs
  have hgr := fun j => mg_row (n := n) (f := 1 + q) (k := j) hp (by omega)
  have hzo := fun h => fun (ys : List Int) hl => mg_good (n := n) (f := 1 + q) hp (by omega) h (ys := ys) hl
  have hso := fun (ys : List Int) hl h => mg_sort (n := n) (f := 1 + q) hp (ys := ys) hl h
  generalize powL n bs = ys at *
  have hR : ((firstS n (badM n (1 + q) p)).1 = [] ∧ (firstS n (badM n (1 + q) p)).2 = 5 ∧ ordB (runL p (prtL (1 + q) ys)) = true) ∨ ((firstS n (badM n (1 + q) p)).1.length = n ∧ (firstS n (badM n (1 + q) p)).2 = 0 ∧ (firstS n (badM n (1 + q) p)).1.any (out 0 100000) = false ∧ ordB ((firstS n (badM n (1 + q) p)).1.take (1 + q)) = true ∧ ordB ((firstS n (badM n (1 + q) p)).1.drop (1 + q)) = true ∧ ordB (runL p (firstS n (badM n (1 + q) p)).1) = false) := by
    unfold firstS
    cases hT : fstBad n (badM n (1 + q) p) with
    | none => exact .inl ⟨rfl, rfl, hzo hT ys hpl⟩
    | some Q => exact .inr ⟨hrow Q, rfl, hro Q, hgr Q (Bm.fstBad_some.1 hT).2.1⟩
  unfold RetLE at kt kr
  have hyo := prtL_out (f := 1 + q) ho
  have hyl := (prtL_len (1 + q) ys).trans hpl
  have hso := hso ys hpl
  clear hgr hzo hrow hro
  generalize firstS n (badM n (1 + q) p) = R at *
  generalize R.1 = r1 at *
  generalize R.2 = e1 at *
  clear hz hy hT
  have d1 : (0 : Int) ≤ (n : Int) - 1 := by omega
  have f0 : ¬ (n : Int) - 1 = 0 := by omega
  go_enter Tryd.func6, Tryd.ntmps6
  go_wp2_with fail
  refine (kf _ blA).mono ?_
  rintro e w1 ⟨rfl, hb1⟩
  replace hbw : Below w.heap.size w w1 := blA
  clear hb1
  go_wp2_with fail
  refine (kt _ _ (by omega) blA).mono ?_
  rintro _ w2 ⟨A2, n2', c2, rfl, i2, ⟨hl2, hl3⟩, hb2⟩
  replace hbw : Below w.heap.size w w2 := blA
  clear hb2
  go_wp2_with fail
  refine (kp _ blA).mono ?_
  rintro _ w3 ⟨A3, c3, rfl, i3, hn3, hb3⟩
  replace i2 : Ints w3 A2 n2' r1 := Ints.below intsA hb3
  replace hbw : Below w.heap.size w w3 := blA
  clear hb3
  obtain ⟨b3, o3, rfl, hlt3, _⟩ := i3.2 (by omega)
  have j1 := i3.pre (1 + q) (by omega)
  have j2 := i3.suf (1 + q) (by omega)
  go_wp2_with fail
  have g1 : (0 : Int) ≤ 1 + (q : Int) := by omega
  have g2 : (1 + (q : Int)) ≤ (c3 : Int) := by omega
  have g3 : (1 + (q : Int)) ≤ (n : Int) := by omega
  have g4 : (1 + (q : Int)).toNat = 1 + q := by omega
  have g5 : ¬ c3 = 1 + q := by omega
  have g6 : (n : Int) ≤ (c3 : Int) := by omega
  refine wp_region_seq (S := fun _ => True) [.t 0 1, .t 1 3, .t 2 7, .t 4 23, .t 5 55, .t 6 119, .o 3 127, .o 7 255, .o 8 511, .t 9 1023] (by kernel_rfl) (by kernel_rfl) (by as_aux_lemma => kernel_rfl) (by kernel_rfl) (fun c a d v w h => by cases d <;> exact h) trivial (fun _ => ?_)
  refine seq_take (v := ?_) rfl (by rfl) ?_ ?_
  rotate_left
  · intro w9 hSw; (go_simp; (try simp only [g1, g2, g3, g4, g5, g6, and_self, if_true, if_false]) <;> with_reducible rfl)
  try simp only [Act.put, List.setIfInBounds_toArray, List.set_cons_zero, List.set_cons_succ]
  refine seq_take (v := ?_) rfl (by rfl) ?_ ?_
  rotate_left
  · intro w9 hSw; (go_simp; (try simp only [g1, g2, g3, g4, g5, g6, and_self, if_true, if_false]) <;> with_reducible rfl)
  try simp only [Act.put, List.setIfInBounds_toArray, List.set_cons_zero, List.set_cons_succ]
  refine seq_take (v := ?_) rfl (by rfl) ?_ ?_
  rotate_left
  · intro w9 hSw; (go_simp; (try simp only [g1, g2, g3, g4, g5, g6, and_self, if_true, if_false]) <;> with_reducible rfl)
  try simp only [Act.put, List.setIfInBounds_toArray, List.set_cons_zero, List.set_cons_succ]
  refine seq_take (v := ?_) rfl (by rfl) ?_ ?_
  rotate_left
  · intro w9 hSw; (go_simp; (try simp only [g1, g2, g3, g4, g5, g6, and_self, if_true, if_false]) <;> with_reducible rfl)
  try simp only [Act.put, List.setIfInBounds_toArray, List.set_cons_zero, List.set_cons_succ]
  refine seq_take (v := ?_) rfl (by rfl) ?_ ?_
  rotate_left
  · intro w9 hSw; (go_simp; (try simp only [g1, g2, g3, g4, g5, g6, and_self, if_true, if_false]) <;> with_reducible rfl)
  try simp only [Act.put, List.setIfInBounds_toArray, List.set_cons_zero, List.set_cons_succ]
  refine seq_take (v := ?_) rfl (by rfl) ?_ ?_
  rotate_left
  · intro w9 hSw; (go_simp; (try simp only [g1, g2, g3, g4, g5, g6, and_self, if_true, if_false]) <;> with_reducible rfl)
  try simp only [Act.put, List.setIfInBounds_toArray, List.set_cons_zero, List.set_cons_succ]
  refine seq_one rfl (fun K9 hS9 => ?_)
  go_simp
  refine (ks _ _ _ _ _ (by omega) (by omega) j1.drew).mono ?_
  rintro e w4 ⟨ga, ca, rfl, ha, hb4⟩
  have j2b := j2.drew.below hb4
  refine hS9.out _ _ trivial (fun _ => ?_)
  clear hS9 K9
  try simp only [Act.put, List.setIfInBounds_toArray, List.set_cons_zero, List.set_cons_succ]
  refine seq_one rfl (fun K9 hS9 => ?_)
  go_simp
  refine (ks _ _ _ _ _ (by omega) (by omega) j2b).mono ?_
  rintro e w5 ⟨gb, cb, rfl, hbb, hb5⟩
  have ha5 := own_keep ha hb5
  refine hS9.out _ _ trivial (fun _ => ?_)
  clear hS9 K9
  try simp only [Act.put, List.setIfInBounds_toArray, List.set_cons_zero, List.set_cons_succ]
  refine seq_one rfl (fun K9 hS9 => ?_)
  rw [if_pos (by rfl)]
  refine wp_ints _ _ rfl w3.heap.size (1 + q) (.slice (some ⟨ga, 0, none⟩) (1 + q) ca) _ rfl ha5 gb 0 (n - (1 + q)) cb _ rfl hbb.ints.1 (.inl (by omega)) (by omega) (by have := hb4.size; have := hb5.size; simp at *; omega) ?_
  intro g6 c6 w6 hO6 hg6 hw6
  refine hS9.out _ _ trivial (fun _ => ?_)
  clear hS9 K9
  try simp only [Act.put, List.setIfInBounds_toArray, List.set_cons_zero, List.set_cons_succ]
  refine seq_take (v := ?_) rfl (by rfl) ?_ ?_
  rotate_left
  · intro w9 hSw; (go_simp <;> with_reducible rfl)
  try simp only [Act.put, List.setIfInBounds_toArray, List.set_cons_zero, List.set_cons_succ]
  refine seq_done ?_
  have hd : w3.drew.heap.size = w3.heap.size := by simp
  have hb34 : Below w3.heap.size w3 w4 := ((Below.refl w3.heap.size w3).drew).trans (hd ▸ hb4)
  have hb35 : Below w3.heap.size w3 w5 := hb34.trans (hb5.mono hb34.size)
  have hb36 : Below w3.heap.size w3 w6 := hb35.trans (below_grew hg6 (fun g e => by have := ha.lt; simp [Value.ownBlock] at e; omega) (by have := hb35.size; omega))
  have i6 : Ints w6 (some ⟨g6, 0, none⟩) n (prtL (1 + q) ys) := by
    have := hO6.ints.1
    rwa [show 1 + q + (n - (1 + q)) = n by omega] at this
  replace i2 := i2.below hb36
  replace hbw := hbw.trans (hb36.mono hbw.size)
  clear hO6 hg6 hw6 ha ha5 hbb hb4 hb5 hb34 hb35 hb36 j1 j2 j2b i3
  rw [show 1 + q + (n - (1 + q)) = n by omega]
  go_wp2_with fail
  refine (kr _ _ _ _ blA i6 hyo).mono ?_
  rintro _ w7 ⟨A7, n7, c7, rfl, i7, _, hb7⟩
  replace i2 : Ints w7 A2 n2' r1 := Ints.below intsA hb7
  replace i6 : Ints w7 (some ⟨g6, 0, none⟩) n (prtL (1 + q) ys) := Ints.below intsA hb7
  replace hbw : Below w.heap.size w w7 := blA
  clear hb7
  obtain rfl : n = n7 := by rw [← i7.1, hRl _ hyl]
  have kgo := fun W (hb : Below w7.heap.size w7 W) => rordered_any A7 n c7 _ W (i7.below hb) (by omega)
  rcases hR with ⟨rfl, rfl, hg⟩ | ⟨hrl, rfl, hro, hr1, hr2, hr3⟩
  · rw [hg] at kgo
    rw [hso hg] at i7
    obtain rfl : 0 = n2' := i2.1
    go_wp2_with fail
    refine (kgo _ (Below.refl _ _)).mono ?_
    rintro e w8 ⟨rfl, hb8⟩
    clear kgo
    try clear i2
    replace i6 : Ints w8 (some ⟨g6, 0, none⟩) n (prtL (1 + q) ys) := Ints.below intsA hb8
    replace i7 : Ints w8 A7 n (srtL (prtL (1 + q) ys)) := Ints.below intsA hb8
    replace hbw : Below w.heap.size w w8 := blA
    clear hb8
    go_wp2_with fail
    refine (ks _ _ _ _ _ (by omega) (by omega) i6).mono ?_
    rintro e w9 ⟨g9, c9, rfl, h9, hb9⟩
    have i9 := h9.ints.1
    clear h9
    try clear i2
    try clear i6
    replace i7 : Ints w9 A7 n (srtL (prtL (1 + q) ys)) := Ints.below intsA hb9
    replace hbw : Below w.heap.size w w9 := blA
    clear hb9
    go_wp2_with fail
    refine (kl _ _ _ _ _ _ _ _ i7 i9 (by omega) (by omega)).mono ?_
    rintro e w10 ⟨rfl, hb10⟩
    try clear i2
    try clear i6
    try clear i7
    try clear i9
    replace hbw : Below w.heap.size w w10 := blA
    clear hb10
    go_wp2_with fail
    refine (kw _ (HT.out.below blA HT.out.1)).mono ?_
    rintro e w11 ⟨rfl, hb11⟩
    try clear i2
    try clear i6
    try clear i7
    try clear i9
    replace hbw : Below w.heap.size w w11 := blA
    clear hb11
    go_wp2_with fail
    go_ret
    exact ⟨rfl, blA⟩
  · obtain rfl : n = n2' := by rw [← i2.1, hrl]
    obtain ⟨b2, o2, rfl, _, _⟩ := i2.2 (by omega)
    clear kgo
    have m1 : (1 + (q : Int)) ≤ (c2 : Int) := by omega
    have m2 : ¬ c2 = 1 + q := by omega
    have m3 : (n : Int) ≤ (c2 : Int) := by omega
    have kg1 := fun W (hb : Below w7.heap.size w7 W) => rordered_any _ _ c2 _ W ((i2.pre (1 + q) (by omega)).below hb) (by omega)
    have kg2 := fun W (hb : Below w7.heap.size w7 W) => rordered_any _ _ (c2 - (1 + q)) _ W ((i2.suf (1 + q) (by omega)).below hb) (by omega)
    rw [hr1] at kg1
    rw [hr2] at kg2
    go_wp2_with fail
    refine (kg1 _ (Below.refl _ _)).mono ?_
    rintro e w8 ⟨rfl, hb8⟩
    have hb78 := hb8
    replace i2 : Ints w8 (some ⟨b2, o2, none⟩) n r1 := Ints.below intsA hb8
    replace hbw : Below w.heap.size w w8 := blA
    clear hb8
    go_wp2_with fail
    refine (kg2 _ hb78).mono ?_
    rintro e w9 ⟨rfl, hb9⟩
    clear kg1 kg2 hb78
    replace i2 : Ints w9 (some ⟨b2, o2, none⟩) n r1 := Ints.below intsA hb9
    replace hbw : Below w.heap.size w w9 := blA
    clear hb9
    go_wp2_with fail
    refine (kr _ _ _ _ blA i2 hro).mono ?_
    rintro _ w10 ⟨A10, n10, c10, rfl, i10, _, hb10⟩
    try clear i2
    replace hbw : Below w.heap.size w w10 := blA
    clear hb10
    obtain rfl : n = n10 := by rw [← i10.1, hRl _ hrl]
    have kg3 := rordered_any A10 n c10 _ w10 i10 (by omega)
    rw [hr3] at kg3
    go_wp2_with fail
    refine kg3.mono ?_
    rintro e w11 ⟨rfl, hb11⟩
    clear kg3 i10
    try clear i2
    replace hbw : Below w.heap.size w w11 := blA
    clear hb11
    go_wp2_with fail
    refine (kw _ (HT.out.below blA HT.out.1)).mono ?_
    rintro e w12 ⟨rfl, hb12⟩
    try clear i2
    replace hbw : Below w.heap.size w w12 := blA
    clear hb12
    go_wp2_with fail
    go_ret
    exact ⟨rfl, blA⟩

set_option maxRecDepth 100000 in
set_option maxHeartbeats 4000000 in
theorem benchMerged_any (l : Int) (A B : Option Addr) (m C k D : Nat) (zs : List (Int × Int)) (bs : List Int) (bst : Int) (w : World) (hz : Prs w A m zs) (hm : m ≤ 9223372036854775807) (hC : m ≤ C) (hy : U32s w B k bs) (hk : k ≤ 9223372036854775807) (hb0 : 0 ≤ bst) (hb1 : bst ≤ 255) (hT : TabW w) :
    Calls Tryd.prog 6 #[.int .i64 l, .slice A m C, .slice B k D, .int .u8 bst] w fun e w' => e = .returned (.bool true) ∧ Below w.heap.size w w' := by
  have kw := fun W hT => works_any W hT
  have HT := Lib.hid hT
  have kf := fun (W : World) (hb : Below w.heap.size w W) => fine_any l A m C zs W (hz.below hb) hm
  by_cases h0 : chkP l zs = 0
  · rw [show fineP l zs = true by unfold fineP; simp [h0]] at kf
    by_cases h20 : 20 < k
    · have h2 : (20 : Int) < (k : Int) := by omega
      clear hz hy hT h0
      go_enter Tryd.func6, Tryd.ntmps6
      go_wp2_with fail
      refine (kf _ blA).mono ?_
      rintro e w1 ⟨rfl, hb1⟩
      replace hbw : Below w.heap.size w w1 := blA
      clear hb1
      go_wp2_with fail
      refine (kw _ (HT.out.below blA HT.out.1)).mono ?_
      rintro e w2 ⟨rfl, hb2⟩
      replace hbw : Below w.heap.size w w2 := blA
      clear hb2
      go_wp2_with fail
      go_ret
      exact ⟨rfl, blA⟩
    · obtain ⟨n, p, rfl, n2, n12, rfl, hp, hpl⟩ := chk_ok h0
      have hml := hz.1
      rw [cst_len] at hml
      obtain ⟨b, rfl⟩ := Int.eq_ofNat_of_zero_le hb0
      exact merged_main A B n (b % (n - 1)) m C k D p bs _ w hz (by omega) hC hy (by omega) n2 n12 hp (by have := Nat.mod_lt b (show 0 < n - 1 by omega); omega) (by rw [Int.tmod_eq_emod_of_nonneg hb0, show (n : Int) - 1 = ((n - 1 : Nat) : Int) by omega]; rfl) hb0 hb1 hT
  · rw [show fineP l zs = false by unfold fineP; simp [h0]] at kf
    clear hz hy hT h0
    go_enter Tryd.func6, Tryd.ntmps6
    go_wp2_with fail
    refine (kf _ blA).mono ?_
    rintro e w1 ⟨rfl, hb1⟩
    replace hbw : Below w.heap.size w w1 := blA
    clear hb1
    go_wp2_with fail
    refine (kw _ (HT.out.below blA HT.out.1)).mono ?_
    rintro e w2 ⟨rfl, hb2⟩
    replace hbw : Below w.heap.size w w2 := blA
    clear hb2
    go_wp2_with fail
    go_ret
    exact ⟨rfl, blA⟩

end Go.Proofs.YtmddpjlpbmfbgaaDoor
end

/- BenchMerged: the call answers true, whatever the input, and every argument reads as it did. Conditions: none of its own; the listed variable is tied to the program's text by the given tie. -/
section
namespace Go.Proofs.YtmddpjlpbmfbgaaDoor
open Go.ChangeShapes Go.WideShapes Go.ChangeAt Go.RowKit
set_option linter.unusedVariables false

theorem benchMerged_params : (Tryd.f6.params.toList.all fun t => Tryd.prog.readableRec t && decide (t < Tryd.prog.types.size)) = true := by kernel_rfl

set_option maxRecDepth 100000 in
/-- the walk, for each argument that there is and each world that holds the listed variable -/
theorem benchMerged_contract (H : Type) (enc : TypeId × Value → H) (W : World) (base : Nat) (args : Array Value) (ds gs : List (DataW H)) (before : List MemPlace)
    (hval : ∀ (j : Nat) t v, Tryd.f6.params[j]? = some t → args[j]? = some v → Value.okWide Tryd.prog W .any base t v)
    (hW : DataW.Whole enc Tryd.prog Tryd.f6.params.toList Rows.benchMergedSpec.vars false W args.toList ds gs before) (hL : laidMetH Tryd.prog Rows.benchMergedRow.laid W) :
    Calls Tryd.prog 6 args W fun e W' => ∃ v, e = .returned v ∧ Rows.benchMergedSpec.post enc Tryd.prog Tryd.f6 false true false false W args v W' := by
  have hW' := hW
  obtain ⟨p, q, hA0, hV, hps, hfz, hnd⟩ := hW
  have hA : DataW.TrodAll enc Tryd.prog W 0 (fun _ => true) true Tryd.f6.params.toList args.toList ds p := hA0
  rw [Tryd.params6] at hA hval
  obtain ⟨v0, v1, v2, v3, d0, d1, d2, d3, p0, p1, p2, p3, rfl, rfl, rfl, h0, h1, h2, h3⟩ := trodAll_four_ hA
  have hf := tabAt hL
  obtain ⟨n0, rfl, _, _, w0⟩ := open_int Tryd.underlying3 (hval 0 3 v0 rfl rfl) h0
  have bd0 := bounds_i64 w0
  obtain ⟨A1, n1, cap1, zs1, rfl, hz1, hn1, hc1⟩ := arg_prs (hval 1 22 v1 rfl rfl) h1
  obtain ⟨A2, n2, cap2, zs2, rfl, hz2, hn2⟩ := arg_u32s (hval 2 36 v2 rfl rfl) h2
  obtain ⟨n3, rfl, _, _, w3⟩ := open_int Tryd.underlying5 (hval 3 5 v3 rfl rfl) h3
  have bd3 := bounds_u8 w3
  clear hA0
  refine (benchMerged_any n0 A1 A2 n1 cap1 n2 cap2 zs1 zs2 n3 W hz1 hn1 hc1 hz2 hn2 bd3.1 bd3.2 hf).mono fun e W' ⟨he, hb⟩ => ?_
  subst he
  exact ⟨_, rfl, law_done laidOut rfl (fun t ht => by have := List.all_eq_true.1 benchMerged_params t ht; simpa using this) (by kernel_rfl) Tryd.underlying4 hW' (fun h => by subst h; rfl) (fun h => by subst h; rfl) (fun h => by subst h; rfl) hb⟩

theorem benchMerged_laid_met (os : Os) : laidMet Tryd.prog Rows.benchMergedRow.laid ((laidWorld os).forCall (fun _ _ => 0) ⟨#[], #[.int .i64 0, .slice none 0 0, .slice none 0 0, .int .u8 0], []⟩).memory :=
  laidMet_of_run' 8 (by kernel_rfl) (by kernel_rfl)
theorem benchMerged_reads (os : Os) {H : Type} (enc : TypeId × Value → H) : ∃ places, DataW.whole enc Tryd.prog ((laidWorld os).forCall (fun _ _ => 0) ⟨#[], #[.int .i64 0, .slice none 0 0, .slice none 0 0, .int .u8 0], []⟩).memory Tryd.f6.params.toList Rows.benchMergedSpec.vars false (#[.int .i64 0, .slice none 0 0, .slice none 0 0, .int .u8 0] : Array Value).toList 8 = some ([.lit (.int .i64 0), .nil, .nil, .lit (.int .u8 0)], [], places) :=
  ⟨[], by kernel_rfl⟩

set_option maxRecDepth 100000 in
theorem benchMerged_lifted (os : Os) (started : os.Started) (H : Type) (enc : TypeId × Value → H) (F : Stop.Interp) :
    ReturnsInHanded {} Tryd.checked os 6 .any ((OpenSpec.ofChange Rows.benchMergedSpec).preRow enc Tryd.prog Tryd.f6 Rows.benchMergedRow.domain false Rows.benchMergedRow.laid) (((OpenSpec.ofChange Rows.benchMergedSpec).at F).post enc Tryd.prog Tryd.f6 false true false false) := by
  obtain ⟨places, hx⟩ := benchMerged_reads os enc
  refine returnsInHanded_of_row (C := Tryd.checked) (s := OpenSpec.ofChange Rows.benchMergedSpec) own started (by kernel_rfl) Tryd.func6
    (witness_row_at (enc := enc) (C := Tryd.checked) false (laidWorld os) #[.int .i64 0, .slice none 0 0, .slice none 0 0, .int .u8 0] rfl (by kernel_rfl) (by kernel_rfl) (by kernel_rfl)
      (OpenSpec.preRow_of_cond 8 hx (by kernel_rfl) (fun k hk => by cases hk) (by kernel_rfl) (benchMerged_laid_met os))) ?_
  intro W base args ds gs before hval hW _ _ _ hL _ _
  exact benchMerged_contract H enc W base args ds gs before hval hW hL

theorem benchMerged_said : Rows.BenchMergedSaid :=
  OpenClaim.holds_of_cond 6 Tryd.f6 rfl rfl rfl rfl rfl rfl rfl ⟨rfl, rfl, rfl, rfl, rfl⟩ rfl rfl rfl rfl rfl (by kernel_rfl) Tryd.func6 (by kernel_rfl)
    (of_decide_eq_true (by kernel_rfl)) (by unfold Func.isWrapper; first | (rw [if_pos (by decide +kernel)]; kernel_rfl) | (rw [if_neg (by decide +kernel)]; exact ⟨rfl, rfl⟩))
    (fun os started H enc _ F => by rw [OpenClaim.pre_eq_preRow]; exact benchMerged_lifted os started H enc F)

theorem benchMerged_plain (f : FuncId) (fn : Func) (hf : Tryd.pinned.checked.prog.funcNamed Rows.benchMergedRow.func = some f) (hfn : Tryd.pinned.checked.prog.funcs[f]? = some fn) :
    false = Tryd.pinned.checked.prog.looks [] ∧ ∀ (j : Nat) t, fn.params[j]? = some t → Tryd.pinned.checked.prog.wantsStandIn t = false := by
  obtain rfl : f = 6 := Option.some.inj ((show Tryd.prog.funcNamed Rows.benchMergedRow.func = some 6 by kernel_rfl).symm.trans hf) |>.symm
  obtain rfl : fn = Tryd.f6 := (Option.some.inj (Tryd.func6.symm.trans hfn)).symm
  refine ⟨by kernel_rfl, fun j t ht => ?_⟩
  have hall : (Tryd.f6.params.toList.all fun u => !Tryd.prog.wantsStandIn u) = true := by kernel_rfl
  have hm : t ∈ Tryd.f6.params.toList := by simpa using Array.mem_of_getElem? ht
  exact (show Tryd.prog.wantsStandIn t = false by simpa using List.all_eq_true.1 hall t hm)

/-- BenchMerged, the card -/
theorem benchMerged_card : Rows.BenchMergedCardSaid :=
  Claim7.holds_tied_plain_at .later [] _ _ _ _ benchMerged_said (fun _ h => by cases h) (by kernel_rfl) (fun _ h => by cases h) benchMerged_row_tie rfl ⟨rfl, rfl⟩ (by kernel_rfl) rfl benchMerged_plain (by kernel_rfl)
#print axioms benchMerged_card
end Go.Proofs.YtmddpjlpbmfbgaaDoor
end
