/- EG5 EM5 EG6 EG7 -/
import Derived.Test.YtcmllkjgggcghaaEZ15
import Derived.Test.YtcmllkjgggcghaaEZ13
import Derived.Test.YtcmllkjgggcghaaEZ09
import Derived.Test.YtcmllkjgggcghaaEZ11
import Derived.Test.YtcmllkjgggcghaaEZ12
import Derived.Test.YtcmllkjgggcghaaEZ03
import Derived.Deep.RegionHeld3
/- Walks of the reference of layer 10: Sum. -/
section
namespace Go.Proofs.Ytcmllkjgggcghaa
open Go.RowKit Go.Shelf
set_option linter.unusedSimpArgs false
set_option linter.unusedVariables false

/-- the sum of what the outcomes of a set have -/
def sumL (g : Nat → Int) (ks : List Int) : Int := (ks.map fun k => g k.toNat).sum
theorem sumL_take {g : Nat → Int} {ks : List Int} {j : Nat} (hj : j < ks.length) : sumL g (ks.take (j + 1)) = sumL g (ks.take j) + g (ks.getD j 0).toNat := by
  unfold sumL
  rw [List.take_add_one, List.getElem?_eq_getElem hj, List.getD_eq_getElem?_getD, List.getElem?_eq_getElem hj]
  rw [List.map_append, List.sum_append]
  simp
theorem sumL_bd {g : Nat → Int} {m : Nat} {ks : List Int} (hs : SetOk m ks) (hg : ∀ k, k < m → 0 ≤ g k ∧ g k ≤ 64000000) : ∀ j, j ≤ ks.length → 0 ≤ sumL g (ks.take j) ∧ sumL g (ks.take j) ≤ j * 64000000
  | 0, _ => by simp [sumL]
  | j + 1, hj => by
    obtain ⟨h1, h2⟩ := sumL_bd hs hg j (by omega)
    obtain ⟨r1, r2⟩ := hs.rng j (by omega)
    obtain ⟨g1, g2⟩ := hg (ks.getD j 0).toNat (by omega)
    rw [sumL_take (by omega)]
    omega

/-- what Sum answers -/
def sumP (zs : List Pl) (n : Nat) (ks : List Int) : (Int × Int) × Int :=
  if rsetP zs ks ≠ 0 then ((0, 0), rsetP zs ks) else ((sumL (ocG zs n) ks, sumL (ocE zs n) ks), 0)

set_option maxHeartbeats 1000000 in
theorem rsum_err (A B : Option Addr) (n c N C : Nat) (zs : List Pl) (ks : List Int) (w : World) (hz : Plates w A n zs) (hn : n ≤ 9223372036854775807) (hk : Ints w B N ks) (hN : N ≤ 9223372036854775807) (hs : rsetP zs ks ≠ 0) :
    Calls Try.prog 39 #[.slice A n c, .slice B N C] w fun e w' => e = RetOE ((0, 0), rsetP zs ks) ∧ Below w.heap.size w w' := by
  have k1 := fun (W : World) (hb : Below w.heap.size w W) => rset_any A B n c N C zs ks W (hz.below hb) hn (hk.below hb) hN
  have h0 : (rsetP zs ks == 0) = false := by simp [hs]
  have h1 : (rsetP zs ks != 0) = true := by simp [hs]
  unfold RetI at k1
  unfold RetOE
  generalize rsetP zs ks = e at *
  clear hs hz hk
  go_enter Try.func39, Try.ntmps39
  go_wp2_with fail
  refine (k1 _ blA).mono ?_
  rintro e w1 ⟨rfl, hb1⟩
  replace B0 : Cs w1 (w.heap.size) #[.int .i64 0, .int .i64 0] := Cs.keep csA hb1
  replace hbw : Below w.heap.size w w1 := blA
  replace cB0 := B0.c
  replace fB0 := B0.f
  replace lB0 := B0.lt
  clear hb1
  go_wp2_with fail
  refine (k1 _ blA).mono ?_
  rintro e w2 ⟨rfl, hb2⟩
  replace B0 : Cs w2 (w.heap.size) #[.int .i64 0, .int .i64 0] := Cs.keep csA hb2
  replace hbw : Below w.heap.size w w2 := blA
  replace cB0 := B0.c
  replace fB0 := B0.f
  replace lB0 := B0.lt
  clear hb2
  go_wp2_with fail
  have F0 := B0.set2 (.int .i64 0) (.int .i64 0)
  have cF := F0.c
  have hbF := bset2 hbw (Nat.le_refl w.heap.size) (.int .i64 0) (.int .i64 0)
  exact bodyPost_ret (v := .tuple #[.agg #[.int .i64 0, .int .i64 0], .int .i64 e]) (by simp [results, Try.results39, go_sem, cB0, fB0, lB0, cF]) rfl ⟨rfl, hbF⟩

set_option maxRecDepth 10000 in
set_option maxHeartbeats 2000000 in
theorem rsum_ok (A B : Option Addr) (n c N C : Nat) (zs : List Pl) (ks : List Int) (w : World) (hz : Plates w A n zs) (hn : n ≤ 6) (hk : Ints w B N ks) (ht : testE zs = 0) (hs : setE (manyT zs) ks = 0) :
    Calls Try.prog 39 #[.slice A n c, .slice B N C] w fun e w' => e = RetOE ((sumL (ocG zs n) ks, sumL (ocE zs n) ks), 0) ∧ Below w.heap.size w w' := by
  obtain ⟨t1, t2, hg⟩ := testE_ok ht
  have hso := setE_ok hs
  have hM2 := many_le hz.1 hn hg
  have hkl := hk.1
  have hNn : N ≤ 4096 := by have := hso.len; omega
  have k1 := fun (W : World) (hb : Below w.heap.size w W) => rset_any A B n c N C zs ks W (hz.below hb) (by omega) (hk.below hb) (by omega)
  rw [show rsetP zs ks = 0 by simp [rsetP, ht, hs]] at k1
  have kf := fun (W : World) (k : Nat) (hb : Below w.heap.size w W) (hk : k < manyT zs) => of10_any A n c k zs W (hz.below hb) hn hg (by rw [mt_all hz.1]; exact hk) (by omega)
  have hbd := fun k hk => oc_bd (N := k) hz.1 hg hz.2.2 hn hk
  have HbG := Lib.hid (sumL_bd (g := ocG zs n) hso (fun k hk => ⟨(hbd k hk).1, (hbd k hk).2.1⟩))
  have HbE := Lib.hid (sumL_bd (g := ocE zs n) hso (fun k hk => ⟨(hbd k hk).2.2.1, (hbd k hk).2.2.2⟩))
  have Hb := Lib.hid hbd
  have Hk := Lib.hid hk
  have Hkf := Lib.hid kf
  have Hso := Lib.hid hso
  unfold RetI at k1
  unfold RetOE
  generalize hM : manyT zs = M at *
  clear hz hg ht t1 t2 hk hs hso kf hM hbd
  go_enter Try.func39, Try.ntmps39
  go_wp2_with fail
  refine (k1 _ blA).mono ?_
  rintro e w1 ⟨rfl, hb1⟩
  replace B0 : Cs w1 (w.heap.size) #[.int .i64 0, .int .i64 0] := Cs.keep csA hb1
  replace hbw : Below w.heap.size w w1 := blA
  replace cB0 := B0.c
  replace fB0 := B0.f
  replace lB0 := B0.lt
  clear hb1
  clear k1
  go_wp2_with fail
  have hs1 : w.heap.size < w1.heap.size := B0.lt
  generalize hg6 : w1.heap.size = g6 at *
  go_loopw [7] (fun s7 wx => ∃ (j : Nat) (x y : Int) (W : World), j ≤ N ∧ s7 = .int .i64 (j : Nat) ∧ Hid (W = wx) ∧ Hid (x = sumL (ocG zs n) (ks.take j)) ∧ Hid (y = sumL (ocE zs n) (ks.take j)) ∧ Cs W w.heap.size #[.int .i64 0, .int .i64 0] ∧ Cs W g6 #[.int .i64 x, .int .i64 y] ∧ Below w.heap.size w W) (fun s7 _ => N - (intOf s7).toNat)
  case atStart => exact ⟨0, 0, 0, _, Nat.zero_le _, rfl, Lib.hid rfl, Lib.hid (by simp [sumL]), Lib.hid (by simp [sumL]), csA, Cs.new _ _ _ _ hg6, blA⟩
  case round =>
    clear hbw B0 cB0 fB0 lB0 hg6
    obtain ⟨j, x, y, W, hj, rfl, HW, Hx, Hy, B0, B6, hbw⟩ := hrel
    obtain rfl := HW.out
    clear HW
    by_cases hjn : j < N
    · have hjI : (j : Int) < (N : Int) := by omega
      have i0 : (0 : Int) ≤ (j : Int) := by omega
      obtain ⟨b, off, rfl, hb, hc⟩ := Hk.out.2 (by omega)
      obtain ⟨r1, r2⟩ := Hso.out.rng j (by omega)
      have hx := (hbw.cell (p := ⟨b, off + j, none⟩) hb).trans (hc j hjn)
      have Hx2 : Hid (x + ocG zs n (ks.getD j 0).toNat = sumL (ocG zs n) (ks.take (j + 1))) := Lib.hid (by rw [sumL_take (by omega), Hx.out])
      have Hy2 : Hid (y + ocE zs n (ks.getD j 0).toNat = sumL (ocE zs n) (ks.take (j + 1))) := Lib.hid (by rw [sumL_take (by omega), Hy.out])
      obtain ⟨u1, u2⟩ := HbG.out (j + 1) (by omega)
      obtain ⟨u3, u4⟩ := HbE.out (j + 1) (by omega)
      rw [← Hx2.out] at u1 u2
      rw [← Hy2.out] at u3 u4
      obtain ⟨k, hk⟩ : ∃ k : Nat, (ks.getD j 0).toNat = k := ⟨_, rfl⟩
      have hkk : ks.getD j 0 = (k : Int) := by omega
      rw [hk] at Hx2 Hy2 u1 u2 u3 u4
      rw [hkk] at hx
      have kf1 := Hkf.out W k hbw (by omega)
      rw [show oddG zs (digs zs n k) n = ocG zs n k from rfl, show oddE zs (digs zs n k) n = ocE zs n k from rfl] at kf1
      clear hc hk hkk r1 r2 Hx Hy
      generalize ocG zs n k = oG at *
      generalize ocE zs n k = oE at *
      have f1 : IntKind.i64.wrap (x + oG) = x + oG := IntWalk.i64_in _ (by omega)
      have f2 : IntKind.i64.wrap (y + oE) = y + oE := IntWalk.i64_in _ (by omega)
      go_wp2_with fail
      refine kf1.mono ?_
      rintro _ w3 ⟨rfl, hb3⟩
      have D0 : Cs w3 w.heap.size #[.int .i64 0, .int .i64 0] := Cs.keep csA hb3
      have D6 : Cs w3 g6 #[.int .i64 x, .int .i64 y] := Cs.keep csA hb3
      have hbw3 : Below w.heap.size w w3 := blA
      have hne : g6 ≠ w3.heap.size := by have := D6.lt; omega
      clear hb3 kf1 B0 B6 hbw
      have cD6 := D6.c
      have fD6 := D6.f
      have lD6 := D6.lt
      have K6 := (D6.set2 (.int .i64 (x + oG)) (.int .i64 (y + oE)))
      have K0 := (D0.other2 (g' := g6) (by omega) (.int .i64 (x + oG)) (.int .i64 (y + oE)))
      have hbK := bset2 hbw3 (g := g6) (by omega) (.int .i64 (x + oG)) (.int .i64 (y + oE))
      have HK := Lib.hid (And.intro K6 (And.intro K0 hbK))
      clear K6 K0 hbK
      go_wp2_with fail
      go_roundw
      case rel => exact ⟨j + 1, x + oG, y + oE, _, by omega, by go_num, Lib.hid rfl, Hx2, Hy2, (by first | exact HK.out.2.1 | exact HK.out.2.1.alloc _), (by first | exact HK.out.1 | exact HK.out.1.alloc _), (by first | exact HK.out.2.2 | exact balloc HK.out.2.2 _)⟩
      case measure => simp [intOf]; omega
    · obtain rfl : j = N := by omega
      have Hx2 : Hid (sumL (ocG zs n) ks = x) := Lib.hid (by rw [Hx.out, List.take_of_length_le (by omega)])
      have Hy2 : Hid (sumL (ocE zs n) ks = y) := Lib.hid (by rw [Hy.out, List.take_of_length_le (by omega)])
      clear Hx Hy
      have cB0 := B0.c
      have fB0 := B0.f
      have lB0 := B0.lt
      have cB6 := B6.c
      have fB6 := B6.f
      have lB6 := B6.lt
      go_wp2_with fail
      have F0 := B0.set2 (.int .i64 x) (.int .i64 y)
      have cF := F0.c
      have hbF := bset2 hbw (Nat.le_refl w.heap.size) (.int .i64 x) (.int .i64 y)
      exact bodyPost_ret (v := .tuple #[.agg #[.int .i64 x, .int .i64 y], .int .i64 0]) (by simp [results, Try.results39, go_sem, cB0, fB0, lB0, cF]) rfl ⟨by rw [Hx2.out, Hy2.out], hbF⟩

theorem rsum_any (A B : Option Addr) (n c N C : Nat) (zs : List Pl) (ks : List Int) (w : World) (hz : Plates w A n zs) (hn : n ≤ 9223372036854775807) (hk : Ints w B N ks) (hN : N ≤ 9223372036854775807) :
    Calls Try.prog 39 #[.slice A n c, .slice B N C] w fun e w' => e = RetOE (sumP zs n ks) ∧ Below w.heap.size w w' := by
  by_cases hs : rsetP zs ks = 0
  · rw [show sumP zs n ks = ((sumL (ocG zs n) ks, sumL (ocE zs n) ks), 0) by simp [sumP, hs]]
    by_cases ht : testE zs = 0
    · have hl := hz.1
      obtain ⟨t1, t2, _⟩ := testE_ok ht
      exact rsum_ok A B n c N C zs ks w hz (by omega) hk ht (by simpa [rsetP, ht] using hs)
    · exact absurd hs (by simp [rsetP, ht])
  · rw [show sumP zs n ks = ((0, 0), rsetP zs ks) by simp [sumP, hs]]
    exact rsum_err A B n c N C zs ks w hz hn hk hN hs

end Go.Proofs.Ytcmllkjgggcghaa
end

/- Plain laws: a region is a valid set; its Guess. -/
section
namespace Go.Proofs.Ytcmllkjgggcghaa
set_option linter.unusedSimpArgs false
set_option linter.unusedVariables false

theorem getD_app1 {l : List Int} {x : Int} {i : Nat} (h : i < l.length) : (l ++ [x]).getD i 0 = l.getD i 0 := by
  rw [List.getD_eq_getElem?_getD, List.getElem?_append_left h, List.getD_eq_getElem?_getD]
theorem getD_app2 {l : List Int} {x : Int} : (l ++ [x]).getD l.length 0 = x := by
  rw [List.getD_eq_getElem?_getD]; simp

theorem regL_in (zs : List Pl) (n : Nat) (t : Int × Int) : ∀ k, (∀ i, i < (regL zs n t k).length → 0 ≤ (regL zs n t k).getD i 0 ∧ (regL zs n t k).getD i 0 < (k : Int)) ∧ (∀ i, i + 1 < (regL zs n t k).length → (regL zs n t k).getD i 0 < (regL zs n t k).getD (i + 1) 0)
  | 0 => ⟨fun i hi => by simp [regL] at hi, fun i hi => by simp [regL] at hi⟩
  | k + 1 => by
    obtain ⟨h1, h2⟩ := regL_in zs n t k
    rw [regL]
    split
    · refine ⟨fun i hi => ?_, fun i hi => ?_⟩
      · rw [List.length_append, List.length_singleton] at hi
        by_cases e : i < (regL zs n t k).length
        · rw [getD_app1 e]; have := h1 i e; omega
        · obtain rfl : i = (regL zs n t k).length := by omega
          rw [getD_app2]; omega
      · rw [List.length_append, List.length_singleton] at hi
        rw [getD_app1 (by omega)]
        by_cases e : i + 1 < (regL zs n t k).length
        · rw [getD_app1 e]; exact h2 i e
        · have e2 : i + 1 = (regL zs n t k).length := by omega
          rw [e2, getD_app2]
          exact (h1 i (by omega)).2
    · exact ⟨fun i hi => by have := h1 i hi; omega, h2⟩

theorem regL_set (zs : List Pl) (n : Nat) (t : Int × Int) (M : Nat) : setE M (regL zs n t M) = 0 := by
  obtain ⟨h1, h2⟩ := regL_in zs n t M
  refine setE_fine (by have := regL_le zs n t M; omega) (fun i hi => ?_) h2
  have := h1 i hi
  unfold outK
  simp only [Bool.or_eq_false_iff, decide_eq_false_iff_not]
  omega

theorem sumL_reg (zs : List Pl) (n : Nat) (t : Int × Int) (f : Nat → Int) : ∀ k, sumL f (regL zs n t k) = sumIf f (above (ocG zs n) (ocE zs n) t) k
  | 0 => by simp [regL, sumL, sumIf]
  | k + 1 => by
    rw [regL, sumIf, ← sumL_reg zs n t f k]
    split
    · simp [sumL]
    · simp

end Go.Proofs.Ytcmllkjgggcghaa
end

/- Walks of the reference of layer 10: Best. -/
section
namespace Go.Proofs.Ytcmllkjgggcghaa
open Go.RowKit Go.Shelf
open Em (red)
set_option linter.unusedSimpArgs false
set_option linter.unusedVariables false

theorem lfK_max {g e : Nat → Int} : ∀ k, (∃ r, lfK g e k r = true) → ∃ t, lfK g e k t = true ∧ ∀ r, lfK g e k r = true → ¬ lt t r
  | 0, ⟨r, h⟩ => by simp [lfK] at h
  | k + 1, ⟨r, h⟩ => by
    by_cases hl : live g e k = true
    · have hk : lfK g e (k + 1) (key g e k) = true := by rw [lfK_succ, hl]; simp
      by_cases hex : ∃ r, lfK g e k r = true
      · obtain ⟨t, h1, h2⟩ := lfK_max k hex
        have h1' : lfK g e (k + 1) t = true := by rw [lfK_succ, h1]; rfl
        have rdt : Rd t := by obtain ⟨j, _, hj, rfl⟩ := lfK_iff.1 h1; exact key_rd hj
        by_cases hlt : lt t (key g e k)
        · refine ⟨key g e k, hk, fun r hr => ?_⟩
          rw [lfK_succ, hl] at hr
          simp only [Bool.true_and, Bool.or_eq_true, decide_eq_true_eq] at hr
          rcases hr with hr | hr
          · intro h3
            have rdr : Rd r := by obtain ⟨j, _, hj, rfl⟩ := lfK_iff.1 hr; exact key_rd hj
            exact h2 r hr (lt_trans' rdt.d (key_rd hl).d rdr.d hlt h3)
          · rw [← hr]; exact lt_irrefl'
        · refine ⟨t, h1', fun r hr => ?_⟩
          rw [lfK_succ, hl] at hr
          simp only [Bool.true_and, Bool.or_eq_true, decide_eq_true_eq] at hr
          rcases hr with hr | hr
          · exact h2 r hr
          · rw [← hr]; exact hlt
      · refine ⟨key g e k, hk, fun r hr => ?_⟩
        rw [lfK_succ, hl] at hr
        simp only [Bool.true_and, Bool.or_eq_true, decide_eq_true_eq] at hr
        rcases hr with hr | hr
        · exact absurd ⟨r, hr⟩ hex
        · rw [← hr]; exact lt_irrefl'
    · have e : ∀ r, lfK g e (k + 1) r = lfK g e k r := fun r => by rw [lfK_succ, show live g e k = false by simpa using hl]; simp
      rw [e] at h
      obtain ⟨t, h1, h2⟩ := lfK_max k ⟨r, h⟩
      exact ⟨t, by rw [e]; exact h1, fun r hr => h2 r (by rw [← e]; exact hr)⟩

theorem sumIf_pos {g : Nat → Int} {p : Nat → Bool} : ∀ k, 0 < sumIf g p k → ∃ i, i < k ∧ p i = true ∧ 0 < g i
  | 0, h => by simp [sumIf] at h
  | k + 1, h => by
    rw [sumIf] at h
    by_cases hp : p k = true ∧ 0 < g k
    · exact ⟨k, by omega, hp.1, hp.2⟩
    · have : 0 < sumIf g p k := by
        by_cases h1 : p k = true
        · rw [if_pos h1] at h
          have : ¬ 0 < g k := fun h2 => hp ⟨h1, h2⟩
          omega
        · rw [if_neg h1] at h; omega
      obtain ⟨i, h1, h2, h3⟩ := sumIf_pos k this
      exact ⟨i, by omega, h2, h3⟩

/-- how far the trial of all thresholds is -/
def Tried (g e : Nat → Int) (M : Nat) (most : Int) (k : Nat) (found : Bool) (t : Int × Int) : Prop :=
  (found = false ∧ ∀ j, j < k → live g e j = true → most < regG g e M (key g e j)) ∨
  (found = true ∧ ∃ j, j < k ∧ live g e j = true ∧ t = key g e j ∧ regG g e M t ≤ most ∧ ∀ i, i < k → live g e i = true → lt (key g e i) t → most < regG g e M (key g e i))

section
variable {g e : Nat → Int} {M : Nat} {most : Int} {k : Nat} {found : Bool} {t : Int × Int}
theorem Tried.skip (h : Tried g e M most k found t) (hl : live g e k = false) : Tried g e M most (k + 1) found t := by
  rcases h with ⟨h1, h2⟩ | ⟨h1, j, h2, h3, h4, h5, h6⟩
  · refine .inl ⟨h1, fun i hi hli => ?_⟩
    by_cases e : i = k
    · rw [e, hl] at hli; cases hli
    · exact h2 i (by omega) hli
  · refine .inr ⟨h1, j, by omega, h3, h4, h5, fun i hi hli hlt => ?_⟩
    by_cases e : i = k
    · rw [e, hl] at hli; cases hli
    · exact h6 i (by omega) hli hlt
theorem Tried.stay (h : Tried g e M most k true t) (hl : ¬ lt (key g e k) t) : Tried g e M most (k + 1) true t := by
  rcases h with ⟨h1, _⟩ | ⟨h1, j, h2, h3, h4, h5, h6⟩
  · cases h1
  · refine .inr ⟨h1, j, by omega, h3, h4, h5, fun i hi hli hlt => ?_⟩
    by_cases e : i = k
    · rw [e] at hlt; exact absurd hlt hl
    · exact h6 i (by omega) hli hlt
theorem Tried.more (h : Tried g e M most k found t) (hm : most < regG g e M (key g e k)) : Tried g e M most (k + 1) found t := by
  rcases h with ⟨h1, h2⟩ | ⟨h1, j, h2, h3, h4, h5, h6⟩
  · refine .inl ⟨h1, fun i hi hli => ?_⟩
    by_cases e : i = k
    · rw [e]; exact hm
    · exact h2 i (by omega) hli
  · refine .inr ⟨h1, j, by omega, h3, h4, h5, fun i hi hli hlt => ?_⟩
    by_cases e : i = k
    · rw [e]; exact hm
    · exact h6 i (by omega) hli hlt
theorem Tried.take (h : Tried g e M most k found t) (hl : live g e k = true) (hlt : found = true → lt (key g e k) t) (hm : regG g e M (key g e k) ≤ most) : Tried g e M most (k + 1) true (key g e k) := by
  refine .inr ⟨rfl, k, by omega, hl, rfl, hm, fun i hi hli hit => ?_⟩
  by_cases e : i = k
  · rw [e] at hit; exact absurd hit lt_irrefl'
  · rcases h with ⟨h1, h2⟩ | ⟨h1, j, h2, h3, h4, h5, h6⟩
    · exact h2 i (by omega) hli
    · refine h6 i (by omega) hli ?_
      have h7 := hlt h1
      rw [h4] at h7 ⊢
      exact lt_trans' (key_rd hli).d (key_rd hl).d (key_rd h3).d hit h7
theorem Tried.done (h : Tried g e M most M found t) (hg : ∀ k, k < M → 0 ≤ g k) (hm0 : 0 ≤ most) (h0 : most < regG g e M (0, 1)) : found = true ∧ IsBest g e M most t := by
  rcases h with ⟨h1, h2⟩ | ⟨h1, j, h2, h3, h4, h5, h6⟩
  · exfalso
    obtain ⟨i, hi, hp, hgi⟩ := sumIf_pos M (show 0 < regG g e M (0, 1) by omega)
    have hli : live g e i = true := live_iff.2 ⟨above_zero.1 hp, hgi⟩
    obtain ⟨t, ht1, ht2⟩ := lfK_max (g := g) (e := e) M ⟨key g e i, lfK_iff.2 ⟨i, hi, hli, rfl⟩⟩
    have hS := Search.start (g := g) (e := e) (M := M) (most := most) (lf := lfK g e M) hm0 (fun r => lfK_iff)
    have hr := hS.region hg ht1 ht2
    obtain ⟨j, hj, hlj, rfl⟩ := lfK_iff.1 ht1
    have := h2 j hj hlj
    omega
  · exact ⟨h1, .inr ⟨h0, ⟨j, h2, h3, h4⟩, h5, h6⟩⟩
end

theorem key_bd2 {g e : Nat → Int} {k : Nat} (hg0 : 0 < g k) (he0 : 0 < e k) (hg : g k ≤ 64000000) (he : e k ≤ 64000000) : 1 ≤ (key g e k).1 ∧ (key g e k).1 ≤ 64000000 ∧ 1 ≤ (key g e k).2 ∧ (key g e k).2 ≤ 64000000 := key_bd (live_iff.2 ⟨he0, hg0⟩) hg he

set_option maxRecDepth 100000 in
set_option maxHeartbeats 4000000 in
theorem rbest_ok (A : Option Addr) (n c : Nat) (zs : List Pl) (most : Int) (w : World) (hz : Plates w A n zs) (hn : n ≤ 6) (ht : testE zs = 0) (hm0 : 0 ≤ most) (hm : most ≤ 9223372036854775807) :
    Calls Try.prog 21 #[.slice A n c, .int .i64 most] w fun e w' => ∃ t, IsBest (ocG zs n) (ocE zs n) (manyT zs) most t ∧ RetLRE (regL zs n t (manyT zs)) t 0 w e w' := by
  obtain ⟨t1, t2, hg⟩ := testE_ok ht
  have hM2 := many_le hz.1 hn hg
  have k1 := fun (W : World) (hb : Below w.heap.size w W) => rcheckTest_any A n c zs W (hz.below hb) (by omega)
  rw [ht] at k1
  have km := fun (W : World) (hb : Below w.heap.size w W) => many_same A n c zs W (hz.below hb) hn hg (manyT zs) rfl
  have kf := fun (W : World) (k : Nat) (hb : Below w.heap.size w W) (hk : k < manyT zs) => of10_any A n c k zs W (hz.below hb) hn hg (by rw [mt_all hz.1]; exact hk) (by omega)
  have kr := fun (W : World) (a b : Int) (hb : Below w.heap.size w W) (h : 0 ≤ a ∧ a ≤ 1000000000 ∧ 0 ≤ b ∧ b ≤ 1000000000) => rregion_any A n c zs a b W (hz.below hb) hn hg h.1 h.2.1 h.2.2.1 h.2.2.2
  have ks := fun (W : World) (B : Option Addr) (N C : Nat) (t : Int × Int) (hb : Below w.heap.size w W) (hk : Ints W B N (regL zs n t (manyT zs))) => rsum_ok A B n c N C zs _ W (hz.below hb) hn hk ht (regL_set zs n t _)
  have hreg : ∀ t, sumL (ocG zs n) (regL zs n t (manyT zs)) = regG (ocG zs n) (ocE zs n) (manyT zs) t := fun t => sumL_reg zs n t _ _
  simp only [hreg] at ks
  have Hb := Lib.hid (fun k hk => oc_bd (N := k) hz.1 hg hz.2.2 hn hk)
  have Hkm := Lib.hid km
  have Hkf := Lib.hid kf
  have Hkr := Lib.hid kr
  have Hks := Lib.hid ks
  unfold RetInts at Hkr
  unfold RetOE at Hks
  unfold RetLRE
  clear hz hg ht t1 t2 km kf kr ks hreg
  go_enter Try.func21, Try.ntmps21
  go_wp2_with fail
  refine (k1 _ blA).mono ?_
  rintro e w1 ⟨rfl, hb1⟩
  replace B5 : Cs w1 (w.heap.size) #[.int .i64 0, .int .i64 0] := Cs.keep csA hb1
  replace hbw : Below w.heap.size w w1 := blA
  replace cB5 := B5.c
  replace fB5 := B5.f
  replace lB5 := B5.lt
  clear hb1
  have hs13 : w.heap.size < w1.heap.size := B5.lt
  clear k1
  go_wp2_with fail
  refine (Hkr.out _ 0 1 blA (by omega)).mono ?_
  rintro _ w2 ⟨A2, n2, c2, rfl, h2, hb2, _⟩
  replace B5 : Cs w2 (w.heap.size) #[.int .i64 0, .int .i64 0] := Cs.keep csA hb2
  replace B7 : Cs w2 (w1.heap.size) #[.int .i64 0, .int .i64 1] := Cs.keep csA hb2
  replace hbw : Below w.heap.size w w2 := blA
  replace cB5 := B5.c
  replace fB5 := B5.f
  replace lB5 := B5.lt
  replace cB7 := B7.c
  replace fB7 := B7.f
  replace lB7 := B7.lt
  clear hb2
  go_wp2_with fail
  refine (Hks.out _ _ _ _ (0, 1) blA h2).mono ?_
  rintro _ w3 ⟨rfl, hb3⟩
  replace B5 : Cs w3 (w.heap.size) #[.int .i64 0, .int .i64 0] := Cs.keep csA hb3
  replace B7 : Cs w3 (w1.heap.size) #[.int .i64 0, .int .i64 1] := Cs.keep csA hb3
  replace hbw : Below w.heap.size w w3 := blA
  replace cB5 := B5.c
  replace fB5 := B5.f
  replace lB5 := B5.lt
  replace cB7 := B7.c
  replace fB7 := B7.f
  replace lB7 := B7.lt
  clear hb3
  clear h2
  obtain ⟨s0, hs0⟩ : ∃ s0, regG (ocG zs n) (ocE zs n) (manyT zs) (0, 1) = s0 := ⟨_, rfl⟩
  rw [hs0]
  have Hs0 := Lib.hid hs0
  clear hs0
  generalize sumL (ocE zs n) (regL zs n (0, 1) (manyT zs)) = e0
  by_cases hq : s0 ≤ most
  · have HB := Lib.hid (show IsBest (ocG zs n) (ocE zs n) (manyT zs) most (0, 1) from .inl ⟨rfl, by rw [Hs0.out]; exact hq⟩)
    have hlt5 := B5.lt
    have hlt7 := B7.lt
    go_wp2_with fail
    go_region_held3 (fun w' => w'.cell? ⟨w1.heap.size, 0, none⟩ = some (.int .i64 (0)) ∧ w'.cell? ⟨w1.heap.size, 1, none⟩ = some (.int .i64 (1))) (first | exact ⟨B7.c 0, B7.c 1⟩ | exact ⟨(B7.drew).c 0, (B7.drew).c 1⟩ | exact ⟨L12.c 0, L12.c 1⟩ | exact ⟨(L12b _ _).c 0, (L12b _ _).c 1⟩ | go_keep)
      ((go_at_call 52; refine (Hkr.out _ (0) (1) blA (by omega)).mono ?_; rintro _ w7 ⟨A7, n7, c7, rfl, h7, hb7, hf7⟩; have L12 : Cs w7 (w1.heap.size) #[.int .i64 (0), .int .i64 (1)] := Cs.keep csA hb7; have L12b := fun u v => Cs.other (Cs.other L12 (p := ⟨w.heap.size, 0, none⟩) (by show w1.heap.size ≠ w.heap.size; omega) u) (p := ⟨w.heap.size, 1, none⟩) (by show w1.heap.size ≠ w.heap.size; omega) v; have L5 : Cs w7 w.heap.size #[.int .i64 0, .int .i64 0] := Cs.keep csA hb7; have hbw7 : Below w.heap.size w w7 := blA; have cL5 := L5.c; have fL5 := L5.f; have lL5 := L5.lt))
    go_wp2_with fail
    have T8 : Turns (fun i => i = w.heap.size) w7 ((w7.setCell ⟨w.heap.size, 0, none⟩ (.int .i64 (0))).setCell ⟨w.heap.size, 1, none⟩ (.int .i64 (1))) := turns_set2 (O := fun i => i = w.heap.size) _ _ rfl
    have L8 := L5.set2 (.int .i64 (0)) (.int .i64 (1))
    have h8 := h7.turns T8 (fun b off hp e ho => by have hx := hf7 b off hp e; simp at hx; have ho' : b = w.heap.size := ho; omega)
    have hbF := bset2 hbw7 (Nat.le_refl w.heap.size) (.int .i64 (0)) (.int .i64 (1))
    have cF := L8.c
    exact bodyPost_ret (v := .tuple #[.slice A7 n7 c7, .agg #[.int .i64 (0), .int .i64 (1)], .int .i64 0]) (by simp [results, Try.results21, go_sem, cF]) rfl ⟨(0, 1), HB.out, A7, n7, c7, rfl, h8, hbF⟩
  · have Hq := Lib.hid (show most < regG (ocG zs n) (ocE zs n) (manyT zs) (0, 1) by rw [Hs0.out]; omega)
    go_wp2_with fail
    have hlt5 := B5.lt
    have D11 := Cs.new (w3.alloc (.cells #[.int .i64 s0, .int .i64 e0] 59)) (w3.heap.size + 1) #[.int .i64 0, .int .i64 0] 25 (by simp)
    have D5 := (B5.alloc (.cells #[.int .i64 s0, .int .i64 e0] 59)).alloc (.cells #[.int .i64 0, .int .i64 0] 25)
    have hbD := balloc (balloc hbw (.cells #[.int .i64 s0, .int .i64 e0] 59)) (.cells #[.int .i64 0, .int .i64 0] 25)
    go_loopw [10, 12] (fun s10 s12 wx => ∃ (k : Nat) (f : Bool) (tp tq : Int) (W : World), k ≤ manyT zs ∧ s12 = .int .i64 (k : Nat) ∧ s10 = .bool f ∧ Hid (W = wx) ∧ Hid (Tried (ocG zs n) (ocE zs n) (manyT zs) most k f (tp, tq)) ∧ Hid (f = true → 1 ≤ tp ∧ tp ≤ 64000000 ∧ 1 ≤ tq ∧ tq ≤ 64000000) ∧ Cs W w.heap.size #[.int .i64 0, .int .i64 0] ∧ Cs W (w3.heap.size + 1) #[.int .i64 tp, .int .i64 tq] ∧ Below w.heap.size w W) (fun _ s12 _ => manyT zs - (intOf s12).toNat)
    case atStart => exact ⟨0, false, 0, 0, _, Nat.zero_le _, rfl, rfl, Lib.hid rfl, Lib.hid (.inl ⟨rfl, fun j hj => absurd hj (by omega)⟩), Lib.hid (fun h => by cases h), D5, D11, hbD⟩
    case round =>
      clear D5 D11 hbD B5 B7 cB5 fB5 lB5 cB7 fB7 lB7 hbw
      obtain ⟨k, f, tp, tq, W, hk, rfl, rfl, HW, HT, Htb, D5, D11, hbw⟩ := hrel
      obtain rfl := HW.out
      clear HW
      have km1 := Hkm.out W hbw
      have hlt11 := D11.lt
      by_cases hkM : k < manyT zs
      · have hkI : (k : Int) < (manyT zs : Int) := by omega
        have kf1 := Hkf.out W k hbw hkM
        rw [show oddG zs (digs zs n k) n = ocG zs n k from rfl, show oddE zs (digs zs n k) n = ocE zs n k from rfl] at kf1
        obtain ⟨q1, q2, q3, q4⟩ := Hb.out k hkM
        go_wp2_with fail
        refine km1.mono ?_
        rintro _ wm ⟨rfl, rfl⟩
        go_wp2_with fail
        refine kf1.mono ?_
        rintro _ w4 ⟨rfl, hb4⟩
        have E5 : Cs w4 w.heap.size #[.int .i64 0, .int .i64 0] := Cs.keep csA hb4
        have E11 : Cs w4 (w3.heap.size + 1) #[.int .i64 tp, .int .i64 tq] := Cs.keep csA hb4
        have hbw4 : Below w.heap.size w w4 := blA
        have hlt11' := E11.lt
        clear hb4 km1 kf1 D5 D11 hbw
        by_cases hl : live (ocG zs n) (ocE zs n) k = true
        · obtain ⟨le, lg⟩ := live_iff.1 hl
          have hkb := key_bd hl q2 q4
          have kfr := fun W' => fraction_any (ocE zs n k) (ocG zs n k) W' (by omega) (by omega) (by omega) (by omega)
          rw [show red (ocE zs n k) (ocG zs n k) = key (ocG zs n) (ocE zs n) k from rfl] at kfr
          obtain ⟨⟨kp, kq⟩, hkey⟩ : ∃ r, key (ocG zs n) (ocE zs n) k = r := ⟨_, rfl⟩
          have Hstay : Hid (f = true → ¬ kp * tq < tp * kq → Tried (ocG zs n) (ocE zs n) (manyT zs) most (k + 1) f (tp, tq)) := Lib.hid (fun h h2 => by
            subst h
            exact HT.out.stay (by rw [hkey]; exact h2))
          have Hmore : Hid (most < regG (ocG zs n) (ocE zs n) (manyT zs) (kp, kq) → Tried (ocG zs n) (ocE zs n) (manyT zs) most (k + 1) f (tp, tq)) := Lib.hid (fun h => HT.out.more (by rw [hkey]; exact h))
          have Htake : Hid ((f = true → kp * tq < tp * kq) → regG (ocG zs n) (ocE zs n) (manyT zs) (kp, kq) ≤ most → Tried (ocG zs n) (ocE zs n) (manyT zs) most (k + 1) true (kp, kq)) := Lib.hid (fun h1 h2 => by
            have := HT.out.take hl (by rw [hkey]; exact h1) (by rw [hkey]; exact h2)
            rw [hkey] at this
            exact this)
          rw [hkey] at kfr hkb
          have ne1 : (ocG zs n k == 0) = false := by simp; omega
          have ne2 : (ocE zs n k == 0) = false := by simp; omega
          clear hl hkey HT
          generalize ocG zs n k = oG at *
          generalize ocE zs n k = oE at *
          have kr1 := fun (W' : World) (hb : Below w.heap.size w W') => Hkr.out W' kp kq hb (by omega)
          dsimp only at hkb
          go_wp2_with fail
          refine (kfr _).mono ?_
          rintro _ w5 ⟨rfl, hb5⟩
          have G5 : Cs w5 w.heap.size #[.int .i64 0, .int .i64 0] := Cs.keep csA hb5
          have G11 : Cs w5 (w3.heap.size + 1) #[.int .i64 tp, .int .i64 tq] := Cs.keep csA hb5
          have hbw5 : Below w.heap.size w w5 := blA
          clear hb5 kfr E5 E11 hbw4
          replace G5 := G5.alloc (.cells #[.int .i64 kp, .int .i64 kq] 25)
          replace G11 := G11.alloc (.cells #[.int .i64 kp, .int .i64 kq] 25)
          replace hbw5 := balloc hbw5 (.cells #[.int .i64 kp, .int .i64 kq] 25)
          have G14 : Cs (w5.alloc (.cells #[.int .i64 kp, .int .i64 kq] 25)) w5.heap.size #[.int .i64 kp, .int .i64 kq] := Cs.new _ _ _ _ rfl
          have cG5 := G5.c
          have fG5 := G5.f
          have lG5 := G5.lt
          have cG11 := G11.c
          have fG11 := G11.f
          have lG11 := G11.lt
          have cG14 := G14.c
          have fG14 := G14.f
          have lG14 := G14.lt
          cases f with
          | false =>
            go_wp2_with fail
            refine (kr1 _ blA).mono ?_
            rintro _ w6 ⟨A6, n6, c6, rfl, h6, hb6, _⟩
            have I5 : Cs w6 w.heap.size #[.int .i64 0, .int .i64 0] := Cs.keep csA hb6
            have I11 : Cs w6 (w3.heap.size + 1) #[.int .i64 tp, .int .i64 tq] := Cs.keep csA hb6
            have I14 : Cs w6 w5.heap.size #[.int .i64 kp, .int .i64 kq] := Cs.keep csA hb6
            have hbw6 : Below w.heap.size w w6 := blA
            clear hb6 kr1 G5 G11 G14 hbw5 cG5 fG5 lG5 cG11 fG11 lG11 cG14 fG14 lG14
            go_wp2_with fail
            refine (Hks.out _ _ _ _ (kp, kq) hbw6 h6).mono ?_
            rintro _ w7 ⟨rfl, hb7⟩
            have J5 : Cs w7 w.heap.size #[.int .i64 0, .int .i64 0] := Cs.keep csA hb7
            have J11 : Cs w7 (w3.heap.size + 1) #[.int .i64 tp, .int .i64 tq] := Cs.keep csA hb7
            have J14 : Cs w7 w5.heap.size #[.int .i64 kp, .int .i64 kq] := Cs.keep csA hb7
            have hbw7 : Below w.heap.size w w7 := blA
            clear hb7 h6 I5 I11 I14 hbw6
            obtain ⟨s9, hs9⟩ : ∃ x, regG (ocG zs n) (ocE zs n) (manyT zs) (kp, kq) = x := ⟨_, rfl⟩
            rw [hs9] at Hmore Htake
            rw [hs9]
            clear hs9
            generalize sumL (ocE zs n) (regL zs n (kp, kq) (manyT zs)) = e9
            have hne : w3.heap.size + 1 ≠ w7.heap.size := by have := J11.lt; omega
            by_cases hq9 : s9 ≤ most
            · have HT2 := Lib.hid (Htake.out (fun h => by cases h) hq9)
              have K11 := ((J11.set2 (.int .i64 kp) (.int .i64 kq)).alloc (.cells #[.int .i64 s9, .int .i64 e9] 59)).drew
              have K5 := ((J5.other2 (g' := w3.heap.size + 1) (by omega) (.int .i64 kp) (.int .i64 kq)).alloc (.cells #[.int .i64 s9, .int .i64 e9] 59)).drew
              have hbK := (balloc (bset2 hbw7 (g := w3.heap.size + 1) (by omega) (.int .i64 kp) (.int .i64 kq)) (.cells #[.int .i64 s9, .int .i64 e9] 59)).drew
              have HK := Lib.hid (And.intro K11 (And.intro K5 hbK))
              clear K11 K5 hbK Hmore Htake Hstay
              have cJ11 := J11.c
              have fJ11 := J11.f
              have lJ11 := J11.lt
              have cJ14 := J14.c
              have fJ14 := J14.f
              have lJ14 := J14.lt
              go_wp2_with fail
              go_region
              go_wp2_with fail
              go_roundw
              case rel => exact ⟨k + 1, true, kp, kq, _, by omega, by go_num, rfl, Lib.hid rfl, HT2, Lib.hid (fun _ => hkb), (by first | exact HK.out.2.1 | exact HK.out.2.1.drew | exact (HK.out.2.1).drewN 1), (by first | exact HK.out.1 | exact HK.out.1.drew), (by first | exact HK.out.2.2 | exact Below.drew HK.out.2.2)⟩
              case measure => simp [intOf]; omega
            · have HT2 := Lib.hid (Hmore.out (by omega))
              clear Hmore Htake Hstay
              go_wp2_with fail
              go_roundw
              case rel => exact ⟨k + 1, _, tp, tq, _, by omega, by go_num, rfl, Lib.hid rfl, HT2, Htb, csA, csA, blA⟩
              case measure => simp [intOf]; omega
          | true =>
            have Hbt := Lib.hid (Htb.out rfl)
            obtain ⟨b1, b2, b3, b4⟩ := Hbt.out
            have m1 : 0 ≤ kp * tq := Int.mul_nonneg (by omega) (by omega)
            have m2 : kp * tq ≤ 64000000 * 64000000 := Int.mul_le_mul (by omega) (by omega) (by omega) (by omega)
            have m3 : 0 ≤ tp * kq := Int.mul_nonneg (by omega) (by omega)
            have m4 : tp * kq ≤ 64000000 * 64000000 := Int.mul_le_mul (by omega) (by omega) (by omega) (by omega)
            have f1 : IntKind.i64.wrap (kp * tq) = kp * tq := IntWalk.i64_in _ (by omega)
            have f2 : IntKind.i64.wrap (tp * kq) = tp * kq := IntWalk.i64_in _ (by omega)
            clear m1 m2 m3 m4 b1 b2 b3 b4
            by_cases hlt : kp * tq < tp * kq
            · have hge : ¬ tp * kq ≤ kp * tq := by omega
              go_wp2_with fail
              refine (kr1 _ blA).mono ?_
              rintro _ w6 ⟨A6, n6, c6, rfl, h6, hb6, _⟩
              have I5 : Cs w6 w.heap.size #[.int .i64 0, .int .i64 0] := Cs.keep csA hb6
              have I11 : Cs w6 (w3.heap.size + 1) #[.int .i64 tp, .int .i64 tq] := Cs.keep csA hb6
              have I14 : Cs w6 w5.heap.size #[.int .i64 kp, .int .i64 kq] := Cs.keep csA hb6
              have hbw6 : Below w.heap.size w w6 := blA
              clear hb6 kr1 G5 G11 G14 hbw5 cG5 fG5 lG5 cG11 fG11 lG11 cG14 fG14 lG14
              go_wp2_with fail
              refine (Hks.out _ _ _ _ (kp, kq) hbw6 h6).mono ?_
              rintro _ w7 ⟨rfl, hb7⟩
              have J5 : Cs w7 w.heap.size #[.int .i64 0, .int .i64 0] := Cs.keep csA hb7
              have J11 : Cs w7 (w3.heap.size + 1) #[.int .i64 tp, .int .i64 tq] := Cs.keep csA hb7
              have J14 : Cs w7 w5.heap.size #[.int .i64 kp, .int .i64 kq] := Cs.keep csA hb7
              have hbw7 : Below w.heap.size w w7 := blA
              clear hb7 h6 I5 I11 I14 hbw6
              obtain ⟨s9, hs9⟩ : ∃ x, regG (ocG zs n) (ocE zs n) (manyT zs) (kp, kq) = x := ⟨_, rfl⟩
              rw [hs9] at Hmore Htake
              rw [hs9]
              clear hs9
              generalize sumL (ocE zs n) (regL zs n (kp, kq) (manyT zs)) = e9
              have hne : w3.heap.size + 1 ≠ w7.heap.size := by have := J11.lt; omega
              by_cases hq9 : s9 ≤ most
              · have HT2 := Lib.hid (Htake.out (fun _ => hlt) hq9)
                have K11 := ((J11.set2 (.int .i64 kp) (.int .i64 kq)).alloc (.cells #[.int .i64 s9, .int .i64 e9] 59)).drew
                have K5 := ((J5.other2 (g' := w3.heap.size + 1) (by omega) (.int .i64 kp) (.int .i64 kq)).alloc (.cells #[.int .i64 s9, .int .i64 e9] 59)).drew
                have hbK := (balloc (bset2 hbw7 (g := w3.heap.size + 1) (by omega) (.int .i64 kp) (.int .i64 kq)) (.cells #[.int .i64 s9, .int .i64 e9] 59)).drew
                have HK := Lib.hid (And.intro K11 (And.intro K5 hbK))
                clear K11 K5 hbK Hmore Htake Hstay
                have cJ11 := J11.c
                have fJ11 := J11.f
                have lJ11 := J11.lt
                have cJ14 := J14.c
                have fJ14 := J14.f
                have lJ14 := J14.lt
                go_wp2_with fail
                go_region
                go_wp2_with fail
                go_roundw
                case rel => exact ⟨k + 1, true, kp, kq, _, by omega, by go_num, rfl, Lib.hid rfl, HT2, Lib.hid (fun _ => hkb), (by first | exact HK.out.2.1 | exact HK.out.2.1.drew | exact (HK.out.2.1).drewN 1), (by first | exact HK.out.1 | exact HK.out.1.drew), (by first | exact HK.out.2.2 | exact Below.drew HK.out.2.2)⟩
                case measure => simp [intOf]; omega
              · have HT2 := Lib.hid (Hmore.out (by omega))
                clear Hmore Htake Hstay
                go_wp2_with fail
                go_roundw
                case rel => exact ⟨k + 1, _, tp, tq, _, by omega, by go_num, rfl, Lib.hid rfl, HT2, Lib.hid (fun _ => Hbt.out), csA, csA, blA⟩
                case measure => simp [intOf]; omega
            · have hge : tp * kq ≤ kp * tq := by omega
              have HT2 := Lib.hid (Hstay.out rfl hge)
              clear Hmore Htake Hstay kr1
              go_wp2_with fail
              go_roundw
              case rel => exact ⟨k + 1, true, tp, tq, _, by omega, by go_num, rfl, Lib.hid rfl, HT2, Lib.hid (fun _ => Hbt.out), G5, G11, hbw5⟩
              case measure => simp [intOf]; omega
        · have hn' : live (ocG zs n) (ocE zs n) k = false := by simpa using hl
          have HT2 := Lib.hid (HT.out.skip hn')
          have hz : ocG zs n k = 0 ∨ ocE zs n k = 0 := by
            rcases Int.lt_or_eq_of_le q1 with h | h
            · rcases Int.lt_or_eq_of_le q3 with h' | h'
              · exact absurd (live_iff.2 ⟨h', h⟩) hl
              · exact .inr h'.symm
            · exact .inl h.symm
          clear HT hl hn'
          rcases hz with hz | hz
          · rw [hz]
            go_wp2_with fail
            go_roundw
            case rel => exact ⟨k + 1, f, tp, tq, _, by omega, by go_num, rfl, Lib.hid rfl, HT2, Htb, csA, csA, blA⟩
            case measure => simp [intOf]; omega
          · rw [hz]
            by_cases hg0 : ocG zs n k = 0
            · rw [hg0]
              go_wp2_with fail
              go_roundw
              case rel => exact ⟨k + 1, f, tp, tq, _, by omega, by go_num, rfl, Lib.hid rfl, HT2, Htb, csA, csA, blA⟩
              case measure => simp [intOf]; omega
            · have ne1 : (ocG zs n k == 0) = false := by simpa using hg0
              go_wp2_with fail
              go_roundw
              case rel => exact ⟨k + 1, f, tp, tq, _, by omega, by go_num, rfl, Lib.hid rfl, HT2, Htb, csA, csA, blA⟩
              case measure => simp [intOf]; omega
      · obtain rfl : k = manyT zs := by omega
        obtain ⟨hf, hB⟩ := HT.out.done (fun i hi => (Hb.out i hi).1) hm0 Hq.out
        have htb := Htb.out hf
        have HB := Lib.hid hB
        clear HT Htb hB hf
        go_wp2_with fail
        refine km1.mono ?_
        rintro _ wm ⟨rfl, rfl⟩
        go_wp2_with fail
        go_region_held3 (fun w' => w'.cell? ⟨w3.heap.size + 1, 0, none⟩ = some (.int .i64 (tp)) ∧ w'.cell? ⟨w3.heap.size + 1, 1, none⟩ = some (.int .i64 (tq))) (first | exact ⟨D11.c 0, D11.c 1⟩ | exact ⟨(D11.drew).c 0, (D11.drew).c 1⟩ | exact ⟨L12.c 0, L12.c 1⟩ | exact ⟨(L12b _ _).c 0, (L12b _ _).c 1⟩ | go_keep)
          ((go_at_call 52; refine (Hkr.out _ (tp) (tq) blA (by omega)).mono ?_; rintro _ w7 ⟨A7, n7, c7, rfl, h7, hb7, hf7⟩; have L12 : Cs w7 (w3.heap.size + 1) #[.int .i64 (tp), .int .i64 (tq)] := Cs.keep csA hb7; have L12b := fun u v => Cs.other (Cs.other L12 (p := ⟨w.heap.size, 0, none⟩) (by show w3.heap.size + 1 ≠ w.heap.size; omega) u) (p := ⟨w.heap.size, 1, none⟩) (by show w3.heap.size + 1 ≠ w.heap.size; omega) v; have L5 : Cs w7 w.heap.size #[.int .i64 0, .int .i64 0] := Cs.keep csA hb7; have hbw7 : Below w.heap.size w w7 := blA; have cL5 := L5.c; have fL5 := L5.f; have lL5 := L5.lt))
        go_wp2_with fail
        have T8 : Turns (fun i => i = w.heap.size) w7 ((w7.setCell ⟨w.heap.size, 0, none⟩ (.int .i64 (tp))).setCell ⟨w.heap.size, 1, none⟩ (.int .i64 (tq))) := turns_set2 (O := fun i => i = w.heap.size) _ _ rfl
        have L8 := L5.set2 (.int .i64 (tp)) (.int .i64 (tq))
        have h8 := h7.turns T8 (fun b off hp e ho => by have hx := hf7 b off hp e; simp at hx; have ho' : b = w.heap.size := ho; omega)
        have hbF := bset2 hbw7 (Nat.le_refl w.heap.size) (.int .i64 (tp)) (.int .i64 (tq))
        have cF := L8.c
        exact bodyPost_ret (v := .tuple #[.slice A7 n7 c7, .agg #[.int .i64 (tp), .int .i64 (tq)], .int .i64 0]) (by simp [results, Try.results21, go_sem, cF]) rfl ⟨(tp, tq), HB.out, A7, n7, c7, rfl, h8, hbF⟩

end Go.Proofs.Ytcmllkjgggcghaa
end

/- Walks of the reference of layer 10: Best, whatever is handed in; both Bests answer alike. -/
section
namespace Go.Proofs.Ytcmllkjgggcghaa
open Go.RowKit Go.Shelf
set_option linter.unusedSimpArgs false
set_option linter.unusedVariables false

set_option maxHeartbeats 1000000 in
theorem rbest_bad (A : Option Addr) (n c : Nat) (zs : List Pl) (most : Int) (w : World) (hz : Plates w A n zs) (hn : n ≤ 9223372036854775807) (ht : testE zs ≠ 0) :
    Calls Try.prog 21 #[.slice A n c, .int .i64 most] w (RetLRE [] (0, 0) (testE zs) w) := by
  have kn := fun (W : World) (hb : Below w.heap.size w W) => rcheckTest_any A n c zs W (hz.below hb) hn
  have h0 : (testE zs == 0) = false := by simp [ht]
  have h1 : (testE zs != 0) = true := by simp [ht]
  generalize testE zs = e at *
  clear ht hz
  go_enter Try.func21, Try.ntmps21
  go_wp2_with fail
  refine (kn _ blA).mono ?_
  rintro e w1 ⟨rfl, hb1⟩
  replace B0 : Cs w1 (w.heap.size) #[.int .i64 0, .int .i64 0] := Cs.keep csA hb1
  replace hbw : Below w.heap.size w w1 := blA
  replace cB0 := B0.c
  replace fB0 := B0.f
  replace lB0 := B0.lt
  clear hb1
  go_wp2_with fail
  refine (kn _ blA).mono ?_
  rintro e w2 ⟨rfl, hb2⟩
  replace B0 : Cs w2 (w.heap.size) #[.int .i64 0, .int .i64 0] := Cs.keep csA hb2
  replace hbw : Below w.heap.size w w2 := blA
  replace cB0 := B0.c
  replace fB0 := B0.f
  replace lB0 := B0.lt
  clear hb2
  clear kn
  go_wp2_with fail
  have B1 := B0.set2 (.int .i64 0) (.int .i64 0)
  have cB1 := B1.c
  have hbF := bset2 hbw (Nat.le_refl w.heap.size) (.int .i64 0) (.int .i64 0)
  exact bodyPost_ret (v := .tuple #[.slice none 0 0, .agg #[.int .i64 0, .int .i64 0], .int .i64 e]) (by simp [results, Try.results21, go_sem, cB0, fB0, lB0, cB1]) rfl (RetLRE.nil rfl hbF)

set_option maxHeartbeats 1000000 in
theorem rbest_neg (A : Option Addr) (n c : Nat) (zs : List Pl) (most : Int) (w : World) (hz : Plates w A n zs) (hn : n ≤ 9223372036854775807) (ht : testE zs = 0) (hm : most < 0) :
    Calls Try.prog 21 #[.slice A n c, .int .i64 most] w (RetLRE [] (0, 0) 3 w) := by
  have kn := fun (W : World) (hb : Below w.heap.size w W) => rcheckTest_any A n c zs W (hz.below hb) hn
  rw [ht] at kn
  clear ht hz
  go_enter Try.func21, Try.ntmps21
  go_wp2_with fail
  refine (kn _ blA).mono ?_
  rintro e w1 ⟨rfl, hb1⟩
  replace B0 : Cs w1 (w.heap.size) #[.int .i64 0, .int .i64 0] := Cs.keep csA hb1
  replace hbw : Below w.heap.size w w1 := blA
  replace cB0 := B0.c
  replace fB0 := B0.f
  replace lB0 := B0.lt
  clear hb1
  clear kn
  go_wp2_with fail
  have B1 := B0.set2 (.int .i64 0) (.int .i64 0)
  have cB1 := B1.c
  have hbF := bset2 hbw (Nat.le_refl w.heap.size) (.int .i64 0) (.int .i64 0)
  exact bodyPost_ret (v := .tuple #[.slice none 0 0, .agg #[.int .i64 0, .int .i64 0], .int .i64 3]) (by simp [results, Try.results21, go_sem, cB0, fB0, lB0, cB1]) rfl (RetLRE.nil rfl hbF)

theorem tried_ex (g e : Nat → Int) (M : Nat) (most : Int) : ∀ k, ∃ f t, Tried g e M most k f t
  | 0 => ⟨false, (0, 0), .inl ⟨rfl, fun j hj => absurd hj (by omega)⟩⟩
  | k + 1 => by
    obtain ⟨f, t, h⟩ := tried_ex g e M most k
    cases hl : live g e k with
    | false => exact ⟨f, t, h.skip hl⟩
    | true =>
      by_cases hm : regG g e M (key g e k) ≤ most
      · by_cases hlt : f = true → lt (key g e k) t
        · exact ⟨true, _, h.take hl hlt hm⟩
        · have hf : f = true := by
            cases f with
            | true => rfl
            | false => exact absurd (fun h => by cases h) hlt
          subst hf
          exact ⟨true, t, h.stay (fun h2 => hlt (fun _ => h2))⟩
      · exact ⟨f, t, h.more (by omega)⟩

theorem isBest_ex {g e : Nat → Int} {M : Nat} {most : Int} (hg : ∀ k, k < M → 0 ≤ g k) (hm : 0 ≤ most) : ∃ t, IsBest g e M most t := by
  by_cases h0 : regG g e M (0, 1) ≤ most
  · exact ⟨(0, 1), .inl ⟨rfl, h0⟩⟩
  · obtain ⟨f, t, h⟩ := tried_ex g e M most M
    exact ⟨t, (h.done hg hm (by omega)).2⟩

/-- both Bests answer alike -/
theorem best_fix (A : Option Addr) (n c : Nat) (zs : List Pl) (most : Int) (w : World) (hz : Plates w A n zs) (hn : n ≤ 9223372036854775807) (hm : most ≤ 9223372036854775807) :
    ∃ (l : List Int) (t : Int × Int) (er : Int), l.length ≤ 4096 ∧ (∀ W, Below w.heap.size w W → Calls Try.prog 20 #[.slice A n c, .int .i64 most] W (RetLRE l t er W)) ∧ (∀ W, Below w.heap.size w W → Calls Try.prog 21 #[.slice A n c, .int .i64 most] W (RetLRE l t er W)) := by
  by_cases ht : testE zs = 0
  · by_cases h0 : most < 0
    · exact ⟨[], (0, 0), 3, by simp, fun W hb => best_neg A n c zs most W (hz.below hb) hn ht h0, fun W hb => rbest_neg A n c zs most W (hz.below hb) hn ht h0⟩
    · obtain ⟨t1, t2, hg⟩ := testE_ok ht
      have hl := hz.1
      have hM := many_le hl (by omega) hg
      obtain ⟨t, hB⟩ := isBest_ex (g := ocG zs n) (e := ocE zs n) (M := manyT zs) (most := most) (fun k hk => (oc_bd hl hg hz.2.2 (by omega) hk).1) (by omega)
      refine ⟨regL zs n t (manyT zs), t, 0, Nat.le_trans (regL_le ..) hM, fun W hb => ?_, fun W hb => ?_⟩
      · refine (best_ok A n c zs most W (hz.below hb) (by omega) ht (by omega) hm).mono fun e w' h => ?_
        obtain ⟨t', hB', hr⟩ := h
        rw [isBest_one hB' hB] at hr
        exact hr
      · refine (rbest_ok A n c zs most W (hz.below hb) (by omega) ht (by omega) hm).mono fun e w' h => ?_
        obtain ⟨t', hB', hr⟩ := h
        rw [isBest_one hB' hB] at hr
        exact hr
  · exact ⟨[], (0, 0), testE zs, by simp, fun W hb => best_bad A n c zs most W (hz.below hb) hn ht, fun W hb => rbest_bad A n c zs most W (hz.below hb) hn ht⟩

end Go.Proofs.Ytcmllkjgggcghaa
end
