/- EM8 EI1 EI2 EI3 -/
import Derived.Test.YtcmllkjgggcghaaEZ16
import Derived.Test.YtcmllkjgggcghaaEZ14
import Derived.Test.YtcmllkjgggcghaaEZ13
import Derived.Test.YtcmllkjgggcghaaEZ08
import Derived.BigQuiet
import Derived.Test.YtcmllkjgggcghaaEZ18
import Derived.Test.YtcmllkjgggcghaaEZ15
/- Plain laws: no set with at most its Guess has more Eye; a lesser threshold's region has all of a greater one's; greater allowances. -/
section
namespace Go.Proofs.Ytcmllkjgggcghaa
set_option linter.unusedSimpArgs false
set_option linter.unusedVariables false

/-- the sum of a set, by what is in it -/
theorem sumL_mem {m : Nat} {ks : List Int} (hs : SetOk m ks) (f : Nat → Int) : ∀ k, k ≤ m → ∃ j, StandsAt ks j k ∧ sumL f (ks.take j) = sumIf f (fun i => ks.contains (i : Int)) k
  | 0, _ => ⟨0, .start hs, by simp [sumL, sumIf]⟩
  | k + 1, h => by
    obtain ⟨j, h1, h2⟩ := sumL_mem hs f k (by omega)
    have hm := h1.mem hs
    by_cases hc : ks.contains (k : Int) = true
    · obtain ⟨a, b⟩ := hm.1 hc
      refine ⟨j + 1, h1.hit hs a b, ?_⟩
      rw [sumL_take a, h2, sumIf, if_pos hc, b]; simp
    · refine ⟨j, h1.miss hs (fun hj he => hc (hm.2 ⟨hj, he⟩)), ?_⟩
      rw [h2, sumIf, if_neg hc]; simp
theorem StandsAt.end_ {m : Nat} {ks : List Int} {j : Nat} (hs : SetOk m ks) (h : StandsAt ks j m) : j = ks.length := by
  rcases Nat.lt_or_ge j ks.length with h1 | h1
  · have a := h.hi j (Nat.le_refl _) h1
    have b := hs.rng j h1
    omega
  · have := h.le; omega
theorem sumL_in {m : Nat} {ks : List Int} (hs : SetOk m ks) (f : Nat → Int) : sumL f ks = sumIf f (fun i => ks.contains (i : Int)) m := by
  obtain ⟨j, h1, h2⟩ := sumL_mem hs f m (Nat.le_refl _)
  rw [← h2, h1.end_ hs, List.take_length]

/-- the lemma of Neyman and Pearson -/
theorem np_sum {g e : Nat → Int} {N D : Int} {S O : Nat → Bool} : ∀ M, (∀ k, k < M → (S k = true → 0 ≤ e k * D - g k * N) ∧ (S k = false → e k * D - g k * N ≤ 0)) →
    sumIf e O M * D - sumIf g O M * N ≤ sumIf e S M * D - sumIf g S M * N
  | 0, _ => by simp [sumIf]
  | k + 1, h => by
    have h1 := np_sum (O := O) k (fun i hi => h i (by omega))
    obtain ⟨h2, h3⟩ := h k (by omega)
    simp only [sumIf, Int.add_mul]
    cases hS : S k <;> cases hO : O k <;> simp [hS, hO] at h2 h3 ⊢ <;> omega
theorem np {g e : Nat → Int} {N D : Int} {S O : Nat → Bool} {M : Nat} (h : ∀ k, k < M → (S k = true → 0 ≤ e k * D - g k * N) ∧ (S k = false → e k * D - g k * N ≤ 0)) (hN : 0 ≤ N) (hD : 0 < D) (hO : sumIf g O M ≤ sumIf g S M) : sumIf e O M ≤ sumIf e S M := by
  have h1 := np_sum (O := O) M h
  have h2 := Int.mul_le_mul_of_nonneg_right hO hN
  exact Int.le_of_mul_le_mul_right (a := D) (by omega) hD

theorem cbB_sure {g e : Nat → Int} {ks : List Int} {N D : Int} {M : Nat} (h : cbB g e ks N D M = true) : ∀ k, k < M → ((fun i : Nat => ks.contains (i : Int)) k = true → 0 ≤ e k * D - g k * N) ∧ ((fun i : Nat => ks.contains (i : Int)) k = false → e k * D - g k * N ≤ 0) := by
  intro k hk
  unfold cbB at h
  have h1 := List.all_eq_true.1 h k (List.mem_range.2 hk)
  unfold badO at h1
  dsimp only
  cases hc : ks.contains (k : Int) <;> simp only [hc, Bool.true_and, Bool.false_and, Bool.not_true, Bool.not_false, Bool.or_false, Bool.false_or, Bool.not_eq_true', decide_eq_false_iff_not] at h1 <;> refine ⟨fun hx => ?_, fun hx => ?_⟩ <;> first | omega | exact absurd hx (by decide)

theorem regL_mem (zs : List Pl) (n : Nat) (t : Int × Int) (k : Nat) : ∀ M, (regL zs n t M).contains (k : Int) = (decide (k < M) && above (ocG zs n) (ocE zs n) t k)
  | 0 => by simp [regL]
  | M + 1 => by
    have ih := regL_mem zs n t k M
    rw [regL]
    by_cases ha : above (ocG zs n) (ocE zs n) t M = true
    · rw [if_pos ha, Bool.eq_iff_iff, List.contains_iff_mem, List.mem_append, ← List.contains_iff_mem, ih]
      simp only [Bool.and_eq_true, decide_eq_true_eq, List.mem_singleton]
      constructor
      · rintro (⟨h1, h2⟩ | h1)
        · exact ⟨by omega, h2⟩
        · obtain rfl : k = M := by omega
          exact ⟨by omega, ha⟩
      · rintro ⟨h1, h2⟩
        by_cases e : k = M
        · exact .inr (by rw [e])
        · exact .inl ⟨by omega, h2⟩
    · rw [if_neg ha, ih]
      have hf : above (ocG zs n) (ocE zs n) t M = false := by simpa using ha
      by_cases e : k = M
      · subst e; simp [hf]
      · congr 1
        rw [decide_eq_decide]; omega
theorem cbB_reg (zs : List Pl) (n : Nat) (t : Int × Int) (M : Nat) : cbB (ocG zs n) (ocE zs n) (regL zs n t M) t.1 t.2 M = true := by
  refine cbB_t fun k hk => ?_
  unfold badO
  rw [regL_mem, decide_eq_true hk, Bool.true_and]
  unfold above
  by_cases h : 0 < ocE zs n k * t.2 - ocG zs n k * t.1
  · rw [decide_eq_true h]; simp; omega
  · rw [decide_eq_false h]; simp

/-- a greater threshold has a lesser region -/
theorem above_mono {g e : Nat → Int} {t u : Int × Int} {k : Nat} (hg : 0 ≤ g k) (ht : 0 < t.2) (hu : 0 < u.2) (h : t.1 * u.2 ≤ u.1 * t.2) (ha : above g e u k = true) : above g e t k = true := by
  unfold above at *
  rw [decide_eq_true_eq] at *
  have h1 : g k * u.1 < e k * u.2 := by omega
  have h2 := mul_lt h1 ht
  have h3 := Int.mul_le_mul_of_nonneg_left h hg
  have h4 : g k * t.1 * u.2 < e k * t.2 * u.2 := by
    calc g k * t.1 * u.2 = g k * (t.1 * u.2) := by rw [Int.mul_assoc]
      _ ≤ g k * (u.1 * t.2) := h3
      _ = g k * u.1 * t.2 := by rw [Int.mul_assoc]
      _ < e k * u.2 * t.2 := h2
      _ = e k * t.2 * u.2 := by rw [Int.mul_assoc, Int.mul_comm u.2, ← Int.mul_assoc]
  have := (mul_lt_iff hu).1 h4
  omega

/-- a greater allowance has no greater threshold -/
theorem best_less {g e : Nat → Int} {M : Nat} {a b : Int} {t u : Int × Int} (hab : a ≤ b) (ht : IsBest g e M a t) (hu : IsBest g e M b u) : 0 < t.2 ∧ 0 < u.2 ∧ u.1 * t.2 ≤ t.1 * u.2 := by
  have pos : ∀ {m : Int} {v : Int × Int}, IsBest g e M m v → 0 ≤ v.1 ∧ 0 < v.2 := by
    intro m v hv
    rcases hv with ⟨rfl, _⟩ | ⟨_, ⟨k, hk, hl, rfl⟩, _⟩
    · decide
    · have := key_rd hl; exact ⟨by have := this.n; omega, this.d⟩
  refine ⟨(pos ht).2, (pos hu).2, ?_⟩
  rcases hu with ⟨rfl, _⟩ | ⟨h1, ⟨k, hk, hl, rfl⟩, h2, h3⟩
  · have := pos ht; simp; exact this.1
  · rcases ht with ⟨rfl, h4⟩ | ⟨_, ⟨j, hj, hlj, rfl⟩, h5, h6⟩
    · omega
    · by_cases hlt : lt (key g e j) (key g e k)
      · have := h3 j hj hlj hlt; omega
      · unfold lt at hlt; omega

/-- where an element of one rising list stands in another -/
theorem sub_phi {m : Nat} {a b : List Int} (ha : SetOk m a) (hb : SetOk m b) (h : ∀ k : Nat, a.contains (k : Int) = true → b.contains (k : Int) = true) :
    ∃ p : Nat → Nat, (∀ i, i < a.length → p i < b.length ∧ b.getD (p i) 0 = a.getD i 0) ∧ ∀ i j, i < j → j < a.length → p i < p j := by
  have hx : ∀ i, ∃ q, i < a.length → q < b.length ∧ b.getD q 0 = a.getD i 0 := by
    intro i
    by_cases hi : i < a.length
    · have h1 := ha.rng i hi
      obtain ⟨k, hk⟩ := Int.eq_ofNat_of_zero_le h1.1
      have h2 : a.contains (k : Int) = true := by
        rw [List.contains_iff_mem, show ((k : Nat) : Int) = a.getD i 0 from hk.symm, List.getD_eq_getElem?_getD, List.getElem?_eq_getElem hi]
        exact List.getElem_mem hi
      have h3 := h k h2
      rw [List.contains_iff_mem] at h3
      obtain ⟨q, hq, he⟩ := List.mem_iff_getElem.1 h3
      refine ⟨q, fun _ => ⟨hq, ?_⟩⟩
      rw [List.getD_eq_getElem?_getD, List.getElem?_eq_getElem hq, hk]; exact he
    · exact ⟨0, fun h => absurd h hi⟩
  refine ⟨fun i => (hx i).choose, fun i hi => (hx i).choose_spec hi, fun i j hij hj => ?_⟩
  have h1 := (hx i).choose_spec (by omega)
  have h2 := (hx j).choose_spec hj
  have h3 := ha.inc i j hij hj
  dsimp only
  generalize (hx i).choose = q at *
  generalize (hx j).choose = r at *
  rcases Nat.lt_trichotomy q r with h4 | h4 | h4
  · exact h4
  · subst h4; omega
  · have := hb.inc r q h4 h1.1; omega

/-- the first numbers that are chosen -/
def selL (q : Nat → Bool) : Nat → List Int
  | 0 => []
  | k + 1 => if q k then selL q k ++ [(k : Int)] else selL q k
theorem regL_sel (zs : List Pl) (n : Nat) (t : Int × Int) : ∀ k, regL zs n t k = selL (above (ocG zs n) (ocE zs n) t) k
  | 0 => rfl
  | k + 1 => by rw [regL, selL, regL_sel zs n t k]
theorem selL_le (q : Nat → Bool) : ∀ k, (selL q k).length ≤ k
  | 0 => by simp [selL]
  | k + 1 => by
    have := selL_le q k
    rw [selL]; split <;> simp <;> omega
theorem selL_in (q : Nat → Bool) : ∀ k, (∀ i, i < (selL q k).length → 0 ≤ (selL q k).getD i 0 ∧ (selL q k).getD i 0 < (k : Int)) ∧ (∀ i, i + 1 < (selL q k).length → (selL q k).getD i 0 < (selL q k).getD (i + 1) 0)
  | 0 => ⟨fun i hi => by simp [selL] at hi, fun i hi => by simp [selL] at hi⟩
  | k + 1 => by
    obtain ⟨h1, h2⟩ := selL_in q k
    rw [selL]
    split
    · refine ⟨fun i hi => ?_, fun i hi => ?_⟩
      · rw [List.length_append, List.length_singleton] at hi
        by_cases e : i < (selL q k).length
        · rw [getD_app1 e]; have := h1 i e; omega
        · obtain rfl : i = (selL q k).length := by omega
          rw [getD_app2]; omega
      · rw [List.length_append, List.length_singleton] at hi
        rw [getD_app1 (by omega)]
        by_cases e : i + 1 < (selL q k).length
        · rw [getD_app1 e]; exact h2 i e
        · have e2 : i + 1 = (selL q k).length := by omega
          rw [e2, getD_app2]
          exact (h1 i (by omega)).2
    · exact ⟨fun i hi => by have := h1 i hi; omega, h2⟩
theorem selL_set (q : Nat → Bool) (M : Nat) : setE M (selL q M) = 0 := by
  obtain ⟨h1, h2⟩ := selL_in q M
  refine setE_fine (by have := selL_le q M; omega) (fun i hi => ?_) h2
  have := h1 i hi
  unfold outK
  simp only [Bool.or_eq_false_iff, decide_eq_false_iff_not]
  omega
theorem sumL_sel (q : Nat → Bool) (f : Nat → Int) : ∀ k, sumL f (selL q k) = sumIf f q k
  | 0 => by simp [selL, sumL, sumIf]
  | k + 1 => by
    rw [selL, sumIf, ← sumL_sel q f k]
    split
    · simp [sumL]
    · simp
theorem selL_mem (q : Nat → Bool) (k : Nat) : ∀ M, (selL q M).contains (k : Int) = (decide (k < M) && q k)
  | 0 => by simp [selL]
  | M + 1 => by
    have ih := selL_mem q k M
    rw [selL]
    by_cases ha : q M = true
    · rw [if_pos ha, Bool.eq_iff_iff, List.contains_iff_mem, List.mem_append, ← List.contains_iff_mem, ih]
      simp only [Bool.and_eq_true, decide_eq_true_eq, List.mem_singleton]
      constructor
      · rintro (⟨h1, h2⟩ | h1)
        · exact ⟨by omega, h2⟩
        · obtain rfl : k = M := by omega
          exact ⟨by omega, ha⟩
      · rintro ⟨h1, h2⟩
        by_cases e : k = M
        · exact .inr (by rw [e])
        · exact .inl ⟨by omega, h2⟩
    · rw [if_neg ha, ih]
      have hf : q M = false := by simpa using ha
      by_cases e : k = M
      · subst e; simp [hf]
      · congr 1
        rw [decide_eq_decide]; omega

end Go.Proofs.Ytcmllkjgggcghaa
end

/- Walks of package eye: Sum. -/
section
namespace Go.Proofs.Ytcmllkjgggcghaa
open Go.RowKit Go.Shelf
set_option linter.unusedSimpArgs false
set_option linter.unusedVariables false
attribute [local go_sem] Oper.semAt_some

set_option maxHeartbeats 1000000 in
theorem esum_bad (A B : Option Addr) (n c Nn C : Nat) (zs : List Pl) (w : World) (hz : Plates w A n zs) (hn : n ≤ 9223372036854775807) (ht : testE zs ≠ 0) :
    Calls Try.prog 38 #[.slice A n c, .slice B Nn C] w fun e w' => e = RetOE ((0, 0), testE zs) ∧ Below w.heap.size w w' := by
  have kn := fun (W : World) (hb : Below w.heap.size w W) => newTest_bad A n c zs W (hz.below hb) hn ht
  have h0 : (testE zs == 0) = false := by simp [ht]
  have h1 : (testE zs != 0) = true := by simp [ht]
  unfold RetOE
  generalize testE zs = e at *
  clear ht hz
  go_enter Try.func38, Try.ntmps38
  go_wp2_with fail
  refine (kn _ blA).mono ?_
  rintro _ w1 ⟨rfl, hb1⟩
  replace B0 : Cs w1 (w.heap.size) #[.int .i64 0, .int .i64 0] := Cs.keep csA hb1
  replace hbw : Below w.heap.size w w1 := blA
  replace cB0 := B0.c
  replace fB0 := B0.f
  replace lB0 := B0.lt
  clear hb1
  clear kn
  go_wp2_with fail
  have F0 := B0.set2 (.int .i64 0) (.int .i64 0)
  have cF := F0.c
  have hbF := bset2 hbw (Nat.le_refl w.heap.size) (.int .i64 0) (.int .i64 0)
  exact bodyPost_ret (v := .tuple #[.agg #[.int .i64 0, .int .i64 0], .int .i64 e]) (by simp [results, Try.results38, go_sem, cB0, fB0, lB0, cF]) rfl ⟨rfl, hbF⟩

set_option maxHeartbeats 1000000 in
theorem esum_set (A B : Option Addr) (n c Nn C : Nat) (zs : List Pl) (ks : List Int) (w : World) (hz : Plates w A n zs) (hn : n ≤ 9223372036854775807) (hk : Ints w B Nn ks) (hN : Nn ≤ 9223372036854775807) (ht : testE zs = 0) (hs : setE (manyT zs) ks ≠ 0) :
    Calls Try.prog 38 #[.slice A n c, .slice B Nn C] w fun e w' => e = RetOE ((0, 0), setE (manyT zs) ks) ∧ Below w.heap.size w w' := by
  have kn := fun (W : World) (hb : Below w.heap.size w W) => newTest_ok A n c zs W (hz.below hb) hn ht
  have kc := fun (W : World) (g : Nat) (hb : Below w.heap.size w W) (hB : Cs W g #[.slice A n c, .int .i64 (manyT zs : Nat)]) => check_any A B n c (manyT zs) g Nn C ks W (hk.below hb) hN hB _ rfl
  have h0 : (setE (manyT zs) ks == 0) = false := by simp [hs]
  have h1 : (setE (manyT zs) ks != 0) = true := by simp [hs]
  unfold RetOE
  generalize setE (manyT zs) ks = e at *
  clear ht hz hs hk
  go_enter Try.func38, Try.ntmps38
  go_wp2_with fail
  refine (kn _ blA).mono ?_
  rintro _ w1 ⟨g, rfl, hgw, Bg, hb1⟩
  replace B0 : Cs w1 (w.heap.size) #[.int .i64 0, .int .i64 0] := Cs.keep csA hb1
  replace hbw : Below w.heap.size w w1 := blA
  replace cB0 := B0.c
  replace fB0 := B0.f
  replace lB0 := B0.lt
  clear hb1
  go_wp2_with fail
  refine (kc _ _ blA Bg).mono ?_
  rintro _ w2 ⟨rfl, hb2⟩
  replace B0 : Cs w2 (w.heap.size) #[.int .i64 0, .int .i64 0] := Cs.keep csA hb2
  replace hbw : Below w.heap.size w w2 := blA
  replace cB0 := B0.c
  replace fB0 := B0.f
  replace lB0 := B0.lt
  clear hb2
  clear kn kc
  go_wp2_with fail
  have F0 := B0.set2 (.int .i64 0) (.int .i64 0)
  have cF := F0.c
  have hbF := bset2 hbw (Nat.le_refl w.heap.size) (.int .i64 0) (.int .i64 0)
  exact bodyPost_ret (v := .tuple #[.agg #[.int .i64 0, .int .i64 0], .int .i64 e]) (by simp [results, Try.results38, go_sem, cB0, fB0, lB0, cF]) rfl ⟨rfl, hbF⟩

set_option maxRecDepth 100000 in
set_option maxHeartbeats 1000000 in
theorem esum_ok (A B : Option Addr) (n c Nn C : Nat) (zs : List Pl) (ks : List Int) (w : World) (hz : Plates w A n zs) (hn : n ≤ 6) (hk : Ints w B Nn ks) (hC : Nn ≤ C) (ht : testE zs = 0) (hs : setE (manyT zs) ks = 0) :
    Calls Try.prog 38 #[.slice A n c, .slice B Nn C] w fun e w' => e = RetOE ((sumL (ocG zs n) ks, sumL (ocE zs n) ks), 0) ∧ Below w.heap.size w w' := by
  obtain ⟨t1, t2, hg⟩ := testE_ok ht
  have hso := setE_ok hs
  have hM2 := many_le hz.1 hn hg
  have hkl := hk.1
  have hNn : Nn ≤ 4096 := by have := hso.len; omega
  have kn := fun (W : World) (hb : Below w.heap.size w W) => newTest_ok A n c zs W (hz.below hb) (by omega) ht
  have kc := fun (W : World) (g : Nat) (hb : Below w.heap.size w W) (hB : Cs W g #[.slice A n c, .int .i64 (manyT zs : Nat)]) => check_any A B n c (manyT zs) g Nn C ks W (hk.below hb) (by omega) hB _ hs.symm
  have hbd := fun k hk => oc_bd (N := k) hz.1 hg hz.2.2 hn hk
  have HbG := Lib.hid (sumL_bd (g := ocG zs n) hso (fun k hk => ⟨(hbd k hk).1, (hbd k hk).2.1⟩))
  have HbE := Lib.hid (sumL_bd (g := ocE zs n) hso (fun k hk => ⟨(hbd k hk).2.2.1, (hbd k hk).2.2.2⟩))
  have Hb := Lib.hid hbd
  have Hz := Lib.hid hz
  have Hg := Lib.hid hg
  have Hk := Lib.hid hk
  have Hso := Lib.hid hso
  have Hkl := Lib.hid hkl
  unfold RetOE
  refine (callsIn_wide (n := 8)).1 ?_
  refine callsIn_of_wp_marks Try.func38 rfl trivial ?_ rfl
  simp only [Try.ntmps38, List.size_toArray, List.length_cons, List.length_nil, Nat.reduceAdd, Nat.reduceSub, Array.replicate_succ, Array.replicate_zero, List.push_toArray, List.append_toArray, List.nil_append, List.cons_append]
  clear hz hg ht t1 t2 hk hs hso hkl hbd
  gi_wp2_with fail
  refine ⟨trivial, (callsIn_wide.2 (kn _ blA)).mono ?_⟩
  rintro _ w1 ⟨g, rfl, hgw, Bg, hb1⟩
  have B4 : Cs w1 w.heap.size #[.int .i64 0, .int .i64 0] := Cs.keep csA hb1
  have hbw : Below w.heap.size w w1 := blA
  have hgw2 : w.heap.size + 1 ≤ g := by simpa using hgw
  clear kn hb1 hgw
  gi_wp2_with fail
  refine ⟨trivial, (callsIn_wide.2 (kc _ _ hbw Bg)).mono ?_⟩
  rintro _ w2 ⟨rfl, hb2⟩
  replace B4 := B4.keep hb2
  replace Bg := Bg.keep hb2
  replace hbw := hbw.trans (hb2.mono hbw.size)
  clear kc hb2
  have s1 : (0 : Int) ≤ (Nn : Int) := by omega
  have s2 : (Nn : Int) ≤ (C : Int) := by omega
  gi_wp2_with fail
  refine ⟨trivial, (callsIn_wide.2 (outcomes_any g _)).mono ?_⟩
  rintro _ w4 ⟨Bs, rfl, hBs, cBs, hb4⟩
  have E9 : Cs w4 w2.heap.size #[.slice B Nn Nn] := Cs.keep csA hb4
  have E10 : Cs w4 (w2.heap.size + 1) #[.int .i64 0, .int .i64 0] := Cs.keep csA hb4
  have E4 : Cs w4 w.heap.size #[.int .i64 0, .int .i64 0] := Cs.keep csA hb4
  have Eg : Cs w4 g #[.slice A n c, .int .i64 (manyT zs : Nat)] := Cs.keep csA hb4
  have Eb : Below w.heap.size w w4 := blA
  have hs2 : w.heap.size < w2.heap.size := B4.lt
  have hg2 : g < w2.heap.size := Bg.lt
  have hBs' : w2.heap.size + 2 ≤ Bs := by simpa using hBs
  have hs4 : w2.heap.size + 2 ≤ w4.heap.size := by have := E10.lt; omega
  have hBs4 : Bs < w4.heap.size := World.block_lt_of_cell? w4 _ cBs
  clear hb4 hBs B4 Bg hbw
  gi_wp2_with fail
  obtain ⟨I, hId⟩ : ∃ I : Nat → World → Prop, I = fun k W => ∃ j P len x y, Cs W w2.heap.size #[.slice P len len] ∧ len + j = Nn ∧ (0 < len → ∃ b o, B = some ⟨b, o, none⟩ ∧ P = some ⟨b, o + j, none⟩) ∧ StandsAt ks j k ∧ x = sumL (ocG zs n) (ks.take j) ∧ y = sumL (ocE zs n) (ks.take j) ∧ Cs W (w2.heap.size + 1) #[.int .i64 x, .int .i64 y] ∧ Cs W w.heap.size #[.int .i64 0, .int .i64 0] ∧ Below w.heap.size w W := ⟨_, rfl⟩
  obtain ⟨Ix, hXd⟩ : ∃ Ix : Code → Nat → World → Prop, Ix = fun c k W => c = .exit 0 ∧ Cs W (w2.heap.size + 1) #[.int .i64 (sumL (ocG zs n) ks), .int .i64 (sumL (ocE zs n) ks)] ∧ Cs W w.heap.size #[.int .i64 0, .int .i64 0] ∧ Below w.heap.size w W := ⟨_, rfl⟩
  have hI : ∀ k W W', I k W → Turns (fun i => i = w4.heap.size + 1 ∨ i = w4.heap.size + 2) W W' → I k W' := by
    intro k W W' h ht
    rw [hId] at h ⊢
    obtain ⟨j, P, len, x, y, h1, h2, h3, h4, h5, h6, h7, h8, h9⟩ := h
    exact ⟨j, P, len, x, y, h1.turns ht (by omega), h2, h3, h4, h5, h6, h7.turns ht (by omega), h8.turns ht (by omega), Turns.below h9 ht (fun i hi => by have hi' := hi; omega) (by have := h9.size; omega)⟩
  have hIx : ∀ c k W W', Ix c k W → Turns (fun i => i = w4.heap.size + 1 ∨ i = w4.heap.size + 2) W W' → Ix c k W' := by
    intro c k W W' h ht
    rw [hXd] at h ⊢
    obtain ⟨h1, h2, h3, h4⟩ := h
    exact ⟨h1, h2.turns ht (by omega), h3.turns ht (by omega), Turns.below h4 ht (fun i hi => by have hi' := hi; omega) (by have := h4.size; omega)⟩
  refine range_outcomes (by omega) Bs g n c (manyT zs) w.heap.size A zs w Hz.out hn Hg.out Eb rfl cBs Eg rfl rfl (fun i => i = w2.heap.size ∨ i = w2.heap.size + 1) (fun i hi => by rcases hi with hi | hi <;> omega)
    I hI Ix hIx (by rw [hId]; exact ⟨0, B, Nn, 0, 0, E9, by omega, fun h => by obtain ⟨b, o, e, -, -⟩ := Hk.out.2 h; exact ⟨b, o, e, e⟩, StandsAt.start Hso.out, by simp [sumL], by simp [sumL], E10, E4, Eb⟩)
    (fun k a' W => ∃ b4, w4.heap.size + 3 ≤ b4 ∧ Cs W b4 #[.int .i64 (ocG zs n k), .int .i64 (ocE zs n k)] ∧ I k W ∧ a' = { tmps := #[.slice A n c, .slice B Nn C, undef, undef, .pointer (some ⟨w.heap.size, 0, none⟩), .int .i64 0, .pointer (some ⟨g, 0, none⟩), .int .i64 0, .int .i64 0, .pointer (some ⟨w2.heap.size, 0, none⟩), .pointer (some ⟨w2.heap.size + 1, 0, none⟩), .int .i64 (k : Nat), .pointer (some ⟨b4, 0, none⟩), .tuple #[.pointer (some ⟨g, 0, none⟩), .int .i64 0], .slice A n c, .tuple #[.pointer (some ⟨g, 0, none⟩), .int .i64 0], .pointer (some ⟨g, 0, none⟩), .int .i64 0, .int .i64 0, .bool false, undef, undef, .pointer (some ⟨g, 0, none⟩), .slice B Nn C, .int .i64 0, .int .i64 0, .bool false, undef, undef, .slice B Nn C, .slice B Nn C, .int .i64 (Nn : Nat), .slice B Nn C, .int .i64 (Nn : Nat), .slice B Nn Nn, .pointer (some ⟨g, 0, none⟩), .func (.func 76) #[] #[.pointer (some ⟨Bs, 0, none⟩)], .int .i64 (k : Nat), .agg #[.int .i64 (ocG zs n k), .int .i64 (ocE zs n k)], undef, undef, undef, undef, undef, undef, undef, undef, undef, undef, undef, undef, undef, undef, undef], defers := [] }) ?hax ?assign ?body ?done ?stop
  case hax =>
    rintro k a' W W' ⟨b4, h4, B4, hi, rfl⟩ ht
    exact ⟨b4, h4, B4.turns ht (fun e => by have e' : b4 = w4.heap.size + 1 := e; omega), hI _ _ _ hi (ht.mono fun i hi => .inl hi), rfl⟩
  case assign =>
    intro l k W K hkM hi hW hK
    unfold encO
    gi_wp2_with fail
    have T : Turns (fun _ => False) W (W.alloc (.cells #[.int .i64 (ocG zs n k), .int .i64 (ocE zs n k)] 59)) := Turns.of_below (balloc (Below.refl _ _) _)
    exact hK _ _ T ⟨W.heap.size, hW, Cs.new _ _ _ _ rfl, hI _ _ _ hi (T.mono fun _ h => h.elim), rfl⟩
  case body =>
    rintro l k a' W hkM ⟨b4, h4, B4, hi, rfl⟩ hW
    rw [hId] at hi
    obtain ⟨j, P, len, x, y, h9, hlj, hoff, hst, hx, hy, h10, hr, hbl⟩ := hi
    have hksl := Hkl.out
    have HI : Hid (∀ j2 P2 len2 x2 y2 W2, Cs W2 w2.heap.size #[.slice P2 len2 len2] → len2 + j2 = Nn → (0 < len2 → ∃ b o, B = some ⟨b, o, none⟩ ∧ P2 = some ⟨b, o + j2, none⟩) → StandsAt ks j2 (k + 1) → x2 = sumL (ocG zs n) (ks.take j2) → y2 = sumL (ocE zs n) (ks.take j2) → Cs W2 (w2.heap.size + 1) #[.int .i64 x2, .int .i64 y2] → Cs W2 w.heap.size #[.int .i64 0, .int .i64 0] → Below w.heap.size w W2 → I (k + 1) W2) :=
      Lib.hid fun j2 P2 len2 x2 y2 W2 a1 a2 a3 a4 a5 a6 a7 a8 a9 => by
        rw [hId]
        exact ⟨j2, P2, len2, x2, y2, a1, a2, a3, a4, a5, a6, a7, a8, a9⟩
    have HX : Hid (∀ W2, Cs W2 (w2.heap.size + 1) #[.int .i64 (sumL (ocG zs n) ks), .int .i64 (sumL (ocE zs n) ks)] → Cs W2 w.heap.size #[.int .i64 0, .int .i64 0] → Below w.heap.size w W2 → Ix (.exit 0) (k + 1) W2) :=
      Lib.hid fun W2 a1 a2 a3 => by rw [hXd]; exact ⟨rfl, a1, a2, a3⟩
    clear hId hXd hI hIx
    by_cases hl0 : len = 0
    · subst hl0
      obtain rfl : j = Nn := by omega
      have T1 : Turns (fun i => i = w2.heap.size ∨ i = w2.heap.size + 1) W W := Turns.refl _ _
      have HP := HX.out W (by rw [← List.take_of_length_le (l := ks) (i := j) (by omega), ← hx, ← hy]; exact h10) hr hbl
      have HP := Lib.hid (And.intro T1 HP)
      clear HX HI hx hy hst hoff T1
      have ch9 := h9.c
      have fh9 := h9.f
      have lh9 := h9.lt
      gi_wp2_with fail
      exact HP.out
    · obtain ⟨b, o, rfl, rfl⟩ := hoff (by omega)
      have hlI : (0 : Int) < (len : Int) := by omega
      have hlB : ((len : Int) == 0) = false := by simp; omega
      have hlN : ¬ (len : Int) = 0 := by omega
      have hcell := (Hk.out.below hbl).cell0 j (by omega)
      obtain ⟨q1, q2, q3, q4⟩ := Hb.out k hkM
      obtain ⟨r1, r2⟩ := HbG.out j (by omega)
      obtain ⟨r3, r4⟩ := HbE.out j (by omega)
      rw [← hx] at r1 r2
      rw [← hy] at r3 r4
      clear hoff
      by_cases hx0 : ks.getD j 0 = (k : Int)
      · rw [hx0] at hcell
        have Hst := Lib.hid (hst.hit Hso.out (by omega) hx0)
        have Hx2 : Hid (x + ocG zs n k = sumL (ocG zs n) (ks.take (j + 1))) := Lib.hid (by rw [sumL_take (by omega), hx, hx0]; simp)
        have Hy2 : Hid (y + ocE zs n k = sumL (ocE zs n) (ks.take (j + 1))) := Lib.hid (by rw [sumL_take (by omega), hy, hx0]; simp)
        have ka := fun (W' : World) (gB : Nat) (hB : Cs W' gB #[.int .i64 x, .int .i64 y, .int .i64 (ocG zs n k), .int .i64 (ocE zs n k)]) => add_any x y (ocG zs n k) (ocE zs n k) gB W' hB (by omega) _ _ rfl rfl
        clear hx hy hst hx0 r1 r2 r3 r4 q1 q2 q3 q4 HX
        generalize ocG zs n k = oG at *
        generalize ocE zs n k = oE at *
        by_cases hl1 : len = 1
        · subst hl1
          have ch9 := h9.c
          have fh9 := h9.f
          have lh9 := h9.lt
          have ch10 := h10.c
          have fh10 := h10.f
          have lh10 := h10.lt
          have cB4 := B4.c
          have fB4 := B4.f
          have lB4 := B4.lt
          gi_wp2_with fail
          refine ⟨trivial, (CallsIn.inRound l (callsIn_wide.2 (ka _ _ (Cs.new _ _ _ _ rfl)))).mono ?_⟩
          rintro _ w5 ⟨rfl, hb5⟩
          clear ch9 fh9 lh9 ch10 fh10 lh10 cB4 fB4 lB4
          have F9 : Cs w5 w2.heap.size #[.slice (some ⟨b, o + j, none⟩) 1 1] := Cs.keep csA hb5
          have F10 : Cs w5 (w2.heap.size + 1) #[.int .i64 x, .int .i64 y] := Cs.keep csA hb5
          have Fr : Cs w5 w.heap.size #[.int .i64 0, .int .i64 0] := Cs.keep csA hb5
          have T5 : Turns (fun i => i = w2.heap.size ∨ i = w2.heap.size + 1) W w5 := Turns.of_below ((balloc (Below.refl _ _) _).trans (hb5.mono (by simp)))
          have T6 : Turns (fun i => i = w2.heap.size ∨ i = w2.heap.size + 1) w5 ((w5.setCell ⟨w2.heap.size + 1, 0, none⟩ (.int .i64 (x + oG))).setCell ⟨w2.heap.size + 1, 1, none⟩ (.int .i64 (y + oE))) := turns_set2 _ _ (.inr rfl)
          have G10 := F10.set2 (.int .i64 (x + oG)) (.int .i64 (y + oE))
          have G9 := F9.other2 (g' := w2.heap.size + 1) (by omega) (.int .i64 (x + oG)) (.int .i64 (y + oE))
          have Gr := Fr.other2 (g' := w2.heap.size + 1) (by omega) (.int .i64 (x + oG)) (.int .i64 (y + oE))
          have Hs := Lib.hid (And.intro G10 (And.intro G9 (And.intro Gr (T5.trans T6))))
          have c10 := F10.c
          have f10 := F10.f
          have l10 := F10.lt
          have c9 := G9.c
          have f9 := G9.f
          have l9 := G9.lt
          clear F9 F10 Fr T5 T6 G10 Gr ka hb5 G9
          gi_wp2_with fail
          obtain ⟨G10, G9, Gr, T6⟩ := Hs.out
          generalize (w5.setCell ⟨w2.heap.size + 1, 0, none⟩ (.int .i64 (x + oG))).setCell ⟨w2.heap.size + 1, 1, none⟩ (.int .i64 (y + oE)) = W6 at *
          have T7 : Turns (fun i => i = w2.heap.size ∨ i = w2.heap.size + 1) W6 (W6.setCell ⟨w2.heap.size, 0, none⟩ (.slice (some ⟨b, o + j, none⟩) 0 0)) := Turns.setCell _ (.inl rfl)
          refine ⟨T6.trans T7, HI.out (j + 1) (some ⟨b, o + j, none⟩) 0 _ _ _ (G9.set 0 _ (by simp)) (by omega) (fun h => absurd h (by omega)) Hst.out Hx2.out Hy2.out (G10.other (p := ⟨w2.heap.size, 0, none⟩) (by show w2.heap.size + 1 ≠ w2.heap.size; omega) _) (Gr.other (p := ⟨w2.heap.size, 0, none⟩) (by show w.heap.size ≠ w2.heap.size; omega) _) ?_⟩
          exact Turns.below hbl (T6.trans T7) (fun i hi => by rcases hi with hi | hi <;> omega) (by have := hbl.size; omega)
        · have d1 : ¬ (len : Int) = 1 := by omega
          have d2 : (1 : Int) < (len : Int) := by omega
          have d3 : ¬ (len : Int) - 1 = 0 := by omega
          have d4 : (1 : Int) ≤ (len : Int) := by omega
          have d5 : ¬ len - 1 = 0 := by omega
          have d6 : 1 < len := by omega
          have ch9 := h9.c
          have fh9 := h9.f
          have lh9 := h9.lt
          have ch10 := h10.c
          have fh10 := h10.f
          have lh10 := h10.lt
          have cB4 := B4.c
          have fB4 := B4.f
          have lB4 := B4.lt
          gi_wp2_with fail
          refine ⟨trivial, (CallsIn.inRound l (callsIn_wide.2 (ka _ _ (Cs.new _ _ _ _ rfl)))).mono ?_⟩
          rintro _ w5 ⟨rfl, hb5⟩
          clear ch9 fh9 lh9 ch10 fh10 lh10 cB4 fB4 lB4
          have F9 : Cs w5 w2.heap.size #[.slice (some ⟨b, o + j, none⟩) len len] := Cs.keep csA hb5
          have F10 : Cs w5 (w2.heap.size + 1) #[.int .i64 x, .int .i64 y] := Cs.keep csA hb5
          have Fr : Cs w5 w.heap.size #[.int .i64 0, .int .i64 0] := Cs.keep csA hb5
          have T5 : Turns (fun i => i = w2.heap.size ∨ i = w2.heap.size + 1) W w5 := Turns.of_below ((balloc (Below.refl _ _) _).trans (hb5.mono (by simp)))
          have T6 : Turns (fun i => i = w2.heap.size ∨ i = w2.heap.size + 1) w5 ((w5.setCell ⟨w2.heap.size + 1, 0, none⟩ (.int .i64 (x + oG))).setCell ⟨w2.heap.size + 1, 1, none⟩ (.int .i64 (y + oE))) := turns_set2 _ _ (.inr rfl)
          have G10 := F10.set2 (.int .i64 (x + oG)) (.int .i64 (y + oE))
          have G9 := F9.other2 (g' := w2.heap.size + 1) (by omega) (.int .i64 (x + oG)) (.int .i64 (y + oE))
          have Gr := Fr.other2 (g' := w2.heap.size + 1) (by omega) (.int .i64 (x + oG)) (.int .i64 (y + oE))
          have Hs := Lib.hid (And.intro G10 (And.intro G9 (And.intro Gr (T5.trans T6))))
          have c10 := F10.c
          have f10 := F10.f
          have l10 := F10.lt
          have c9 := G9.c
          have f9 := G9.f
          have l9 := G9.lt
          clear F9 F10 Fr T5 T6 G10 Gr ka hb5 G9
          gi_wp2_with fail
          obtain ⟨G10, G9, Gr, T6⟩ := Hs.out
          generalize (w5.setCell ⟨w2.heap.size + 1, 0, none⟩ (.int .i64 (x + oG))).setCell ⟨w2.heap.size + 1, 1, none⟩ (.int .i64 (y + oE)) = W6 at *
          have T7 : Turns (fun i => i = w2.heap.size ∨ i = w2.heap.size + 1) W6 (W6.setCell ⟨w2.heap.size, 0, none⟩ (.slice (some ⟨b, o + j + 1, none⟩) (len - 1) (len - 1))) := Turns.setCell _ (.inl rfl)
          refine ⟨T6.trans T7, HI.out (j + 1) (some ⟨b, o + j + 1, none⟩) (len - 1) _ _ _ (G9.set 0 _ (by simp)) (by omega) (fun h => ⟨b, o, rfl, by rw [Nat.add_assoc]⟩) Hst.out Hx2.out Hy2.out (G10.other (p := ⟨w2.heap.size, 0, none⟩) (by show w2.heap.size + 1 ≠ w2.heap.size; omega) _) (Gr.other (p := ⟨w2.heap.size, 0, none⟩) (by show w.heap.size ≠ w2.heap.size; omega) _) ?_⟩
          exact Turns.below hbl (T6.trans T7) (fun i hi => by rcases hi with hi | hi <;> omega) (by have := hbl.size; omega)
      · have hxb : (ks.getD j 0 == (k : Int)) = false := by simpa using hx0
        have T1 : Turns (fun i => i = w2.heap.size ∨ i = w2.heap.size + 1) W W := Turns.refl _ _
        have HP := Lib.hid (And.intro T1 (HI.out j _ len x y W h9 hlj (fun _ => ⟨b, o, rfl, rfl⟩) (hst.miss Hso.out (fun _ => hx0)) hx hy h10 hr hbl))
        clear HX HI hx hy hst T1 hx0
        generalize ks.getD j 0 = z at *
        have ch9 := h9.c
        have fh9 := h9.f
        have lh9 := h9.lt
        gi_wp2_with fail
        exact HP.out
  case done =>
    intro W hi hD
    rw [hId] at hi
    obtain ⟨j, P, len, x, y, h9, hlj, hoff, hst, hx, hy, h10, hr, hbl⟩ := hi
    have hj := hst.end_ Hso.out
    subst hj
    rw [List.take_length] at hx hy
    have HD := Lib.hid hD
    have Hx := Lib.hid hx
    have Hy := Lib.hid hy
    clear hId hXd hI hIx hD h9 hst hoff hx hy
    have ch10 := h10.c
    have fh10 := h10.f
    have lh10 := h10.lt
    have chr := hr.c
    have fhr := hr.f
    have lhr := hr.lt
    gi_wp2_with fail
    have K6 := hr.set2 (.int .i64 x) (.int .i64 y)
    have TK : Turns (fun i => i = w.heap.size) W ((W.setCell ⟨w.heap.size, 0, none⟩ (.int .i64 x)).setCell ⟨w.heap.size, 1, none⟩ (.int .i64 y)) := turns_set2 (O := fun i => i = w.heap.size) _ _ rfl
    have KD := Lib.hid ((TK.block _ (Array.getElem?_eq_some_iff.1 HD.out).1 (by omega)).trans HD.out)
    have Kb := Turns.below hbl TK (fun i hi => by have hi' : i = w.heap.size := hi; omega) (by have := hbl.size; omega)
    have hsK := TK.size
    clear TK chr fhr lhr hr
    generalize (W.setCell ⟨w.heap.size, 0, none⟩ (.int .i64 x)).setCell ⟨w.heap.size, 1, none⟩ (.int .i64 y) = W8 at *
    have T9 : Turns (fun i => i = w4.heap.size) W8 (W8.putObj w4.heap.size (.deferred none)) := Turns.putObj _ rfl
    have L9 := K6.turns T9 (by omega)
    have hb9 := Turns.below Kb T9 (fun i hi => by have hi' : i = w4.heap.size := hi; omega) (by have := Kb.size; omega)
    refine ⟨by simp, .inl ⟨_, _, rfl, run_takeDeferred KD.out, ?_⟩⟩
    have c9 := L9.c
    exact ⟨.tuple #[.agg #[.int .i64 x, .int .i64 y], .int .i64 0], by simp [results, Try.results38, go_sem, c9], by rw [Hx.out, Hy.out], hb9⟩
  case stop =>
    intro cc k W hk hx hD
    rw [hXd] at hx
    obtain ⟨rfl, h10, hr, hbl⟩ := hx
    have HD := Lib.hid hD
    clear hId hXd hI hIx hD
    obtain ⟨x, hx⟩ : ∃ x, sumL (ocG zs n) ks = x := ⟨_, rfl⟩
    obtain ⟨y, hy⟩ : ∃ x, sumL (ocE zs n) ks = x := ⟨_, rfl⟩
    rw [hx, hy] at h10
    have Hx := Lib.hid hx
    have Hy := Lib.hid hy
    clear hx hy
    have ch10 := h10.c
    have fh10 := h10.f
    have lh10 := h10.lt
    have chr := hr.c
    have fhr := hr.f
    have lhr := hr.lt
    gi_wp2_with fail
    have K6 := hr.set2 (.int .i64 x) (.int .i64 y)
    have TK : Turns (fun i => i = w.heap.size) W ((W.setCell ⟨w.heap.size, 0, none⟩ (.int .i64 x)).setCell ⟨w.heap.size, 1, none⟩ (.int .i64 y)) := turns_set2 (O := fun i => i = w.heap.size) _ _ rfl
    have KD := Lib.hid ((TK.block _ (Array.getElem?_eq_some_iff.1 HD.out).1 (by omega)).trans HD.out)
    have Kb := Turns.below hbl TK (fun i hi => by have hi' : i = w.heap.size := hi; omega) (by have := hbl.size; omega)
    have hsK := TK.size
    clear TK chr fhr lhr hr
    generalize (W.setCell ⟨w.heap.size, 0, none⟩ (.int .i64 x)).setCell ⟨w.heap.size, 1, none⟩ (.int .i64 y) = W8 at *
    have T9 : Turns (fun i => i = w4.heap.size) W8 (W8.putObj w4.heap.size (.deferred none)) := Turns.putObj _ rfl
    have L9 := K6.turns T9 (by omega)
    have hb9 := Turns.below Kb T9 (fun i hi => by have hi' : i = w4.heap.size := hi; omega) (by have := Kb.size; omega)
    refine ⟨by simp, .inl ⟨_, _, rfl, run_takeDeferred KD.out, ?_⟩⟩
    have c9 := L9.c
    exact ⟨.tuple #[.agg #[.int .i64 x, .int .i64 y], .int .i64 0], by simp [results, Try.results38, go_sem, c9], by rw [Hx.out, Hy.out], hb9⟩

theorem esum_any (A B : Option Addr) (n c Nn C : Nat) (zs : List Pl) (ks : List Int) (w : World) (hz : Plates w A n zs) (hn : n ≤ 9223372036854775807) (hk : Ints w B Nn ks) (hN : Nn ≤ 9223372036854775807) (hC : Nn ≤ C) :
    Calls Try.prog 38 #[.slice A n c, .slice B Nn C] w fun e w' => e = RetOE (sumP zs n ks) ∧ Below w.heap.size w w' := by
  by_cases ht : testE zs = 0
  · by_cases hs : setE (manyT zs) ks = 0
    · have hl := hz.1
      obtain ⟨t1, t2, _⟩ := testE_ok ht
      rw [show sumP zs n ks = ((sumL (ocG zs n) ks, sumL (ocE zs n) ks), 0) by simp [sumP, rsetP, ht, hs]]
      exact esum_ok A B n c Nn C zs ks w hz (by omega) hk hC ht hs
    · rw [show sumP zs n ks = ((0, 0), setE (manyT zs) ks) by simp [sumP, rsetP, ht, hs]]
      exact esum_set A B n c Nn C zs ks w hz hn hk hN ht hs
  · rw [show sumP zs n ks = ((0, 0), testE zs) by simp [sumP, rsetP, ht]]
    exact esum_bad A B n c Nn C zs w hz hn ht

end Go.Proofs.Ytcmllkjgggcghaa
end

/- Walks of the reference of layer 10: Odds, Whole. -/
section
namespace Go.Proofs.Ytcmllkjgggcghaa
open Go.RowKit Go.Shelf
set_option linter.unusedSimpArgs false
set_option linter.unusedVariables false

set_option maxHeartbeats 1000000 in
theorem rOdds_bad (A B : Option Addr) (n c N C : Nat) (zs : List Pl) (w : World) (hz : Plates w A n zs) (hn : n ≤ 9223372036854775807) (ht : testE zs ≠ 0) :
    Calls Try.prog 37 #[.slice A n c, .slice B N C] w fun e w' => e = RetOE ((0, 0), testE zs) ∧ Below w.heap.size w w' := by
  have k1 := fun (W : World) (hb : Below w.heap.size w W) => rcheckTest_any A n c zs W (hz.below hb) hn
  have h0 : (testE zs == 0) = false := by simp [ht]
  have h1 : (testE zs != 0) = true := by simp [ht]
  unfold RetOE
  generalize testE zs = e at *
  clear ht hz
  go_enter Try.func37, Try.ntmps37
  go_wp2_with fail
  refine (k1 _ blA).mono ?_
  rintro e w1 ⟨rfl, hb1⟩
  replace B0 : Cs w1 (w.heap.size) #[.int .i64 0, .int .i64 0] := Cs.keep csA hb1
  replace hbw : Below w.heap.size w w1 := blA
  replace cB0 := B0.c
  replace fB0 := B0.f
  replace lB0 := B0.lt
  clear hb1
  go_wp2_with fail
  refine (k1 _ blA).mono ?_
  rintro e w2 ⟨rfl, hb2⟩
  replace B0 : Cs w2 (w.heap.size) #[.int .i64 0, .int .i64 0] := Cs.keep csA hb2
  replace hbw : Below w.heap.size w w2 := blA
  replace cB0 := B0.c
  replace fB0 := B0.f
  replace lB0 := B0.lt
  clear hb2
  go_wp2_with fail
  have F0 := B0.set2 (.int .i64 0) (.int .i64 0)
  have cF := F0.c
  have hbF := bset2 hbw (Nat.le_refl w.heap.size) (.int .i64 0) (.int .i64 0)
  exact bodyPost_ret (v := .tuple #[.agg #[.int .i64 0, .int .i64 0], .int .i64 e]) (by simp [results, Try.results37, go_sem, cB0, fB0, lB0, cF]) rfl ⟨rfl, hbF⟩

set_option maxHeartbeats 1000000 in
theorem rOdds_len (A B : Option Addr) (n c N C : Nat) (zs : List Pl) (w : World) (hz : Plates w A n zs) (hn : n ≤ 9223372036854775807) (ht : testE zs = 0) (hN : N ≠ n) :
    Calls Try.prog 37 #[.slice A n c, .slice B N C] w fun e w' => e = RetOE ((0, 0), 15) ∧ Below w.heap.size w w' := by
  have k1 := fun (W : World) (hb : Below w.heap.size w W) => rcheckTest_any A n c zs W (hz.below hb) hn
  rw [ht] at k1
  have h0 : ((N : Int) == (n : Int)) = false := by simp; omega
  have h1 : ((N : Int) != (n : Int)) = true := by simp; omega
  unfold RetOE
  clear ht hz
  go_enter Try.func37, Try.ntmps37
  go_wp2_with fail
  refine (k1 _ blA).mono ?_
  rintro e w1 ⟨rfl, hb1⟩
  replace B0 : Cs w1 (w.heap.size) #[.int .i64 0, .int .i64 0] := Cs.keep csA hb1
  replace hbw : Below w.heap.size w w1 := blA
  replace cB0 := B0.c
  replace fB0 := B0.f
  replace lB0 := B0.lt
  clear hb1
  go_wp2_with fail
  have F0 := B0.set2 (.int .i64 0) (.int .i64 0)
  have cF := F0.c
  have hbF := bset2 hbw (Nat.le_refl w.heap.size) (.int .i64 0) (.int .i64 0)
  exact bodyPost_ret (v := .tuple #[.agg #[.int .i64 0, .int .i64 0], .int .i64 15]) (by simp [results, Try.results37, go_sem, cB0, fB0, lB0, cF]) rfl ⟨rfl, hbF⟩

set_option maxRecDepth 10000 in
set_option maxHeartbeats 2000000 in
theorem rOdds_ok (A B : Option Addr) (n c C : Nat) (zs : List Pl) (ds : List Int) (w : World) (hz : Plates w A n zs) (hn : n ≤ 9223372036854775807) (ht : testE zs = 0) (hd : Ints w B n ds) :
    Calls Try.prog 37 #[.slice A n c, .slice B n C] w fun e w' => e = RetOE (if fitB zs ds then ((oddG zs (gfun ds) n, oddE zs (gfun ds) n), 0) else ((0, 0), 3)) ∧ Below w.heap.size w w' := by
  have k1 := fun (W : World) (hb : Below w.heap.size w W) => rcheckTest_any A n c zs W (hz.below hb) hn
  obtain ⟨t1, t2, hg⟩ := testE_ok ht
  have hl := hz.1
  have n6 : n ≤ 6 := by omega
  rw [ht] at k1
  have ko := fun (W : World) (hb : Below w.heap.size w W) (hf : Fit zs (gfun ds)) (h : ∀ i, i < n → ds.getD i 0 = (gfun ds i : Int)) => rodds_any A B n c C zs ds (gfun ds) W (hz.below hb) (hd.below hb) n6 hg hf h
  have hfit := fitB_iff (ds := ds) hl
  have Hz := Lib.hid hz
  have Hd := Lib.hid hd
  have Hfit := Lib.hid hfit
  have Hko := Lib.hid ko
  have Hl := Lib.hid hl
  unfold RetOE
  obtain ⟨R, hR⟩ : ∃ R, (if fitB zs ds then ((oddG zs (gfun ds) n, oddE zs (gfun ds) n), 0) else ((0, 0), (3 : Int))) = R := ⟨_, rfl⟩
  rw [hR]
  have HR := Lib.hid hR
  clear hz hg ht t1 t2 hd hfit hR ko hl
  go_enter Try.func37, Try.ntmps37
  go_wp2_with fail
  refine (k1 _ blA).mono ?_
  rintro e w1 ⟨rfl, hb1⟩
  replace B0 : Cs w1 (w.heap.size) #[.int .i64 0, .int .i64 0] := Cs.keep csA hb1
  replace hbw : Below w.heap.size w w1 := blA
  replace cB0 := B0.c
  replace fB0 := B0.f
  replace lB0 := B0.lt
  clear hb1
  clear k1
  go_wp2_with fail
  go_loopw [6] (fun s6 wx => ∃ (k : Nat) (W : World), k ≤ n ∧ s6 = .int .i64 (k : Nat) ∧ Hid (W = wx) ∧ Hid (∀ i, i < k → 0 ≤ ds.getD i 0 ∧ ds.getD i 0 < ((plAt zs i).gn : Nat)) ∧ Cs W w.heap.size #[.int .i64 0, .int .i64 0] ∧ Below w.heap.size w W) (fun s6 _ => n - (intOf s6).toNat)
  case atStart => exact ⟨0, _, Nat.zero_le _, rfl, Lib.hid rfl, Lib.hid (fun i hi => absurd hi (by omega)), B0, hbw⟩
  case round =>
    clear B0 cB0 fB0 lB0 hbw
    obtain ⟨k, W, hk, rfl, HW, Hpre, B0, hbw⟩ := hrel
    obtain rfl := HW.out
    clear HW
    by_cases hkn : k < n
    · have hkI : (k : Int) < (n : Int) := by omega
      have hk0 : (0 : Int) ≤ (k : Int) := by omega
      obtain ⟨b, off, p, rfl, hget, c0, c1⟩ := Hz.out.at_ hbw hkn
      obtain ⟨bd, od, rfl, hdl, cd⟩ := Hd.out.at0 hbw hkn
      have hpa := plAt_eq hget
      have Hout : Hid (¬ (0 ≤ ds.getD k 0 ∧ ds.getD k 0 < (p.gn : Int)) → R = ((0, 0), 3)) := Lib.hid (fun h => by
        rw [← HR.out, if_neg]
        intro hf
        have := Hfit.out.1 hf k hkn
        rw [hpa] at this
        exact h this)
      have Hin : Hid ((0 ≤ ds.getD k 0 ∧ ds.getD k 0 < (p.gn : Int)) → ∀ i, i < k + 1 → 0 ≤ ds.getD i 0 ∧ ds.getD i 0 < ((plAt zs i).gn : Nat)) := Lib.hid (fun h i hi => by
        by_cases e : i = k
        · subst e; rw [hpa]; exact h
        · exact Hpre.out i (by omega))
      clear hget hpa Hpre
      generalize ds.getD k 0 = x at *
      by_cases q1 : x < 0
      · have h3 := Hout.out (by omega)
        subst h3
        clear Hout Hin HR Hko
        go_wp2_with fail
        go_quiet (fail)
        have cB0 := B0.c
        have fB0 := B0.f
        have lB0 := B0.lt
        go_wp2_with fail
        have F0 := B0.set2 (.int .i64 0) (.int .i64 0)
        have cF := F0.c
        have hbF := bset2 hbw (Nat.le_refl w.heap.size) (.int .i64 0) (.int .i64 0)
        refine bodyPost_ret (v := .tuple #[.agg #[.int .i64 0, .int .i64 0], .int .i64 3]) (by simp [results, Try.results37, go_sem, cB0, fB0, lB0, cF]) rfl ⟨rfl, ?_⟩
        first | exact hbF | exact bset2 (bdrewN hbw _) (Nat.le_refl w.heap.size) (.int .i64 0) (.int .i64 0)
      · by_cases q2 : (p.gn : Int) ≤ x
        · have h3 := Hout.out (by omega)
          subst h3
          clear Hout Hin HR Hko
          go_wp2_with fail
          go_quiet (fail)
          have cB0 := B0.c
          have fB0 := B0.f
          have lB0 := B0.lt
          go_wp2_with fail
          have F0 := B0.set2 (.int .i64 0) (.int .i64 0)
          have cF := F0.c
          have hbF := bset2 hbw (Nat.le_refl w.heap.size) (.int .i64 0) (.int .i64 0)
          refine bodyPost_ret (v := .tuple #[.agg #[.int .i64 0, .int .i64 0], .int .i64 3]) (by simp [results, Try.results37, go_sem, cB0, fB0, lB0, cF]) rfl ⟨rfl, ?_⟩
          first | exact hbF | exact bset2 (bdrewN hbw _) (Nat.le_refl w.heap.size) (.int .i64 0) (.int .i64 0)
        · replace Hin := Lib.hid (Hin.out (by omega))
          clear Hout
          go_wp2_with fail
          go_quiet (fail)
          go_wp2_with fail
          go_roundw
          case rel => exact ⟨k + 1, _, by omega, by go_num, Lib.hid rfl, Hin, by first | exact B0 | exact B0.drewN _, blA⟩
          case measure => simp [intOf]; omega
    · obtain rfl : k = n := by omega
      have hf : fitB zs ds = true := Hfit.out.2 Hpre.out
      have hR2 : R = ((oddG zs (gfun ds) k, oddE zs (gfun ds) k), 0) := by rw [← HR.out, if_pos hf]
      subst hR2
      have kf := Hko.out W hbw (fit_gfun Hl.out Hpre.out) (fun i hi => by have := Hpre.out i hi; unfold gfun; omega)
      clear HR Hko Hpre hf
      obtain ⟨x, hx⟩ : ∃ x, oddG zs (gfun ds) k = x := ⟨_, rfl⟩
      obtain ⟨y, hy⟩ : ∃ y, oddE zs (gfun ds) k = y := ⟨_, rfl⟩
      rw [hx, hy] at kf
      have Hx := Lib.hid hx
      have Hy := Lib.hid hy
      clear hx hy
      go_wp2_with fail
      refine (kf).mono ?_
      rintro e w2 ⟨rfl, hb2⟩
      replace B0 : Cs w2 (w.heap.size) #[.int .i64 0, .int .i64 0] := Cs.keep csA hb2
      replace hbw : Below w.heap.size w w2 := blA
      replace cB0 := B0.c
      replace fB0 := B0.f
      replace lB0 := B0.lt
      clear hb2
      go_wp2_with fail
      have F0 := B0.set2 (.int .i64 x) (.int .i64 y)
      have cF := F0.c
      have hbF := bset2 hbw (Nat.le_refl w.heap.size) (.int .i64 x) (.int .i64 y)
      exact bodyPost_ret (v := .tuple #[.agg #[.int .i64 x, .int .i64 y], .int .i64 0]) (by simp [results, Try.results37, go_sem, cB0, fB0, lB0, cF]) rfl ⟨by rw [Hx.out, Hy.out], hbF⟩

theorem rOdds_any (A B : Option Addr) (n c N C : Nat) (zs : List Pl) (ds : List Int) (w : World) (hz : Plates w A n zs) (hn : n ≤ 9223372036854775807) (hd : Ints w B N ds) :
    Calls Try.prog 37 #[.slice A n c, .slice B N C] w fun e w' => e = RetOE (oddsP zs n ds) ∧ Below w.heap.size w w' := by
  by_cases ht : testE zs = 0
  · by_cases hN : N = n
    · subst hN
      rw [show oddsP zs N ds = if fitB zs ds then ((oddG zs (gfun ds) N, oddE zs (gfun ds) N), 0) else ((0, 0), 3) by simp [oddsP, ht, hd.1, hz.1]]
      exact rOdds_ok A B N c C zs ds w hz hn ht hd
    · rw [show oddsP zs n ds = ((0, 0), 15) by simp [oddsP, ht, hd.1, hz.1, hN]]
      exact rOdds_len A B n c N C zs w hz hn ht hN
  · rw [show oddsP zs n ds = ((0, 0), testE zs) by simp [oddsP, ht]]
    exact rOdds_bad A B n c N C zs w hz hn ht

set_option maxRecDepth 10000 in
set_option maxHeartbeats 2000000 in
theorem rwhole_any (A : Option Addr) (n c : Nat) (zs : List Pl) (w : World) (hz : Plates w A n zs) (hn : n ≤ 9223372036854775807) :
    Calls Try.prog 35 #[.slice A n c] w fun e w' => e = RetNE (if testE zs = 0 then (whole zs, 0) else (0, testE zs)) ∧ Below w.heap.size w w' := by
  have k1 := fun (W : World) (hb : Below w.heap.size w W) => rcheckTest_any A n c zs W (hz.below hb) hn
  unfold RetNE
  by_cases ht : testE zs = 0
  · rw [if_pos ht]
    rw [ht] at k1
    obtain ⟨t1, t2, hg⟩ := testE_ok ht
    have hl := hz.1
    have Hz := Lib.hid hz
    have Hg := Lib.hid hg
    have HW := Lib.hid (fun k hk => whole_bd hg k hk)
    have Hl := Lib.hid hl
    generalize hR : whole zs = R at *
    have HR := Lib.hid hR
    have n6 : n ≤ 6 := by omega
    clear hz hg ht hR hl t1 t2
    go_enter Try.func35, Try.ntmps35
    go_wp2_with fail
    refine (k1 _ blA).mono ?_
    rintro _ w1 ⟨rfl, hb1⟩
    try clear cB0 fB0 lB0
    try clear B0
    replace hbw : Below w.heap.size w w1 := blA
    clear hb1
    clear k1
    go_wp2_with fail
    go_loopw [4, 5] (fun s4 s5 wx => ∃ (k : Nat) (x : Int) (W : World), k ≤ n ∧ s5 = .int .i64 k ∧ s4 = .int .i64 x ∧ Hid (W = wx) ∧ Hid (x = whole (zs.take k)) ∧ Below w.heap.size w W) (fun _ s5 _ => n - (intOf s5).toNat)
    case atStart => exact ⟨0, 1, _, Nat.zero_le _, rfl, rfl, Lib.hid rfl, Lib.hid (by simp [whole]), hbw⟩
    case round =>
      clear hbw
      obtain ⟨k, x, W, hk, rfl, rfl, HWx, Hx, hbw⟩ := hrel
      obtain rfl := HWx.out
      clear HWx
      by_cases hkn : k < n
      · have hkI : (k : Int) < (n : Int) := by omega
        have hk0 : (0 : Int) ≤ (k : Int) := by omega
        obtain ⟨b, off, p, rfl, hget, c0, c1⟩ := Hz.out.at_ hbw hkn
        have hmem := List.mem_of_getElem? hget
        have g := Hg.out p hmem
        have hok := Hz.out.2.2 p hmem
        have Hget := Lib.hid hget
        obtain ⟨bg, og, hgA, hgl, hgc⟩ := hok.1.2 (by have := g.g2; omega)
        rw [hgA] at c0
        have HgA := Lib.hid hgA
        have Hgc := Lib.hid hgc
        have Hok := Lib.hid hok
        have HgG := Lib.hid g
        have hg4 := g.g4
        clear hgA hget hmem hok hgc g
        go_wp2_with fail
        go_loopw [6, 7] (fun s6 s7 wx => ∃ (j : Nat) (y : Int) (W2 : World), j ≤ p.gn ∧ s7 = .int .i64 j ∧ s6 = .int .i64 y ∧ Hid (W2 = wx) ∧ Hid (y = (p.gs.take j).sum) ∧ (0 ≤ y ∧ y ≤ 20) ∧ Below w.heap.size w W2) (fun _ s7 _ => p.gn - (intOf s7).toNat)
        case atStart => exact ⟨0, 0, _, Nat.zero_le _, rfl, rfl, Lib.hid rfl, Lib.hid (by simp), by omega, hbw⟩
        case round =>
          clear hbw c0 c1
          obtain ⟨j, y, W2, hj, rfl, rfl, HW2, Hy, hy, hbw⟩ := hrel
          obtain rfl := HW2.out
          clear HW2
          obtain ⟨c0, c1⟩ := Hz.out.cell hbw hkn Hget.out
          rw [HgA.out] at c0
          have hj0 : (0 : Int) ≤ (j : Int) := by omega
          by_cases hjn : j < p.gn
          · have hjI : (j : Int) < (p.gn : Int) := by omega
            have cg : W2.cell? ⟨bg, og + j, none⟩ = some (.int .i64 (p.gs.getD j 0)) := (hbw.cell (p := ⟨bg, og + j, none⟩) hgl).trans (Hgc.out j hjn)
            have Hst := Lib.hid (sum_take p.gs j (by rw [Hok.out.1.1]; exact hjn))
            have ha := sum_take_le p.gs (j + 1) HgG.out.gs0
            have h20 := HgG.out.s20
            rw [Hst.out, ← Hy.out] at ha
            generalize p.gs.getD j 0 = z at *
            have f1 : IntKind.i64.wrap (y + z) = y + z := IntWalk.i64_in _ (by omega)
            have hyz : 0 ≤ y + z ∧ y + z ≤ 20 := by omega
            clear ha h20
            go_wp2_with fail
            go_roundw
            case rel => exact ⟨j + 1, y + z, _, by omega, by go_num, rfl, Lib.hid rfl, Lib.hid (by rw [Hst.out, ← Hy.out]), hyz, hbw⟩
            case measure => simp [intOf]; omega
          · obtain rfl : j = p.gn := by omega
            have hyy : y = p.gs.sum := by rw [Hy.out, List.take_of_length_le (by rw [Hok.out.1.1]; exact Nat.le_refl _)]
            have hxx := whole_next Hget.out
            have hb1 := HW.out (k + 1) (by have := Hl.out; omega)
            have hp := pow20 (k + 1) (by omega)
            rw [hxx, ← Hx.out, ← hyy] at hb1
            have Hx2 : Hid (x * y = whole (zs.take (k + 1))) := Lib.hid (by rw [hxx, ← Hx.out, ← hyy])
            have f1 : IntKind.i64.wrap (x * y) = x * y := IntWalk.i64_in _ (by omega)
            clear hyy hxx hb1 hp
            go_wp2_with fail
            go_roundw
            case rel => exact ⟨k + 1, x * y, _, by omega, by go_num, rfl, Lib.hid rfl, Hx2, hbw⟩
            case measure => simp [intOf]; omega
      · obtain rfl : k = n := by omega
        have hR : x = R := by rw [Hx.out, List.take_of_length_le (by have := Hl.out; omega)]; exact HR.out
        subst hR
        go_wp2_with fail
        go_ret2
        exact ⟨rfl, hbw⟩
  · rw [if_neg ht]
    have h0 : (testE zs == 0) = false := by simp [ht]
    have h1 : (testE zs != 0) = true := by simp [ht]
    generalize testE zs = e at *
    clear ht hz
    go_enter Try.func35, Try.ntmps35
    go_wp2_with fail
    refine (k1 _ blA).mono ?_
    rintro _ w1 ⟨rfl, hb1⟩
    try clear cB0 fB0 lB0
    try clear B0
    replace hbw : Below w.heap.size w w1 := blA
    clear hb1
    go_wp2_with fail
    refine (k1 _ blA).mono ?_
    rintro _ w2 ⟨rfl, hb2⟩
    try clear cB0 fB0 lB0
    try clear B0
    replace hbw : Below w.heap.size w w2 := blA
    clear hb2
    go_wp2_with fail
    go_ret2
    exact ⟨rfl, blA⟩

end Go.Proofs.Ytcmllkjgggcghaa
end

/- Walks of the law package of layer 10: fine, Chosen, within. -/
section
namespace Go.Proofs.Ytcmllkjgggcghaa
open Go.RowKit Go.Shelf
set_option linter.unusedSimpArgs false
set_option linter.unusedVariables false

/-- a slice value that reads as a list of truth values -/
def Bools (w : World) (A : Option Addr) (n : Nat) (bs : List Bool) : Prop :=
  bs.length = n ∧ (0 < n → ∃ b off, A = some ⟨b, off, none⟩ ∧ b < w.heap.size ∧ ∀ i, i < n → w.cell? ⟨b, off + i, none⟩ = some (.bool (bs.getD i false)))
theorem Bools.below {w w' : World} {A : Option Addr} {n : Nat} {zs : List Bool} (h : Bools w A n zs) (hb : Below w.heap.size w w') : Bools w' A n zs := by
  refine ⟨h.1, fun hn => ?_⟩
  obtain ⟨b, off, rfl, hlt, hc⟩ := h.2 hn
  exact ⟨b, off, rfl, Nat.lt_of_lt_of_le hlt hb.size, fun i hi => (hb.cell (p := ⟨b, off + i, none⟩) hlt).trans (hc i hi)⟩
theorem Bools.new1 (w : World) (H : Nat) (x : Bool) (t : TypeId) (hH : w.heap.size = H) : Bools (w.alloc (.cells #[.bool x] t)) (some ⟨H, 0, none⟩) 1 [x] := by
  subst hH
  refine ⟨rfl, fun _ => ⟨w.heap.size, 0, rfl, by simp, fun i hi => ?_⟩⟩
  obtain rfl : i = 0 := by omega
  simp

/-- a truth value is handed back that is false if plates are no test -/
def RetFine (zs : List Pl) (w : World) (e : Ending) (w' : World) : Prop := ∃ b : Bool, e = .returned (.bool b) ∧ (b = true → testE zs = 0) ∧ Below w.heap.size w w'

set_option maxHeartbeats 1000000 in
theorem fine_any (A : Option Addr) (n c : Nat) (zs : List Pl) (w : World) (hz : Plates w A n zs) (hn : n ≤ 9223372036854775807) :
    Calls Try.prog 42 #[.slice A n c] w (RetFine zs w) := by
  have kg := fun (W : World) (hb : Below w.heap.size w W) => great_any A n c zs 1000 W (hz.below hb) hn
  have k1 := fun (W : World) (hb : Below w.heap.size w W) => rcheckTest_any A n c zs W (hz.below hb) hn
  unfold RetFine
  unfold RetSome at kg
  generalize testE zs = e at *
  clear hz
  go_enter Try.func42, Try.ntmps42
  go_wp2_with fail
  refine (kg _ blA).mono ?_
  rintro _ w1 ⟨b, rfl, hb1⟩
  replace hbw : Below w.heap.size w w1 := blA
  clear hb1
  clear kg
  cases b with
  | true =>
    go_wp2_with fail
    go_ret
    exact ⟨false, rfl, (fun h => by cases h), hbw⟩
  | false =>
    by_cases he : e = 0
    · have h0 : (e == 0) = true := by simp [he]
      have he' := Lib.hid he
      clear he
      go_wp2_with fail
      refine (k1 _ blA).mono ?_
      rintro _ w2 ⟨rfl, hb2⟩
      replace hbw : Below w.heap.size w w2 := blA
      clear hb2
      go_wp2_with fail
      go_ret
      exact ⟨true, rfl, (fun _ => he'.out), hbw⟩
    · have h0 : (e == 0) = false := by simp [he]
      have he' := Lib.hid he
      clear he
      go_wp2_with fail
      refine (k1 _ blA).mono ?_
      rintro _ w2 ⟨rfl, hb2⟩
      replace hbw : Below w.heap.size w w2 := blA
      clear hb2
      go_wp2_with fail
      go_ret
      exact ⟨false, rfl, (fun h => by cases h), hbw⟩

theorem own_intsC {w : World} {B n : Nat} {v : Value} {zs : List Int} (hl : zs.length = n) (h : w.ownsRow B 3 1 v n (zs.map (Value.int .i64))) : ∃ A c, v = .slice A n c ∧ Ints w A n zs ∧ n ≤ c := by
  have h2 := h
  obtain ⟨A, c, rfl, hi, -⟩ := own_intsI hl h2
  refine ⟨A, c, rfl, hi, ?_⟩
  rcases h.2 with ⟨e, h0⟩ | ⟨g, cap, cur, e, hB, hg, hnc, _⟩
  · injection e with e1 e2 e3; omega
  · injection e with e1 e2 e3; omega

/-- whether an outcome is chosen -/
def bitQ (bs : List Bool) (k : Nat) : Bool := bs.getD (k % bs.length) false
theorem bitQ_nil (k : Nat) : bitQ [] k = false := by simp [bitQ]
theorem selL_no {q : Nat → Bool} (h : ∀ k, q k = false) : ∀ k, selL q k = []
  | 0 => rfl
  | k + 1 => by rw [selL, h k, if_neg (by decide), selL_no h k]

/-- a list with its capacity -/
def RetSel (zs : List Int) (w : World) (e : Ending) (w' : World) : Prop := ∃ A n c, e = .returned (.slice A n c) ∧ Ints w' A n zs ∧ n ≤ c ∧ Below w.heap.size w w'

set_option maxRecDepth 10000 in
set_option maxHeartbeats 2000000 in
theorem chosen_any (A B : Option Addr) (n c m C : Nat) (zs : List Pl) (bs : List Bool) (w : World) (hz : Plates w A n zs) (hn : n ≤ 6) (hg : ∀ p ∈ zs, Good p) (hb : Bools w B m bs) (hm : m ≤ 9223372036854775807) :
    Calls Try.prog 43 #[.slice A n c, .slice B m C] w (RetSel (selL (bitQ bs) (manyT zs)) w) := by
  have hM2 := many_le hz.1 hn hg
  have km := fun (W : World) (hb : Below w.heap.size w W) => many_same A n c zs W (hz.below hb) hn hg (manyT zs) rfl
  have hbl := hb.1
  have Hb := Lib.hid hb
  unfold RetSel
  generalize hM : manyT zs = M at *
  clear hz hg hM hb
  by_cases hm0 : m = 0
  · subst hm0
    obtain rfl : bs = [] := List.eq_nil_of_length_eq_zero hbl
    have HS := Lib.hid (selL_no bitQ_nil M)
    go_enter Try.func43, Try.ntmps43
    go_wp2_with fail
    go_loopw [5, 6] (fun s5 s6 wx => s5 = .slice none 0 0 ∧ s6 = .int .i64 0 ∧ wx = w) (fun _ _ _ => 0)
    case atStart => exact ⟨rfl, rfl, rfl⟩
    case round =>
      obtain ⟨rfl, rfl, rfl⟩ := hrel
      have km1 := km _ (Below.refl _ _)
      by_cases hM0 : M = 0
      · subst hM0
        go_wp2_with fail
        refine km1.mono ?_
        rintro _ wm ⟨rfl, rfl⟩
        go_wp2_with fail
        go_ret
        exact ⟨none, 0, 0, rfl, by rw [HS.out]; exact Ints.nil _ _, Nat.le_refl _, blA⟩
      · have hMI : (0 : Int) < (M : Int) := by omega
        go_wp2_with fail
        refine km1.mono ?_
        rintro _ wm ⟨rfl, rfl⟩
        go_wp2_with fail
        go_ret
        exact ⟨none, 0, 0, rfl, by rw [HS.out]; exact Ints.nil _ _, Nat.le_refl _, blA⟩
  · have hmI : (0 : Int) < (m : Int) := by omega
    have hmB : ((m : Int) == 0) = false := by simp; omega
    have hmN : ¬ (m : Int) = 0 := by omega
    have Hm0 := Lib.hid hm0
    have Hbl := Lib.hid hbl
    clear hm0
    go_enter Try.func43, Try.ntmps43
    go_wp2_with fail
    go_loopw [5, 6] (fun s5 s6 wx => ∃ (k len : Nat) (W : World), k ≤ M ∧ s6 = .int .i64 (k : Nat) ∧ Hid (W = wx) ∧ Hid (len = (selL (bitQ bs) k).length) ∧ Hid (W.ownsRow w.heap.size 3 1 s5 len ((selL (bitQ bs) k).map (Value.int .i64))) ∧ Below w.heap.size w W) (fun _ s6 _ => M - (intOf s6).toNat)
    case atStart => exact ⟨0, 0, _, Nat.zero_le _, rfl, Lib.hid rfl, Lib.hid rfl, Lib.hid (World.ownsRow_nil _ _ _ _), blA⟩
    case round =>
      obtain ⟨k, len, W, hk, rfl, HW, Hlen, Hown, hbw⟩ := hrel
      obtain rfl := HW.out
      clear HW
      have km1 := km _ hbw
      by_cases hkM : k < M
      · have hkI : (k : Int) < (M : Int) := by omega
        have hk0 : (0 : Int) ≤ (k : Int) := by omega
        have hlen : len ≤ 4096 := by have := selL_le (bitQ bs) k; have := Hlen.out; omega
        have hmod : k % m < m := Nat.mod_lt _ (by have := Hm0.out; omega)
        obtain ⟨b, off, rfl, hlt, hc⟩ := Hb.out.2 (by have := Hm0.out; omega)
        have hcell := (hbw.cell (p := ⟨b, off + k % m, none⟩) hlt).trans (hc (k % m) hmod)
        have f1 : (k : Int).tmod (m : Int) = ((k % m : Nat) : Int) := by rw [Int.tmod_eq_emod_of_nonneg hk0]; rfl
        have f2 : IntKind.i64.wrap ((k % m : Nat) : Int) = ((k % m : Nat) : Int) := IntWalk.i64_in _ (by omega)
        have f3 : (0 : Int) ≤ ((k % m : Nat) : Int) := by omega
        have f4 : ((k % m : Nat) : Int) < (m : Int) := by omega
        have hq : bs.getD (k % m) false = bitQ bs k := by unfold bitQ; rw [Hbl.out]
        rw [hq] at hcell
        clear hc hq
        generalize k % m = r at *
        cases hqq : bitQ bs k with
        | true =>
          have Hst : Hid (selL (bitQ bs) (k + 1) = selL (bitQ bs) k ++ [(k : Int)]) := Lib.hid (by rw [selL, hqq, if_pos rfl])
          rw [hqq] at hcell
          clear hqq
          go_wp2_with fail
          refine km1.mono ?_
          rintro _ wm ⟨rfl, rfl⟩
          go_wp2_with (at_builtin; refine list_ownI rfl _ _ rfl w.heap.size _ _ (selL (bitQ bs) k) (by rfl) (own_keepI Hown.out blA) wm.heap.size (k : Nat) (by rfl) (by simp) (by omega) (by have := hbw.size; simp; omega) ?_; intro g5 c5 w5 hown5 hb5)
          go_roundw
          case rel => exact ⟨k + 1, len + 1, _, by omega, by go_num, Lib.hid rfl, Lib.hid (by rw [Hst.out, List.length_append, ← Hlen.out]; rfl), Lib.hid (by rw [Hst.out]; exact hown5), (balloc hbw _).trans hb5⟩
          case measure => simp [intOf]; omega
        | false =>
          have Hst : Hid (selL (bitQ bs) (k + 1) = selL (bitQ bs) k) := Lib.hid (by rw [selL, hqq, if_neg (by decide)])
          rw [hqq] at hcell
          clear hqq
          go_wp2_with fail
          refine km1.mono ?_
          rintro _ wm ⟨rfl, rfl⟩
          go_wp2_with fail
          go_roundw
          case rel => exact ⟨k + 1, len, _, by omega, by go_num, Lib.hid rfl, Lib.hid (by rw [Hst.out]; exact Hlen.out), Lib.hid (by rw [Hst.out]; exact Hown.out), blA⟩
          case measure => simp [intOf]; omega
      · obtain rfl : k = M := by omega
        obtain ⟨A5, c5, rfl, h5, hc5⟩ := own_intsC Hlen.out.symm Hown.out
        clear Hown
        go_wp2_with fail
        refine km1.mono ?_
        rintro _ wm ⟨rfl, rfl⟩
        go_wp2_with fail
        go_ret
        exact ⟨A5, len, c5, rfl, h5, hc5, hbw⟩

set_option maxRecDepth 10000 in
set_option maxHeartbeats 2000000 in
theorem within_true (A B : Option Addr) (n c m C : Nat) (xs ys : List Int) (p : Nat → Nat) (w : World) (hx : Ints w A n xs) (hy : Ints w B m ys) (hn : n ≤ 9223372036854775807) (hm : m ≤ 9223372036854775807)
    (hp : ∀ i, i < n → p i < m ∧ ys.getD (p i) 0 = xs.getD i 0) (hpm : ∀ i j, i < j → j < n → p i < p j) (hinc : ∀ i j, i < j → j < m → ys.getD i 0 < ys.getD j 0) :
    Calls Try.prog 44 #[.slice A n c, .slice B m C] w fun e w' => e = .returned (.bool true) ∧ Below w.heap.size w w' := by
  have Hx := Lib.hid hx
  have Hy := Lib.hid hy
  have Hp := Lib.hid hp
  have Hpm := Lib.hid hpm
  have Hinc := Lib.hid hinc
  clear hx hy hp hpm hinc
  go_enter Try.func44, Try.ntmps44
  go_wp2_with fail
  go_loopw [5, 6] (fun s5 s6 wx => ∃ (k i : Nat) (W : World), i ≤ n ∧ k ≤ m ∧ s5 = .int .i64 (k : Nat) ∧ s6 = .int .i64 (i : Nat) ∧ Hid (W = wx) ∧ Hid (i < n → k ≤ p i) ∧ Below w.heap.size w W) (fun _ s6 _ => n - (intOf s6).toNat)
  case atStart => exact ⟨0, 0, _, Nat.zero_le _, Nat.zero_le _, rfl, rfl, Lib.hid rfl, Lib.hid (fun _ => Nat.zero_le _), blA⟩
  case round =>
    obtain ⟨k, i, W, hi, hk, rfl, rfl, HW, Hk, hbw⟩ := hrel
    obtain rfl := HW.out
    clear HW
    by_cases hin : i < n
    · have hiI : (i : Int) < (n : Int) := by omega
      have hi0 : (0 : Int) ≤ (i : Int) := by omega
      obtain ⟨h1, h2⟩ := Hp.out i hin
      have hkp := Hk.out hin
      clear Hk
      go_wp2_with fail
      go_loopw [5] (fun s5 wx => ∃ (k : Nat) (W2 : World), k ≤ p i ∧ s5 = .int .i64 (k : Nat) ∧ Hid (W2 = wx) ∧ Below w.heap.size w W2) (fun s5 _ => p i - (intOf s5).toNat)
      case atStart => exact ⟨k, _, hkp, rfl, Lib.hid rfl, hbw⟩
      case round =>
        clear hbw hkp hk
        obtain ⟨k2, W2, hk2, rfl, HW2, hbw⟩ := hrel
        obtain rfl := HW2.out
        clear HW2
        have hkI : (k2 : Int) < (m : Int) := by omega
        have hk0 : (0 : Int) ≤ (k2 : Int) := by omega
        obtain ⟨ba, oa, rfl, hal, ca⟩ := Hx.out.at0 hbw hin
        obtain ⟨bb, ob, rfl, hbl, cb⟩ := Hy.out.at0 hbw (show k2 < m by omega)
        by_cases hlt : k2 < p i
        · have h3 := Hinc.out k2 (p i) hlt h1
          rw [h2] at h3
          have H2 := Lib.hid h2
          clear h2
          generalize xs.getD i 0 = x at *
          generalize ys.getD k2 0 = y at *
          go_wp2_with fail
          go_quiet (fail)
          go_wp2_with fail
          go_roundw
          case rel => exact ⟨k2 + 1, _, by omega, by go_num, Lib.hid rfl, blA⟩
          case measure => simp [intOf]; omega
        · obtain rfl : k2 = p i := by omega
          have Hlast := Lib.hid (fun h => Nat.le_of_lt (Hpm.out i (i + 1) (Nat.lt_succ_self _) h))
          rw [h2] at cb
          have hkm : ¬ (p i : Int) = (m : Int) := by omega
          have hkmB : ((p i : Int) == (m : Int)) = false := by simp; omega
          generalize xs.getD i 0 = x at *
          clear h2
          go_wp2_with fail
          go_quiet (fail)
          go_wp2_with fail
          go_quiet (fail)
          go_wp2_with fail
          go_roundw
          case rel => exact ⟨p i, i + 1, _, by omega, by omega, rfl, by go_num, Lib.hid rfl, Hlast, blA⟩
          case measure => simp [intOf]; omega
    · obtain rfl : i = n := by omega
      go_wp2_with fail
      go_ret
      exact ⟨rfl, blA⟩

end Go.Proofs.Ytcmllkjgggcghaa
end
