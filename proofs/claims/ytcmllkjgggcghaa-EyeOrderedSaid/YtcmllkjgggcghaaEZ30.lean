/- EM9 EK08 EL08 -/
import Derived.Test.YtcmllkjgggcghaaEZ26
import Derived.Test.YtcmllkjgggcghaaEZ16
import Derived.Test.YtcmllkjgggcghaaEZ28
import Derived.Test.YtcmllkjgggcghaaEZ01
import Derived.Test.YtcmllkjgggcghaaEZ22
import Derived.Sort.AtCall
import Derived.Test.YtcmllkjgggcghaaEZ17
/- Plain laws: sums over all outcomes of a test; the order of plates does not matter; a plate one of whose answers is parted. -/
section
namespace Go.Proofs.Ytcmllkjgggcghaa
set_option linter.unusedSimpArgs false
set_option linter.unusedVariables false
open Em (red)

/-- the sum of the first values -/
def sumN (f : Nat → Int) : Nat → Int
  | 0 => 0
  | k + 1 => sumN f k + f k
theorem sumN_congr {f f' : Nat → Int} : ∀ k, (∀ i, i < k → f i = f' i) → sumN f k = sumN f' k
  | 0, _ => rfl
  | k + 1, h => by rw [sumN, sumN, sumN_congr k (fun i hi => h i (by omega)), h k (by omega)]
theorem sumN_add (f : Nat → Int) (a : Nat) : ∀ b, sumN f (a + b) = sumN f a + sumN (fun r => f (a + r)) b
  | 0 => by simp [sumN]
  | b + 1 => by
    have := sumN_add f a b
    rw [← Nat.add_assoc, sumN, this, sumN, Int.add_assoc]
theorem sumN_mul (f : Nat → Int) (B : Nat) : ∀ A, sumN f (A * B) = sumN (fun q => sumN (fun r => f (q * B + r)) B) A
  | 0 => by simp [sumN]
  | A + 1 => by rw [Nat.add_mul, Nat.one_mul, sumN_add, sumN_mul f B A, sumN]
theorem sumN_plus (f g : Nat → Int) : ∀ k, sumN (fun i => f i + g i) k = sumN f k + sumN g k
  | 0 => by simp [sumN]
  | k + 1 => by rw [sumN, sumN, sumN, sumN_plus f g k]; omega
theorem sumN_scale (c : Int) (f : Nat → Int) : ∀ k, sumN (fun i => c * f i) k = c * sumN f k
  | 0 => by simp [sumN]
  | k + 1 => by rw [sumN, sumN, sumN_scale c f k, Int.mul_add]
theorem sumN_zero : ∀ k, sumN (fun _ => 0) k = 0
  | 0 => rfl
  | k + 1 => by rw [sumN, sumN_zero k]; rfl
theorem sumN_swap (f : Nat → Nat → Int) (b : Nat) : ∀ a, sumN (fun r => sumN (fun s => f r s) b) a = sumN (fun s => sumN (fun r => f r s) a) b
  | 0 => by simp only [sumN]; exact (sumN_zero b).symm
  | a + 1 => by
    rw [sumN, sumN_swap f b a, ← sumN_plus]
    rfl
theorem sumIf_sumN (f : Nat → Int) (p : Nat → Bool) : ∀ k, sumIf f p k = sumN (fun i => if p i then f i else 0) k
  | 0 => rfl
  | k + 1 => by rw [sumIf, sumN, sumIf_sumN f p k]
theorem sumN_list (l : List Int) : sumN (fun i => l.getD i 0) l.length = l.sum := by
  have h : ∀ k, k ≤ l.length → sumN (fun i => l.getD i 0) k = (l.take k).sum := by
    intro k
    induction k with
    | zero => intro _; simp [sumN]
    | succ k ih => intro hk; rw [sumN, ih (by omega), sum_take l k (by omega)]
  rw [h _ (Nat.le_refl _), List.take_length]

/-- the sum over all outcomes of some plates -/
def ocW : List Pl → (Int → Int → Int) → Int
  | [], F => F 1 1
  | p :: zs, F => sumN (fun r => ocW zs (fun g e => F (g * p.gs.getD r 0) (e * p.es.getD r 0))) p.gn
theorem ocW_sumN (zs : List Pl) : ∀ (F : Nat → Int → Int → Int) (k : Nat), ocW zs (fun g e => sumN (fun r => F r g e) k) = sumN (fun r => ocW zs (F r)) k := by
  induction zs with
  | nil => intro F k; rfl
  | cons p zs ih =>
    intro F k
    simp only [ocW]
    rw [sumN_swap]
    refine sumN_congr _ fun s hs => ?_
    exact ih (fun r g e => F r (g * p.gs.getD s 0) (e * p.es.getD s 0)) k
theorem ocW_scale (zs : List Pl) (c : Int) : ∀ (F : Int → Int → Int), ocW zs (fun g e => c * F g e) = c * ocW zs F := by
  induction zs with
  | nil => intro F; rfl
  | cons p zs ih =>
    intro F
    simp only [ocW, ← sumN_scale]
    exact sumN_congr _ fun r _ => ih _
theorem ocW_perm {zs zs' : List Pl} (h : zs.Perm zs') : ∀ F, ocW zs F = ocW zs' F := by
  induction h with
  | nil => intro F; rfl
  | cons p _ ih => intro F; exact sumN_congr _ fun r _ => ih _
  | swap p q l =>
    intro F
    simp only [ocW]
    rw [sumN_swap]
    refine sumN_congr _ fun s _ => sumN_congr _ fun r _ => ?_
    congr 1
    funext g e
    rw [Int.mul_right_comm g, Int.mul_right_comm e]
  | trans _ _ ih1 ih2 => intro F; exact (ih1 F).trans (ih2 F)

theorem digF_out (L : Nat → Nat) : ∀ k N (f : Nat → Nat) i, k ≤ i → digF L k N f i = f i
  | 0, _, _, _, _ => rfl
  | k + 1, N, f, i, h => by rw [digF, digF_out L k _ _ i (by omega), upd_ne f _ (by omega)]
theorem digF_any (L : Nat → Nat) : ∀ k N (f f' : Nat → Nat) i, i < k → digF L k N f i = digF L k N f' i
  | 0, _, _, _, _, h => by omega
  | k + 1, N, f, f', i, h => by
    rw [digF, digF]
    by_cases e : i = k
    · subst e; rw [digF_out L i _ _ i (Nat.le_refl _), digF_out L i _ _ i (Nat.le_refl _), upd_same, upd_same]
    · exact digF_any L k _ _ _ i (by omega)

/-- the sum over the outcomes of the first plates, by their numbers -/
def ocT (zs : List Pl) (k : Nat) (F : Int → Int → Int) : Int := sumN (fun N => F (oddG zs (digs zs k N) k) (oddE zs (digs zs k N) k)) (mt (fun i => (plAt zs i).gn) k)
theorem ocT_succ {zs : List Pl} {k : Nat} {p : Pl} (hp : zs[k]? = some p) (h0 : 0 < p.gn) (F : Int → Int → Int) :
    ocT zs (k + 1) F = ocT zs k (fun g e => sumN (fun r => F (g * p.gs.getD r 0) (e * p.es.getD r 0)) p.gn) := by
  unfold ocT
  have hpa := plAt_eq hp
  rw [mt, sumN_mul]
  refine sumN_congr _ fun q _ => ?_
  dsimp only
  rw [hpa]
  refine sumN_congr _ fun r hr => ?_
  have e1 : (q * p.gn + r) / p.gn = q := by rw [Nat.mul_comm, Nat.mul_add_div h0, Nat.div_eq_of_lt hr]; rfl
  have e2 : (q * p.gn + r) % p.gn = r := by rw [Nat.mul_comm, Nat.mul_add_mod, Nat.mod_eq_of_lt hr]
  have ed : digs zs (k + 1) (q * p.gn + r) = digF (fun i => (plAt zs i).gn) k q (upd (fun _ => 0) k r) := by
    unfold digs
    rw [digF, hpa, e1, e2]
  have ek : digs zs (k + 1) (q * p.gn + r) k = r := by rw [ed, digF_out _ _ _ _ _ (Nat.le_refl _), upd_same]
  have eo := odd_congr zs (digs zs (k + 1) (q * p.gn + r)) (digs zs k q) k (fun i hi => by rw [ed]; exact digF_any _ _ _ _ _ i hi)
  rw [oddG, oddE, ek, eo.1, eo.2, hpa]
theorem ocT_ocW {zs : List Pl} (h0 : ∀ p ∈ zs, 0 < p.gn) : ∀ k, k ≤ zs.length → ∀ F, ocT zs k F = ocW (zs.take k).reverse F
  | 0, _, F => by simp [ocT, ocW, mt, sumN, oddG, oddE]
  | k + 1, hk, F => by
    have hget : zs[k]? = some zs[k] := List.getElem?_eq_getElem (by omega)
    rw [ocT_succ hget (h0 _ (List.getElem_mem _)), ocT_ocW h0 k (by omega), ocW_sumN, List.take_add_one, hget, Option.toList_some, List.reverse_append]
    rfl
/-- the sum over all outcomes of a test -/
theorem oc_sum {zs : List Pl} {n : Nat} (hl : zs.length = n) (hg : ∀ p ∈ zs, Good p) (F : Int → Int → Int) : sumN (fun N => F (ocG zs n N) (ocE zs n N)) (manyT zs) = ocW zs F := by
  have h0 : ∀ p ∈ zs, 0 < p.gn := fun p hp => by have := (hg p hp).g2; omega
  have h1 := ocT_ocW h0 n (by omega) F
  rw [List.take_of_length_le (by omega)] at h1
  rw [← ocW_perm (List.reverse_perm zs) F, ← h1]
  unfold ocT
  rw [mt_all hl]
  rfl

theorem ocW_whole {w : World} : ∀ {zs : List Pl} (hg : ∀ p ∈ zs, Good p) (hok : ∀ p ∈ zs, PlOk w p), ocW zs (fun g _ => g) = (zs.map (fun p => p.gs.sum)).foldr (· * ·) 1 ∧ ocW zs (fun _ e => e) = (zs.map (fun p => p.gs.sum)).foldr (· * ·) 1
  | [], _, _ => ⟨rfl, rfl⟩
  | p :: zs, hg, hok => by
    obtain ⟨h1, h2⟩ := ocW_whole (zs := zs) (fun q hq => hg q (by simp [hq])) (fun q hq => hok q (by simp [hq]))
    have hp := hg p (by simp)
    have ho := hok p (by simp)
    have s1 : sumN (fun i => p.gs.getD i 0) p.gn = p.gs.sum := by rw [← ho.1.1]; exact sumN_list _
    have s2 : sumN (fun i => p.es.getD i 0) p.gn = p.gs.sum := by rw [← hp.en, ← ho.2.1.1, hp.eq]; exact sumN_list _
    have k1 : ∀ r, ocW zs (fun g _ => g * p.gs.getD r 0) = ocW zs (fun g _ => g) * p.gs.getD r 0 := fun r => by
      rw [Int.mul_comm, ← ocW_scale]; congr 1; funext g e; exact Int.mul_comm _ _
    have k2 : ∀ r, ocW zs (fun _ e => e * p.es.getD r 0) = ocW zs (fun _ e => e) * p.es.getD r 0 := fun r => by
      rw [Int.mul_comm, ← ocW_scale]; congr 1; funext g e; exact Int.mul_comm _ _
    simp only [ocW, List.map_cons, List.foldr_cons, k1, k2, sumN_scale, s1, s2, h1, h2]
    exact ⟨Int.mul_comm _ _, Int.mul_comm _ _⟩
theorem foldl_mulr {α : Type} (f : α → Int) : ∀ (l : List α) (a : Int), l.foldl (fun a p => a * f p) a = a * (l.map f).foldr (· * ·) 1
  | [], a => by simp
  | x :: l, a => by rw [List.foldl_cons, foldl_mulr f l, List.map_cons, List.foldr_cons, Int.mul_assoc]
theorem whole_foldr (zs : List Pl) : whole zs = (zs.map (fun p => p.gs.sum)).foldr (· * ·) 1 := by
  unfold whole
  rw [foldl_mulr, Int.one_mul]
/-- all outcomes together have the whole -/
theorem sum_all {w : World} {zs : List Pl} {n : Nat} (hl : zs.length = n) (hg : ∀ p ∈ zs, Good p) (hok : ∀ p ∈ zs, PlOk w p) {q : Nat → Bool} (hq : ∀ k, q k = true) : sumL (ocG zs n) (selL q (manyT zs)) = whole zs ∧ sumL (ocE zs n) (selL q (manyT zs)) = whole zs := by
  obtain ⟨h1, h2⟩ := ocW_whole hg hok
  rw [sumL_sel, sumL_sel, sumIf_sumN, sumIf_sumN, whole_foldr]
  simp only [hq, if_true]
  exact ⟨(oc_sum hl hg (fun g _ => g)).trans h1, (oc_sum hl hg (fun _ e => e)).trans h2⟩

/-- what counts the same for two in the same proportion -/
def Hom (F : Int → Int → Int) : Prop := ∀ x y, F (2 * x) (2 * y) = 2 * F x y
theorem ocW_part {zs : List Pl} {p p' : Pl} {j : Nat} {a b : Int} (hj : j < p.gn) (hn : p'.gn = p.gn + 1)
    (ha : p.gs.getD j 0 = 2 * a) (hb : p.es.getD j 0 = 2 * b) (h1 : p'.gs.getD j 0 = a) (h2 : p'.es.getD j 0 = b) (h3 : p'.gs.getD p.gn 0 = a) (h4 : p'.es.getD p.gn 0 = b)
    (ho : ∀ i, i < p.gn → i ≠ j → p'.gs.getD i 0 = p.gs.getD i 0 ∧ p'.es.getD i 0 = p.es.getD i 0) {F : Int → Int → Int} (hF : Hom F) : ocW (p' :: zs) F = ocW (p :: zs) F := by
  simp only [ocW]
  rw [hn, sumN, h3, h4]
  have key : ∀ k, k ≤ p.gn → sumN (fun r => ocW zs (fun g e => F (g * p'.gs.getD r 0) (e * p'.es.getD r 0))) k + (if j < k then ocW zs (fun g e => F (g * a) (e * b)) else 0) = sumN (fun r => ocW zs (fun g e => F (g * p.gs.getD r 0) (e * p.es.getD r 0))) k := by
    intro k
    induction k with
    | zero => intro _; simp [sumN]
    | succ k ih =>
      intro hk
      have h := ih (by omega)
      rw [sumN, sumN, ← h]
      by_cases e : k = j
      · subst e
        rw [if_pos (Nat.lt_succ_self _), if_neg (Nat.lt_irrefl _), h1, h2, ha, hb]
        have e2 : ocW zs (fun g e => F (g * (2 * a)) (e * (2 * b))) = 2 * ocW zs (fun g e => F (g * a) (e * b)) := by
          rw [← ocW_scale]
          congr 1
          funext g e
          rw [Int.mul_left_comm, Int.mul_left_comm e]
          exact hF _ _
        rw [e2]; omega
      · obtain ⟨q1, q2⟩ := ho k (by omega) e
        rw [q1, q2]
        by_cases e2 : j < k
        · rw [if_pos e2, if_pos (by omega)]; omega
        · rw [if_neg e2, if_neg (by omega)]; omega
  have := key p.gn (Nat.le_refl _)
  rw [if_pos hj] at this
  exact this

theorem sumIf_one {g : Nat → Int} {p : Nat → Bool} : ∀ k, (∀ i, i < k → 0 ≤ g i) → ∀ i, i < k → p i = true → g i ≤ sumIf g p k
  | 0, _, i, hi, _ => by omega
  | k + 1, h0, i, hi, hp => by
    have h1 := sumIf_nonneg (p := p) k (fun i hi => h0 i (by omega))
    have h2 := h0 k (by omega)
    rw [sumIf]
    by_cases e : i = k
    · subst e; rw [if_pos hp]; omega
    · have := sumIf_one k (fun i hi => h0 i (by omega)) i (by omega) hp
      split <;> omega

/-- two tests with the same sums have the same strongest regions -/
structure SameT (g e : Nat → Int) (M : Nat) (g' e' : Nat → Int) (M' : Nat) : Prop where
  n : ∀ k, k < M → 0 ≤ g k
  n' : ∀ k, k < M' → 0 ≤ g' k
  s : ∀ F, Hom F → sumN (fun k => F (g k) (e k)) M = sumN (fun k => F (g' k) (e' k)) M'
section
variable {g e : Nat → Int} {M : Nat} {g' e' : Nat → Int} {M' : Nat}
theorem SameT.symm (h : SameT g e M g' e' M') : SameT g' e' M' g e M := ⟨h.n', h.n, fun F hF => (h.s F hF).symm⟩
theorem hom_above (t : Int × Int) : Hom (fun x y => if decide (0 < y * t.2 - x * t.1) then x else 0) ∧ Hom (fun x y => if decide (0 < y * t.2 - x * t.1) then y else 0) := by
  have key : ∀ x y : Int, (0 < 2 * y * t.2 - 2 * x * t.1) ↔ 0 < y * t.2 - x * t.1 := fun x y => by rw [Int.mul_assoc, Int.mul_assoc]; omega
  refine ⟨fun x y => ?_, fun x y => ?_⟩ <;> dsimp only <;> by_cases h : 0 < y * t.2 - x * t.1
  · rw [decide_eq_true h, decide_eq_true ((key x y).2 h)]; rfl
  · rw [decide_eq_false h, decide_eq_false (fun h2 => h ((key x y).1 h2))]; rfl
  · rw [decide_eq_true h, decide_eq_true ((key x y).2 h)]; rfl
  · rw [decide_eq_false h, decide_eq_false (fun h2 => h ((key x y).1 h2))]; rfl
theorem red_two {x y : Int} (hx : 0 < x) (hy : 0 < y) : red (2 * x) (2 * y) = red x y := by
  unfold red
  have h1 : (Int.gcd (2 * x) (2 * y) : Int) = 2 * (Int.gcd x y : Int) := by rw [Int.gcd_mul_left]; rfl
  rw [h1, Int.mul_ediv_mul_of_pos _ _ (by decide), Int.mul_ediv_mul_of_pos _ _ (by decide)]
theorem hom_key (t : Int × Int) : Hom (fun x y => if decide (0 < y) && decide (0 < x) && decide (red y x = t) then x else 0) := by
  intro x y
  dsimp only
  by_cases hy : 0 < y
  · by_cases hx : 0 < x
    · have e1 : (0 : Int) < 2 * y := by omega
      have e2 : (0 : Int) < 2 * x := by omega
      rw [red_two hy hx, decide_eq_true hy, decide_eq_true hx, decide_eq_true e1, decide_eq_true e2]
      by_cases h : red y x = t <;> simp [h]
    · have e2 : ¬ (0 : Int) < 2 * x := by omega
      rw [decide_eq_false hx, decide_eq_false e2]; simp
  · have e2 : ¬ (0 : Int) < 2 * y := by omega
    rw [decide_eq_false hy, decide_eq_false e2]; simp
theorem SameT.sG (h : SameT g e M g' e' M') (t : Int × Int) : regG g e M t = regG g' e' M' t := by
  unfold regG
  rw [sumIf_sumN, sumIf_sumN]
  exact h.s _ (hom_above t).1
theorem SameT.sE (h : SameT g e M g' e' M') (t : Int × Int) : sumIf e (above g e t) M = sumIf e' (above g' e' t) M' := by
  rw [sumIf_sumN, sumIf_sumN]
  exact h.s _ (hom_above t).2
theorem SameT.sK (h : SameT g e M g' e' M') {k : Nat} (hk : k < M) (hl : live g e k = true) : ∃ k', k' < M' ∧ live g' e' k' = true ∧ key g e k = key g' e' k' := by
  have hs := h.s _ (hom_key (key g e k))
  have h1 : sumIf g (fun i => decide (0 < e i) && decide (0 < g i) && decide (red (e i) (g i) = key g e k)) M = sumIf g' (fun i => decide (0 < e' i) && decide (0 < g' i) && decide (red (e' i) (g' i) = key g e k)) M' := by
    rw [sumIf_sumN, sumIf_sumN]; exact hs
  have h2 := sumIf_one (p := fun i => decide (0 < e i) && decide (0 < g i) && decide (red (e i) (g i) = key g e k)) M h.n k hk (by
    have := live_iff.1 hl
    simp [this]
    rfl)
  have h3 := (live_iff.1 hl).2
  obtain ⟨i, hi, hp, hgi⟩ := sumIf_pos M' (show 0 < sumIf g' (fun i => decide (0 < e' i) && decide (0 < g' i) && decide (red (e' i) (g' i) = key g e k)) M' by omega)
  simp only [Bool.and_eq_true, decide_eq_true_eq] at hp
  exact ⟨i, hi, live_iff.2 ⟨hp.1.1, hp.1.2⟩, hp.2.symm⟩
theorem SameT.best (h : SameT g e M g' e' M') {most : Int} {t : Int × Int} (hb : IsBest g e M most t) : IsBest g' e' M' most t := by
  rcases hb with ⟨rfl, h1⟩ | ⟨h1, ⟨k, hk, hl, rfl⟩, h2, h3⟩
  · exact .inl ⟨rfl, by rw [← h.sG]; exact h1⟩
  · obtain ⟨k', hk', hl', ek⟩ := h.sK hk hl
    refine .inr ⟨by rw [← h.sG]; exact h1, ⟨k', hk', hl', ek⟩, by rw [← h.sG]; exact h2, fun i hi hli hlt => ?_⟩
    obtain ⟨j, hj, hlj, ej⟩ := h.symm.sK hi hli
    rw [ej] at hlt ⊢
    have := h3 j hj hlj hlt
    rw [← h.sG]; exact this
end

end Go.Proofs.Ytcmllkjgggcghaa
end

/- The walk of EyeNested: but for Works. -/
section
namespace Go.Proofs.Ytcmllkjgggcghaa
open Go.RowKit Go.Shelf
set_option linter.unusedSimpArgs false
set_option linter.unusedVariables false

theorem red_th {x y : Int} (h0 : 0 ≤ x) (h1 : x ≤ 65535) (h2 : 1 ≤ y) (h3 : y ≤ 65536) : isTh (Em.red x y).1 (Em.red x y).2 = true := by
  have a := Em.red_num h0 h2
  have b := Em.red_den (x := x) h2
  have g : Int.gcd (Em.red x y).1 (Em.red x y).2 = 1 := Int.gcd_ediv_gcd_ediv_gcd (Int.gcd_pos_of_ne_zero_right _ (by omega))
  unfold isTh
  rw [decide_eq_true_eq]
  have hx : (Em.red x y).1 ≤ x := Int.ediv_le_self _ h0
  omega
theorem mul_bd {a b A B : Int} (h0 : 0 ≤ a) (h1 : a ≤ A) (h2 : 0 ≤ b) (h3 : b ≤ B) : 0 ≤ a * b ∧ a * b ≤ A * B :=
  ⟨Int.mul_nonneg h0 h2, Int.mul_le_mul h1 h3 h2 (by omega)⟩
theorem regionP_ok {zs : List Pl} {n : Nat} {t : Int × Int} (ht : testE zs = 0) (hv : isTh t.1 t.2 = true) : regionP zs n t.1 t.2 = (regL zs n t (manyT zs), 0) := by
  simp [regionP, ht, hv]
theorem within_reg (A B : Option Addr) (n n2 c2 n3 c3 : Nat) (zs : List Pl) (t u : Int × Int) (w : World) (hx : Ints w A n2 (regL zs n u (manyT zs))) (hy : Ints w B n3 (regL zs n t (manyT zs))) (hM : manyT zs ≤ 4096)
    (h : ∀ k, k < manyT zs → above (ocG zs n) (ocE zs n) u k = true → above (ocG zs n) (ocE zs n) t k = true) :
    Calls Try.prog 44 #[.slice A n2 c2, .slice B n3 c3] w fun e w' => e = .returned (.bool true) ∧ Below w.heap.size w w' := by
  have ha := setE_ok (regL_set zs n u (manyT zs))
  have hb := setE_ok (regL_set zs n t (manyT zs))
  obtain ⟨p, p1, p2⟩ := sub_phi ha hb (fun k hk => by
    rw [regL_mem] at hk ⊢
    simp only [Bool.and_eq_true, decide_eq_true_eq] at hk ⊢
    exact ⟨hk.1, h k hk.1 hk.2⟩)
  have la := regL_le zs n u (manyT zs)
  have lb := regL_le zs n t (manyT zs)
  have e2 := hx.1
  have e3 := hy.1
  exact within_true A B n2 c2 n3 c3 _ _ p w hx hy (by omega) (by omega) (fun i hi => by rw [← e3]; exact p1 i (by omega)) (fun i j hij hj => p2 i j hij (by omega)) (fun i j hij hj => hb.inc i j hij (by omega))

def S8 (a b : Nat) (x y z u : Int) (W : World) : Prop := W.cell? ⟨a, 0, none⟩ = some (.int .u16 x) ∧ W.cell? ⟨a, 1, none⟩ = some (.int .u16 y) ∧ W.cell? ⟨b, 0, none⟩ = some (.int .u16 z) ∧ W.cell? ⟨b, 1, none⟩ = some (.int .u16 u)
structure J8 (w : World) (a b : Nat) (x0 x1 y0 y1 c1 c2 d1 d2 : Int) (d : Nat → Bool) (v42 v47 v11 v12 : Value) (W : World) : Prop where
  a0 : Cs W a #[.int .u16 x0, .int .u16 x1]
  a1 : Cs W b #[.int .u16 y0, .int .u16 y1]
  hb : Below w.heap.size w W
  c : d 7 = true → v42 = .agg #[.int .i64 c1, .int .i64 c2]
  e : d 15 = true → v47 = .agg #[.int .i64 d1, .int .i64 d2]
  p : Mk2 (w.heap.size + 2) W (d 16) (d 18) v11 c1 c2
  q : Mk2 (w.heap.size + 2) W (d 17) (d 19) v12 d1 d2
  n : d 16 = true → d 17 = true → v11 ≠ v12
theorem J8.s {w W : World} {a b : Nat} {x0 x1 y0 y1 c1 c2 d1 d2 : Int} {d : Nat → Bool} {v42 v47 v11 v12 : Value} (h : J8 w a b x0 x1 y0 y1 c1 c2 d1 d2 d v42 v47 v11 v12 W) : S8 a b x0 x1 y0 y1 W :=
  ⟨h.a0.c 0, h.a0.c 1, h.a1.c 0, h.a1.c 1⟩

set_option maxRecDepth 100000 in
set_option maxHeartbeats 16000000 in
theorem eyeNested_walk (kw : ∀ w : World, Calls Try.prog 14 #[] w fun e w' => e = .returned (.bool true) ∧ Below w.heap.size w w') (A : Option Addr) (n c : Nat) (zs : List Pl) (x0 x1 y0 y1 a b : Int) (w : World) (hz : Plates w A n zs) (hn : n ≤ 9223372036854775807)
    (hx0 : 0 ≤ x0 ∧ x0 ≤ 65535) (hx1 : 0 ≤ x1 ∧ x1 ≤ 65535) (hy0 : 0 ≤ y0 ∧ y0 ≤ 65535) (hy1 : 0 ≤ y1 ∧ y1 ≤ 65535) (ha : 0 ≤ a ∧ a ≤ 4294967295) (hb : 0 ≤ b ∧ b ≤ 4294967295) :
    Calls Try.prog 10 #[.slice A n c, .agg #[.int .u16 x0, .int .u16 x1], .agg #[.int .u16 y0, .int .u16 y1], .int .u32 a, .int .u32 b] w fun e w' => e = .returned (.bool true) ∧ Below w.heap.size w w' := by
  have kg := fun (W : World) (hb : Below w.heap.size w W) => fine_any A n c zs W (hz.below hb) hn
  unfold RetFine at kg
  -- the thresholds
  have f0 : IntKind.i64.wrap x0 = x0 := IntWalk.i64_in _ (by omega)
  have f1 : IntKind.i64.wrap x1 = x1 := IntWalk.i64_in _ (by omega)
  have f2 : IntKind.i64.wrap y0 = y0 := IntWalk.i64_in _ (by omega)
  have f3 : IntKind.i64.wrap y1 = y1 := IntWalk.i64_in _ (by omega)
  have f4 : IntKind.i64.wrap (1 + x1) = 1 + x1 := IntWalk.i64_in _ (by omega)
  have f5 : IntKind.i64.wrap (1 + y1) = 1 + y1 := IntWalk.i64_in _ (by omega)
  have kc := fun W => fraction_any x0 (1 + x1) W hx0.1 (by omega) (by omega) (by omega)
  have kd := fun W => fraction_any y0 (1 + y1) W hy0.1 (by omega) (by omega) (by omega)
  have hC := red_th (y := 1 + x1) hx0.1 hx0.2 (by omega) (by omega)
  have hD := red_th (y := 1 + y1) hy0.1 hy0.2 (by omega) (by omega)
  have bC : (Em.red x0 (1 + x1)).1 ≤ 65535 ∧ (Em.red x0 (1 + x1)).2 ≤ 65536 := by
    have := Em.red_den (x := x0) (show 1 ≤ 1 + x1 by omega)
    have hx : (Em.red x0 (1 + x1)).1 ≤ x0 := Int.ediv_le_self _ hx0.1
    omega
  have bD : (Em.red y0 (1 + y1)).1 ≤ 65535 ∧ (Em.red y0 (1 + y1)).2 ≤ 65536 := by
    have := Em.red_den (x := y0) (show 1 ≤ 1 + y1 by omega)
    have hx : (Em.red y0 (1 + y1)).1 ≤ y0 := Int.ediv_le_self _ hy0.1
    omega
  obtain ⟨⟨c1, c2⟩, hc⟩ : ∃ c, Em.red x0 (1 + x1) = c := ⟨_, rfl⟩
  obtain ⟨⟨d1, d2⟩, hd⟩ : ∃ c, Em.red y0 (1 + y1) = c := ⟨_, rfl⟩
  rw [hc] at hC kc bC
  rw [hd] at hD kd bD
  dsimp only at hC hD kc kd bC bD
  obtain ⟨p1, p2, p3, p4, -⟩ := isTh_bd hC
  obtain ⟨q1, q2, q3, q4, -⟩ := isTh_bd hD
  have f6 : IntKind.i64.wrap (c1 * d2) = c1 * d2 := by have := mul_bd p1 bC.1 (show 0 ≤ d2 by omega) bD.2; exact IntWalk.i64_in _ (by omega)
  have f7 : IntKind.i64.wrap (d1 * c2) = d1 * c2 := by have := mul_bd q1 bD.1 (show 0 ≤ c2 by omega) bC.2; exact IntWalk.i64_in _ (by omega)
  have Hp := Lib.hid (And.intro p3 q3)
  clear hc hd bC bD p1 p2 p3 p4 q1 q2 q3 q4 hx0 hx1 hy0 hy1
  -- the allowances
  obtain ⟨mn, hmn⟩ : ∃ m, (if b < a then b else a) = m := ⟨_, rfl⟩
  obtain ⟨mx, hmx⟩ : ∃ m, (if a < b then b else a) = m := ⟨_, rfl⟩
  have hm : 0 ≤ mn ∧ mn ≤ mx ∧ mx ≤ 4294967295 := by rw [← hmn, ← hmx]; split <;> split <;> omega
  have f8 : IntKind.i64.wrap mn = mn := IntWalk.i64_in _ (by omega)
  have f9 : IntKind.i64.wrap mx = mx := IntWalk.i64_in _ (by omega)
  have Hm := Lib.hid hm
  have HC := Lib.hid hC
  have HD := Lib.hid hD
  have Hz := Lib.hid hz
  clear hz hm ha hb hC hD
  go_enter Try.func10, Try.ntmps10
  go_wp2_with fail
  refine (kg _ blA).mono ?_
  rintro _ w1 ⟨g, rfl, hgt, hb1⟩
  replace B6 : Cs w1 (w.heap.size) #[.int .u16 x0, .int .u16 x1] := Cs.keep csA hb1
  replace B7 : Cs w1 (w.heap.size + 1) #[.int .u16 y0, .int .u16 y1] := Cs.keep csA hb1
  replace hbw : Below w.heap.size w w1 := blA
  replace cB6 := B6.c
  replace fB6 := B6.f
  replace lB6 := B6.lt
  replace cB7 := B7.c
  replace fB7 := B7.f
  replace lB7 := B7.lt
  clear hb1
  clear kg
  cases g with
  | false =>
    go_wp2_with fail
    refine (kw _).mono ?_
    rintro e w2 ⟨rfl, hb2⟩
    try clear cB6 fB6 lB6
    try clear B6
    try clear cB7 fB7 lB7
    try clear B7
    replace hbw : Below w.heap.size w w2 := blA
    clear hb2
    go_wp2_with fail
    go_ret
    exact ⟨rfl, blA⟩
  | true =>
    have Ht := Lib.hid (hgt rfl)
    clear hgt
    go_upto_region 3 with fail
    go_cut [11, 12] (fun s11 s12 wx => ∃ g11 g12 : Nat, s11 = .pointer (some ⟨g11, 0, none⟩) ∧ s12 = .pointer (some ⟨g12, 0, none⟩) ∧ g11 ≠ g12 ∧ w.heap.size ≤ g11 ∧ w.heap.size ≤ g12 ∧ Cs wx g11 #[.int .i64 c1, .int .i64 c2] ∧ Cs wx g12 #[.int .i64 d1, .int .i64 d2] ∧ Below w.heap.size w wx)
    case first =>
     as_aux_lemma =>
      clear f6 f7 f8 f9 hmn hmx kw Hp Hm HC HD Hz Ht cB6 fB6 lB6 cB7 fB7 lB7
      have hs0 := B7.lt
      have hS0 : S8 w.heap.size (w.heap.size + 1) x0 x1 y0 y1 w1 := ⟨B6.c 0, B6.c 1, B7.c 0, B7.c 1⟩
      refine wp_region_free (S := S8 w.heap.size (w.heap.size + 1) x0 x1 y0 y1) [(0, 1), (1, 3), (2, 7), (3, 15), (4, 31), (5, 63), (6, 127), (8, 383), (9, 895), (10, 1919), (11, 3967), (12, 8063), (13, 16255), (14, 32639)] 32639 [(7, []), (15, [7]), (16, []), (17, []), (18, [7, 15, 16, 17]), (19, [7, 15, 16, 17, 18])] (by kernel_rfl) (by kernel_rfl) (fun c a d v w h => by cases d <;> exact h) hS0 (fun hHeld => ?_)
      clear hHeld hS0
      refine free_take (v := ?_) rfl (by rfl) ?_ ?_
      rotate_left
      · intro w9 hSw; (unfold S8 at hSw); (go_simp <;> with_reducible rfl)
      try simp only [Act.put, List.setIfInBounds_toArray, List.set_cons_zero, List.set_cons_succ]
      refine free_take (v := ?_) rfl (by rfl) ?_ ?_
      rotate_left
      · intro w9 hSw; (unfold S8 at hSw); (go_simp <;> with_reducible rfl)
      try simp only [Act.put, List.setIfInBounds_toArray, List.set_cons_zero, List.set_cons_succ]
      refine free_take (v := ?_) rfl (by rfl) ?_ ?_
      rotate_left
      · intro w9 hSw; (unfold S8 at hSw); (go_simp <;> with_reducible rfl)
      try simp only [Act.put, List.setIfInBounds_toArray, List.set_cons_zero, List.set_cons_succ]
      refine free_take (v := ?_) rfl (by rfl) ?_ ?_
      rotate_left
      · intro w9 hSw; (unfold S8 at hSw); (go_simp <;> with_reducible rfl)
      try simp only [Act.put, List.setIfInBounds_toArray, List.set_cons_zero, List.set_cons_succ]
      refine free_take (v := ?_) rfl (by rfl) ?_ ?_
      rotate_left
      · intro w9 hSw; (unfold S8 at hSw); (go_simp <;> with_reducible rfl)
      try simp only [Act.put, List.setIfInBounds_toArray, List.set_cons_zero, List.set_cons_succ]
      refine free_take (v := ?_) rfl (by rfl) ?_ ?_
      rotate_left
      · intro w9 hSw; (unfold S8 at hSw); (go_simp <;> with_reducible rfl)
      try simp only [Act.put, List.setIfInBounds_toArray, List.set_cons_zero, List.set_cons_succ]
      refine free_take (v := ?_) rfl (by rfl) ?_ ?_
      rotate_left
      · intro w9 hSw; (unfold S8 at hSw); (go_simp <;> with_reducible rfl)
      try simp only [Act.put, List.setIfInBounds_toArray, List.set_cons_zero, List.set_cons_succ]
      refine free_take (v := ?_) rfl (by rfl) ?_ ?_
      rotate_left
      · intro w9 hSw; (unfold S8 at hSw); (go_simp <;> with_reducible rfl)
      try simp only [Act.put, List.setIfInBounds_toArray, List.set_cons_zero, List.set_cons_succ]
      refine free_take (v := ?_) rfl (by rfl) ?_ ?_
      rotate_left
      · intro w9 hSw; (unfold S8 at hSw); (go_simp <;> with_reducible rfl)
      try simp only [Act.put, List.setIfInBounds_toArray, List.set_cons_zero, List.set_cons_succ]
      refine free_take (v := ?_) rfl (by rfl) ?_ ?_
      rotate_left
      · intro w9 hSw; (unfold S8 at hSw); (go_simp <;> with_reducible rfl)
      try simp only [Act.put, List.setIfInBounds_toArray, List.set_cons_zero, List.set_cons_succ]
      refine free_take (v := ?_) rfl (by rfl) ?_ ?_
      rotate_left
      · intro w9 hSw; (unfold S8 at hSw); (go_simp <;> with_reducible rfl)
      try simp only [Act.put, List.setIfInBounds_toArray, List.set_cons_zero, List.set_cons_succ]
      refine free_take (v := ?_) rfl (by rfl) ?_ ?_
      rotate_left
      · intro w9 hSw; (unfold S8 at hSw); (go_simp <;> with_reducible rfl)
      try simp only [Act.put, List.setIfInBounds_toArray, List.set_cons_zero, List.set_cons_succ]
      refine free_take (v := ?_) rfl (by rfl) ?_ ?_
      rotate_left
      · intro w9 hSw; (unfold S8 at hSw); (go_simp <;> with_reducible rfl)
      try simp only [Act.put, List.setIfInBounds_toArray, List.set_cons_zero, List.set_cons_succ]
      refine free_take (v := ?_) rfl (by rfl) ?_ ?_
      rotate_left
      · intro w9 hSw; (unfold S8 at hSw); (go_simp <;> with_reducible rfl)
      try simp only [Act.put, List.setIfInBounds_toArray, List.set_cons_zero, List.set_cons_succ]
      refine free_part [38, 46, 11, 12] (fun d vs W => ∃ v42 v47 v11 v12, vs = [v42, v47, v11, v12] ∧ J8 w w.heap.size (w.heap.size + 1) x0 x1 y0 y1 c1 c2 d1 d2 d v42 v47 v11 v12 W) (fun d vs W ⟨_, _, _, _, _, h⟩ => h.s) ?_ ?_ ?_
      · intro d vs hl hd
        obtain ⟨v42, v47, v11, v12, rfl⟩ := len_four' hl
        simp only [fsts, noB] at hd
        obtain ⟨n4, n9, n10, n11, n12, n13, -⟩ := hd
        exact ⟨_, _, _, _, rfl, B6.drew, B7.drew, hbw.drew, fun h => by simp [n4] at h, fun h => by simp [n9] at h, Mk2.no n10 n12, Mk2.no n11 n13, fun h => by simp [n10] at h⟩
      refine free_step rfl ?_ ?_
      · rintro d _ W2 ⟨v42, v47, v11, v12, rfl, hJ⟩ hd hD K9 hS9
        simp only [puts, Act.put, List.setIfInBounds_toArray, List.set_cons_zero, List.set_cons_succ]
        go_simp
        refine (kc _).mono ?_
        rintro e w3 ⟨rfl, hb3⟩
        refine hS9.out _ _ ⟨[_, v47, v11, v12], rfl, _, _, _, _, rfl, ?_⟩
        exact ⟨hJ.a0.keep hb3, hJ.a1.keep hb3, bstep hJ.hb hb3, fun _ => rfl, hJ.e, hJ.p.below hb3, hJ.q.below hb3, hJ.n⟩
      refine free_step rfl ?_ ?_
      · rintro d _ W2 ⟨v42, v47, v11, v12, rfl, hJ⟩ hd hD K9 hS9
        simp only [puts, Act.put, List.setIfInBounds_toArray, List.set_cons_zero, List.set_cons_succ]
        go_simp
        refine (kd _).mono ?_
        rintro e w3 ⟨rfl, hb3⟩
        refine hS9.out _ _ ⟨[v42, _, v11, v12], rfl, _, _, _, _, rfl, ?_⟩
        exact ⟨hJ.a0.keep hb3, hJ.a1.keep hb3, bstep hJ.hb hb3, hJ.c, fun _ => rfl, hJ.p.below hb3, hJ.q.below hb3, hJ.n⟩
      refine free_step rfl ?_ ?_
      · rintro d _ W2 ⟨v42, v47, v11, v12, rfl, hJ⟩ hd hD K9 hS9
        simp only [puts, Act.put, List.setIfInBounds_toArray, List.set_cons_zero, List.set_cons_succ]
        go_simp
        refine hS9.out _ _ ⟨[v42, v47, _, v12], rfl, _, _, _, _, rfl, ?_⟩
        exact ⟨hJ.a0.alloc _, hJ.a1.alloc _, balloc hJ.hb _, hJ.c, hJ.e, hJ.p.new hd (by have := hJ.a1.lt; omega), hJ.q.alloc _, fun _ h => (hJ.q.ne h).symm⟩
      refine free_step rfl ?_ ?_
      · rintro d _ W2 ⟨v42, v47, v11, v12, rfl, hJ⟩ hd hD K9 hS9
        simp only [puts, Act.put, List.setIfInBounds_toArray, List.set_cons_zero, List.set_cons_succ]
        go_simp
        refine hS9.out _ _ ⟨[v42, v47, v11, _], rfl, _, _, _, _, rfl, ?_⟩
        exact ⟨hJ.a0.alloc _, hJ.a1.alloc _, balloc hJ.hb _, hJ.c, hJ.e, hJ.p.alloc _, hJ.q.new hd (by have := hJ.a1.lt; omega), fun h _ => hJ.p.ne h⟩
      refine free_step rfl ?_ ?_
      · rintro d _ W2 ⟨v42, v47, v11, v12, rfl, hJ⟩ hd hD K9 hS9
        simp only [puts, Act.put, List.setIfInBounds_toArray, List.set_cons_zero, List.set_cons_succ]
        obtain ⟨h4, h9, h10, h11, -⟩ := hD
        obtain rfl := hJ.c h4
        obtain rfl := hJ.e h9
        obtain ⟨g, a, b, rfl, hBg, hg⟩ := hJ.p.at_ h10
        have cg := hg.c
        have fg := hg.f
        have lg := hg.lt
        go_simp
        refine hS9.out _ _ ⟨[_, _, _, v12], rfl, _, _, _, _, rfl, ?_⟩
        exact ⟨hJ.a0.other2 (by omega) _ _, hJ.a1.other2 (by omega) _ _, bset2 hJ.hb (by omega) _ _, hJ.c, hJ.e, hJ.p.set h10, hJ.q.other (fun h => (hJ.n h10 h).symm), hJ.n⟩
      refine free_step rfl ?_ ?_
      · rintro d _ W2 ⟨v42, v47, v11, v12, rfl, hJ⟩ hd hD K9 hS9
        simp only [puts, Act.put, List.setIfInBounds_toArray, List.set_cons_zero, List.set_cons_succ]
        obtain ⟨h4, h9, h10, h11, h12, -⟩ := hD
        obtain rfl := hJ.c h4
        obtain rfl := hJ.e h9
        obtain ⟨g, a, b, rfl, hBg, hg⟩ := hJ.q.at_ h11
        have cg := hg.c
        have fg := hg.f
        have lg := hg.lt
        go_simp
        refine hS9.out _ _ ⟨[_, _, v11, _], rfl, _, _, _, _, rfl, ?_⟩
        exact ⟨hJ.a0.other2 (by omega) _ _, hJ.a1.other2 (by omega) _ _, bset2 hJ.hb (by omega) _ _, hJ.c, hJ.e, hJ.p.other (fun h => hJ.n h h11), hJ.q.set h11, hJ.n⟩
      · exact free_done
      rintro d _ W2 hd ⟨v42, v47, v11, v12, rfl, hJ⟩
      simp only [fsts, allB] at hd
      obtain ⟨h4, h9, h10, h11, h12, h13, -⟩ := hd
      obtain rfl := hJ.c h4
      obtain rfl := hJ.e h9
      obtain ⟨g11, rfl, hB11, B11⟩ := hJ.p.out h10 h12
      obtain ⟨g12, rfl, hB12, B12⟩ := hJ.q.out h11 h13
      have hne : g11 ≠ g12 := fun e => hJ.n h10 h11 (by rw [e])
      simp only [puts, Act.put, List.setIfInBounds_toArray, List.set_cons_zero, List.set_cons_succ]
      go_wp2_with fail
      go_meet
      exact ⟨_, _, rfl, rfl, hne, by omega, by omega, B11, B12, hJ.hb⟩
    case rest =>
      clear B6 B7 cB6 fB6 lB6 cB7 fB7 lB7 hbw kc kd f0 f1 f2 f3 f4 f5
      obtain ⟨g11, g12, rfl, rfl, hne, hw11, hw12, B11, B12, hbw⟩ := hcut
      have ht := Ht.out
      obtain ⟨e1, e2, hg⟩ := testE_ok ht
      have hl := Hz.out.1
      have n6 : n ≤ 6 := by omega
      have hM := many_le (n := n) hl n6 hg
      have hG0 : ∀ k, k < manyT zs → 0 ≤ ocG zs n k := fun k hk => (oc_bd hl hg Hz.out.2.2 n6 hk).1
      have kR := fun (W : World) (hb : Below w.heap.size w W) (t : Int × Int) (hv : isTh t.1 t.2 = true) => regionE_any A n c zs t.1 t.2 W (Hz.out.below hb) (by omega)
      have kR2 : ∀ (W : World) (hb : Below w.heap.size w W) (t : Int × Int) (hv : isTh t.1 t.2 = true), Calls Try.prog 15 #[.slice A n c, .agg #[.int .i64 t.1, .int .i64 t.2]] W (RetLE (regL zs n t (manyT zs), 0) W) := fun W hb t hv => by
        have := kR W hb t hv
        rw [regionP_ok ht hv] at this
        exact this
      have kB := fun (W : World) (hb : Below w.heap.size w W) (m : Int) (h0 : 0 ≤ m) (h1 : m ≤ 4294967295) => best_ok A n c zs m W (Hz.out.below hb) n6 ht h0 (by omega)
      have kH := fun (W : World) (hb : Below w.heap.size w W) => whole_any A n c zs W (Hz.out.below hb) (by omega)
      rw [if_pos ht] at kH
      have kC := fun (W : World) (hb : Below w.heap.size w W) (B : Option Addr) (C : Nat) (hB : Bools W B 1 [true]) => chosen_any A B n c 1 C zs [true] W (Hz.out.below hb) n6 hg hB (by omega)
      have hq : ∀ k, bitQ [true] k = true := fun k => by unfold bitQ; simp [Nat.mod_one]
      obtain ⟨sa, sb⟩ := sum_all hl hg Hz.out.2.2 hq
      have hcs := selL_set (bitQ [true]) (manyT zs)
      have kS := fun (W : World) (hb : Below w.heap.size w W) (B : Option Addr) (N C : Nat) (hi : Ints W B N (selL (bitQ [true]) (manyT zs))) (hc : N ≤ C) => esum_ok A B n c N C zs _ W (Hz.out.below hb) n6 hi hc ht hcs
      rw [sa, sb] at kS
      have kI := fun A B n c c' xs W hx hy hn => ints_any A B n n c c' xs xs W hx hy hn hn true (by simp)
      have HI := fun (m : Int) (v : Int × Int) (hB : IsBest (ocG zs n) (ocE zs n) (manyT zs) m v) => (isBest_th (c := c) Hz.out n6 hg hB).1
      unfold RetLRE at kB
      unfold RetLE at kR2
      unfold RetNE at kH
      unfold RetSel at kC
      unfold RetOE at kS
      dsimp only at kH kR2 kS
      obtain ⟨hm0, hm1, hm2⟩ := Hm.out
      clear kR sa sb hcs hq e1 e2 ht Ht
      have lens := fun t => Nat.le_trans (regL_le zs n t (manyT zs)) hM
      generalize selL (bitQ [true]) (manyT zs) = os at *
      generalize whole zs = wh at *
      by_cases q : d1 * c2 < c1 * d2
      · have hle : d1 * c2 ≤ c1 * d2 := by omega
        have cB11 := B11.c
        have fB11 := B11.f
        have lB11 := B11.lt
        have cB12 := B12.c
        have fB12 := B12.f
        have lB12 := B12.lt
        go_upto_region 6 with fail
        have D11 := (B11.set2 (.int .i64 d1) (.int .i64 d2)).other2 (g' := g12) hne (.int .i64 c1) (.int .i64 c2)
        have D12 := (B12.other2 (g' := g11) (fun e => hne e.symm) (.int .i64 d1) (.int .i64 d2)).set2 (.int .i64 c1) (.int .i64 c2)
        have Db := bset2 (bset2 hbw hw11 (.int .i64 d1) (.int .i64 d2)) hw12 (.int .i64 c1) (.int .i64 c2)
        clear B11 B12 hbw cB11 fB11 lB11 cB12 fB12 lB12
        generalize (((wc.setCell ⟨g11, 0, none⟩ (.int .i64 d1)).setCell ⟨g11, 1, none⟩ (.int .i64 d2)).setCell ⟨g12, 0, none⟩ (.int .i64 c1)).setCell ⟨g12, 1, none⟩ (.int .i64 c2) = W1 at *
        have B11 := D11
        have B12 := D12
        have hbw := Db
        clear D11 D12 Db
        have hM1 : ∀ k, k < manyT zs → above (ocG zs n) (ocE zs n) (c1, c2) k = true → above (ocG zs n) (ocE zs n) (d1, d2) k = true := fun k hk => above_mono (hG0 k hk) (by have := Hp.out; dsimp only; omega) (by have := Hp.out; dsimp only; omega) hle
        have kW1 := fun (W : World) (A2 A3 : Option Addr) (n2 cc2 n3 cc3 : Nat) (h2 : Ints W A2 n2 (regL zs n (d1, d2) (manyT zs))) (h3 : Ints W A3 n3 (regL zs n (c1, c2) (manyT zs))) => within_reg A3 A2 n n3 cc3 n2 cc2 zs (d1, d2) (c1, c2) W h3 h2 hM hM1
        have k2 := fun W hb => kR2 W hb (d1, d2) HD.out
        have k3 := fun W hb => kR2 W hb (c1, c2) HC.out
        have l2 := lens (d1, d2)
        have l3 := lens (c1, c2)
        dsimp only at k2 k3
        generalize regL zs n (d1, d2) (manyT zs) = L2 at *
        generalize regL zs n (c1, c2) (manyT zs) = L3 at *
        clear hM1 hle
        have cB11 := B11.c
        have fB11 := B11.f
        have lB11 := B11.lt
        have cB12 := B12.c
        have fB12 := B12.f
        have lB12 := B12.lt
        go_wp2_with fail
        refine (k2 _ blA).mono ?_
        rintro _ w2 ⟨A2, n2, cc2, rfl, h2, hb2⟩
        obtain rfl : L2.length = n2 := h2.1
        try clear cB11 fB11 lB11
        try clear B11
        replace B12 : Cs w2 g12 #[.int .i64 c1, .int .i64 c2] := Cs.keep csA hb2
        replace hbw : Below w.heap.size w w2 := blA
        replace cB12 := B12.c
        replace fB12 := B12.f
        replace lB12 := B12.lt
        clear hb2
        go_wp2_with fail
        refine (k3 _ blA).mono ?_
        rintro _ w3 ⟨A3, n3, cc3, rfl, h3, hb3⟩
        obtain rfl : L3.length = n3 := h3.1
        try clear cB11 fB11 lB11
        try clear B11
        try clear cB12 fB12 lB12
        try clear B12
        replace h2 : Ints w3 A2 L2.length L2 := Ints.below intsA hb3
        replace hbw : Below w.heap.size w w3 := blA
        clear hb3
        clear k2 k3
        go_wp2_with fail
        refine (kB _ blA mn hm0 (by omega)).mono ?_
        rintro _ w4 ⟨⟨x1, x2⟩, hX, A4, n4, cc4, rfl, h4, hb4⟩
        try clear cB11 fB11 lB11
        try clear B11
        try clear cB12 fB12 lB12
        try clear B12
        replace h2 : Ints w4 A2 L2.length L2 := Ints.below intsA hb4
        replace h3 : Ints w4 A3 L3.length L3 := Ints.below intsA hb4
        replace hbw : Below w.heap.size w w4 := blA
        clear hb4
        go_wp2_with fail
        refine (kB _ blA mx (by omega) (by omega)).mono ?_
        rintro _ w5 ⟨⟨y1, y2⟩, hY, A5, n5, cc5, rfl, h5, hb5⟩
        try clear cB11 fB11 lB11
        try clear B11
        try clear cB12 fB12 lB12
        try clear B12
        replace h2 : Ints w5 A2 L2.length L2 := Ints.below intsA hb5
        replace h3 : Ints w5 A3 L3.length L3 := Ints.below intsA hb5
        replace h4 : Ints w5 A4 n4 (regL zs n (x1, x2) (manyT zs)) := Ints.below intsA hb5
        replace B18 : Cs w5 (w4.heap.size) #[.int .i64 x1, .int .i64 x2] := Cs.keep csA hb5
        replace hbw : Below w.heap.size w w5 := blA
        replace cB18 := B18.c
        replace fB18 := B18.f
        replace lB18 := B18.lt
        clear hb5
        obtain ⟨b1, b2, b3⟩ := best_less hm1 hX hY
        have hM2 : ∀ k, k < manyT zs → above (ocG zs n) (ocE zs n) (x1, x2) k = true → above (ocG zs n) (ocE zs n) (y1, y2) k = true := fun k hk => above_mono (hG0 k hk) b2 b1 b3
        have kW2 := fun (W : World) (A2 A3 : Option Addr) (n2 cc2 n3 cc3 : Nat) (h2 : Ints W A2 n2 (regL zs n (y1, y2) (manyT zs))) (h3 : Ints W A3 n3 (regL zs n (x1, x2) (manyT zs))) => within_reg A3 A2 n n3 cc3 n2 cc2 zs (y1, y2) (x1, x2) W h3 h2 hM hM2
        have k6 := fun W hb => kR2 W hb (y1, y2) (HI _ _ hY)
        have l5 := lens (y1, y2)
        dsimp only at k6
        generalize regL zs n (x1, x2) (manyT zs) = X at *
        generalize regL zs n (y1, y2) (manyT zs) = Y at *
        clear hX hY hM2 b1 b2 b3 kB HI lens kR2 hG0
        obtain rfl : Y.length = n5 := h5.1
        go_wp2_with fail
        refine (kW1 _ _ _ _ _ _ _ (Ints.alloc h2 _) (Ints.alloc h3 _)).mono ?_
        rintro e w6 ⟨rfl, hb6⟩
        try clear cB11 fB11 lB11
        try clear B11
        try clear cB12 fB12 lB12
        try clear B12
        try clear h2
        try clear h3
        try clear cB18 fB18 lB18
        try clear B18
        replace h4 : Ints w6 A4 n4 X := Ints.below intsA hb6
        replace h5 : Ints w6 A5 Y.length Y := Ints.below intsA hb6
        replace B21 : Cs w6 (w5.heap.size) #[.int .i64 y1, .int .i64 y2] := Cs.keep csA hb6
        replace hbw : Below w.heap.size w w6 := blA
        replace cB21 := B21.c
        replace fB21 := B21.f
        replace lB21 := B21.lt
        clear hb6
        go_wp2_with fail
        refine (kW2 _ _ _ _ _ _ _ h5 h4).mono ?_
        rintro e w7 ⟨rfl, hb7⟩
        try clear cB11 fB11 lB11
        try clear B11
        try clear cB12 fB12 lB12
        try clear B12
        try clear h2
        try clear h3
        try clear h4
        try clear cB18 fB18 lB18
        try clear B18
        replace h5 : Ints w7 A5 Y.length Y := Ints.below intsA hb7
        replace B21 : Cs w7 (w5.heap.size) #[.int .i64 y1, .int .i64 y2] := Cs.keep csA hb7
        replace hbw : Below w.heap.size w w7 := blA
        replace cB21 := B21.c
        replace fB21 := B21.f
        replace lB21 := B21.lt
        clear hb7
        clear kW1 kW2
        go_wp2_with fail
        refine (k6 _ blA).mono ?_
        rintro _ w8 ⟨A8, n8, cc8, rfl, h8, hb8⟩
        obtain rfl : Y.length = n8 := h8.1
        try clear cB11 fB11 lB11
        try clear B11
        try clear cB12 fB12 lB12
        try clear B12
        try clear h2
        try clear h3
        try clear h4
        try clear cB18 fB18 lB18
        try clear B18
        try clear cB21 fB21 lB21
        try clear B21
        replace h5 : Ints w8 A5 Y.length Y := Ints.below intsA hb8
        replace hbw : Below w.heap.size w w8 := blA
        clear hb8
        go_wp2_with fail
        refine (kI _ _ _ _ _ _ _ h8 h5 (by omega)).mono ?_
        rintro e w9 ⟨rfl, hb9⟩
        try clear cB11 fB11 lB11
        try clear B11
        try clear cB12 fB12 lB12
        try clear B12
        try clear h2
        try clear h3
        try clear h4
        try clear cB18 fB18 lB18
        try clear B18
        try clear h5
        try clear cB21 fB21 lB21
        try clear B21
        replace hbw : Below w.heap.size w w9 := blA
        clear hb9
        go_wp2_with fail
        refine (kH _ blA).mono ?_
        rintro e w10 ⟨rfl, hb10⟩
        try clear cB11 fB11 lB11
        try clear B11
        try clear cB12 fB12 lB12
        try clear B12
        try clear h2
        try clear h3
        try clear h4
        try clear cB18 fB18 lB18
        try clear B18
        try clear h5
        try clear cB21 fB21 lB21
        try clear B21
        replace hbw : Below w.heap.size w w10 := blA
        clear hb10
        go_wp2_with fail
        refine (kC _ blA _ _ (Bools.new1 _ _ _ _ rfl)).mono ?_
        rintro _ w11 ⟨A9, n9, cc9, rfl, h9, hc9, hb11⟩
        try clear cB11 fB11 lB11
        try clear B11
        try clear cB12 fB12 lB12
        try clear B12
        try clear h2
        try clear h3
        try clear h4
        try clear cB18 fB18 lB18
        try clear B18
        try clear h5
        try clear cB21 fB21 lB21
        try clear B21
        replace hbw : Below w.heap.size w w11 := blA
        clear hb11
        go_wp2_with fail
        refine (kS _ blA _ _ _ h9 hc9).mono ?_
        rintro _ w12 ⟨rfl, hb12⟩
        try clear cB11 fB11 lB11
        try clear B11
        try clear cB12 fB12 lB12
        try clear B12
        try clear h2
        try clear h3
        try clear h4
        try clear cB18 fB18 lB18
        try clear B18
        try clear h5
        try clear cB21 fB21 lB21
        try clear B21
        replace hbw : Below w.heap.size w w12 := blA
        clear hb12
        clear k6 kH kC kS kI
        go_wp2_with fail
        refine (kw _).mono ?_
        rintro e w13 ⟨rfl, hb13⟩
        try clear cB11 fB11 lB11
        try clear B11
        try clear cB12 fB12 lB12
        try clear B12
        try clear h2
        try clear h3
        try clear h4
        try clear cB18 fB18 lB18
        try clear B18
        try clear h5
        try clear cB21 fB21 lB21
        try clear B21
        replace hbw : Below w.heap.size w w13 := blA
        clear hb13
        go_wp2_with fail
        go_ret
        exact ⟨rfl, blA⟩
      · have hle : c1 * d2 ≤ d1 * c2 := by omega
        have hM1 : ∀ k, k < manyT zs → above (ocG zs n) (ocE zs n) (d1, d2) k = true → above (ocG zs n) (ocE zs n) (c1, c2) k = true := fun k hk => above_mono (hG0 k hk) (by have := Hp.out; dsimp only; omega) (by have := Hp.out; dsimp only; omega) hle
        have kW1 := fun (W : World) (A2 A3 : Option Addr) (n2 cc2 n3 cc3 : Nat) (h2 : Ints W A2 n2 (regL zs n (c1, c2) (manyT zs))) (h3 : Ints W A3 n3 (regL zs n (d1, d2) (manyT zs))) => within_reg A3 A2 n n3 cc3 n2 cc2 zs (c1, c2) (d1, d2) W h3 h2 hM hM1
        have k2 := fun W hb => kR2 W hb (c1, c2) HC.out
        have k3 := fun W hb => kR2 W hb (d1, d2) HD.out
        have l2 := lens (c1, c2)
        have l3 := lens (d1, d2)
        dsimp only at k2 k3
        generalize regL zs n (c1, c2) (manyT zs) = L2 at *
        generalize regL zs n (d1, d2) (manyT zs) = L3 at *
        clear hM1 hle
        have cB11 := B11.c
        have fB11 := B11.f
        have lB11 := B11.lt
        have cB12 := B12.c
        have fB12 := B12.f
        have lB12 := B12.lt
        go_wp2_with fail
        refine (k2 _ blA).mono ?_
        rintro _ w2 ⟨A2, n2, cc2, rfl, h2, hb2⟩
        obtain rfl : L2.length = n2 := h2.1
        try clear cB11 fB11 lB11
        try clear B11
        replace B12 : Cs w2 g12 #[.int .i64 d1, .int .i64 d2] := Cs.keep csA hb2
        replace hbw : Below w.heap.size w w2 := blA
        replace cB12 := B12.c
        replace fB12 := B12.f
        replace lB12 := B12.lt
        clear hb2
        go_wp2_with fail
        refine (k3 _ blA).mono ?_
        rintro _ w3 ⟨A3, n3, cc3, rfl, h3, hb3⟩
        obtain rfl : L3.length = n3 := h3.1
        try clear cB11 fB11 lB11
        try clear B11
        try clear cB12 fB12 lB12
        try clear B12
        replace h2 : Ints w3 A2 L2.length L2 := Ints.below intsA hb3
        replace hbw : Below w.heap.size w w3 := blA
        clear hb3
        clear k2 k3
        go_wp2_with fail
        refine (kB _ blA mn hm0 (by omega)).mono ?_
        rintro _ w4 ⟨⟨x1, x2⟩, hX, A4, n4, cc4, rfl, h4, hb4⟩
        try clear cB11 fB11 lB11
        try clear B11
        try clear cB12 fB12 lB12
        try clear B12
        replace h2 : Ints w4 A2 L2.length L2 := Ints.below intsA hb4
        replace h3 : Ints w4 A3 L3.length L3 := Ints.below intsA hb4
        replace hbw : Below w.heap.size w w4 := blA
        clear hb4
        go_wp2_with fail
        refine (kB _ blA mx (by omega) (by omega)).mono ?_
        rintro _ w5 ⟨⟨y1, y2⟩, hY, A5, n5, cc5, rfl, h5, hb5⟩
        try clear cB11 fB11 lB11
        try clear B11
        try clear cB12 fB12 lB12
        try clear B12
        replace h2 : Ints w5 A2 L2.length L2 := Ints.below intsA hb5
        replace h3 : Ints w5 A3 L3.length L3 := Ints.below intsA hb5
        replace h4 : Ints w5 A4 n4 (regL zs n (x1, x2) (manyT zs)) := Ints.below intsA hb5
        replace B18 : Cs w5 (w4.heap.size) #[.int .i64 x1, .int .i64 x2] := Cs.keep csA hb5
        replace hbw : Below w.heap.size w w5 := blA
        replace cB18 := B18.c
        replace fB18 := B18.f
        replace lB18 := B18.lt
        clear hb5
        obtain ⟨b1, b2, b3⟩ := best_less hm1 hX hY
        have hM2 : ∀ k, k < manyT zs → above (ocG zs n) (ocE zs n) (x1, x2) k = true → above (ocG zs n) (ocE zs n) (y1, y2) k = true := fun k hk => above_mono (hG0 k hk) b2 b1 b3
        have kW2 := fun (W : World) (A2 A3 : Option Addr) (n2 cc2 n3 cc3 : Nat) (h2 : Ints W A2 n2 (regL zs n (y1, y2) (manyT zs))) (h3 : Ints W A3 n3 (regL zs n (x1, x2) (manyT zs))) => within_reg A3 A2 n n3 cc3 n2 cc2 zs (y1, y2) (x1, x2) W h3 h2 hM hM2
        have k6 := fun W hb => kR2 W hb (y1, y2) (HI _ _ hY)
        have l5 := lens (y1, y2)
        dsimp only at k6
        generalize regL zs n (x1, x2) (manyT zs) = X at *
        generalize regL zs n (y1, y2) (manyT zs) = Y at *
        clear hX hY hM2 b1 b2 b3 kB HI lens kR2 hG0
        obtain rfl : Y.length = n5 := h5.1
        go_wp2_with fail
        refine (kW1 _ _ _ _ _ _ _ (Ints.alloc h2 _) (Ints.alloc h3 _)).mono ?_
        rintro e w6 ⟨rfl, hb6⟩
        try clear cB11 fB11 lB11
        try clear B11
        try clear cB12 fB12 lB12
        try clear B12
        try clear h2
        try clear h3
        try clear cB18 fB18 lB18
        try clear B18
        replace h4 : Ints w6 A4 n4 X := Ints.below intsA hb6
        replace h5 : Ints w6 A5 Y.length Y := Ints.below intsA hb6
        replace B21 : Cs w6 (w5.heap.size) #[.int .i64 y1, .int .i64 y2] := Cs.keep csA hb6
        replace hbw : Below w.heap.size w w6 := blA
        replace cB21 := B21.c
        replace fB21 := B21.f
        replace lB21 := B21.lt
        clear hb6
        go_wp2_with fail
        refine (kW2 _ _ _ _ _ _ _ h5 h4).mono ?_
        rintro e w7 ⟨rfl, hb7⟩
        try clear cB11 fB11 lB11
        try clear B11
        try clear cB12 fB12 lB12
        try clear B12
        try clear h2
        try clear h3
        try clear h4
        try clear cB18 fB18 lB18
        try clear B18
        replace h5 : Ints w7 A5 Y.length Y := Ints.below intsA hb7
        replace B21 : Cs w7 (w5.heap.size) #[.int .i64 y1, .int .i64 y2] := Cs.keep csA hb7
        replace hbw : Below w.heap.size w w7 := blA
        replace cB21 := B21.c
        replace fB21 := B21.f
        replace lB21 := B21.lt
        clear hb7
        clear kW1 kW2
        go_wp2_with fail
        refine (k6 _ blA).mono ?_
        rintro _ w8 ⟨A8, n8, cc8, rfl, h8, hb8⟩
        obtain rfl : Y.length = n8 := h8.1
        try clear cB11 fB11 lB11
        try clear B11
        try clear cB12 fB12 lB12
        try clear B12
        try clear h2
        try clear h3
        try clear h4
        try clear cB18 fB18 lB18
        try clear B18
        try clear cB21 fB21 lB21
        try clear B21
        replace h5 : Ints w8 A5 Y.length Y := Ints.below intsA hb8
        replace hbw : Below w.heap.size w w8 := blA
        clear hb8
        go_wp2_with fail
        refine (kI _ _ _ _ _ _ _ h8 h5 (by omega)).mono ?_
        rintro e w9 ⟨rfl, hb9⟩
        try clear cB11 fB11 lB11
        try clear B11
        try clear cB12 fB12 lB12
        try clear B12
        try clear h2
        try clear h3
        try clear h4
        try clear cB18 fB18 lB18
        try clear B18
        try clear h5
        try clear cB21 fB21 lB21
        try clear B21
        replace hbw : Below w.heap.size w w9 := blA
        clear hb9
        go_wp2_with fail
        refine (kH _ blA).mono ?_
        rintro e w10 ⟨rfl, hb10⟩
        try clear cB11 fB11 lB11
        try clear B11
        try clear cB12 fB12 lB12
        try clear B12
        try clear h2
        try clear h3
        try clear h4
        try clear cB18 fB18 lB18
        try clear B18
        try clear h5
        try clear cB21 fB21 lB21
        try clear B21
        replace hbw : Below w.heap.size w w10 := blA
        clear hb10
        go_wp2_with fail
        refine (kC _ blA _ _ (Bools.new1 _ _ _ _ rfl)).mono ?_
        rintro _ w11 ⟨A9, n9, cc9, rfl, h9, hc9, hb11⟩
        try clear cB11 fB11 lB11
        try clear B11
        try clear cB12 fB12 lB12
        try clear B12
        try clear h2
        try clear h3
        try clear h4
        try clear cB18 fB18 lB18
        try clear B18
        try clear h5
        try clear cB21 fB21 lB21
        try clear B21
        replace hbw : Below w.heap.size w w11 := blA
        clear hb11
        go_wp2_with fail
        refine (kS _ blA _ _ _ h9 hc9).mono ?_
        rintro _ w12 ⟨rfl, hb12⟩
        try clear cB11 fB11 lB11
        try clear B11
        try clear cB12 fB12 lB12
        try clear B12
        try clear h2
        try clear h3
        try clear h4
        try clear cB18 fB18 lB18
        try clear B18
        try clear h5
        try clear cB21 fB21 lB21
        try clear B21
        replace hbw : Below w.heap.size w w12 := blA
        clear hb12
        clear k6 kH kC kS kI
        go_wp2_with fail
        refine (kw _).mono ?_
        rintro e w13 ⟨rfl, hb13⟩
        try clear cB11 fB11 lB11
        try clear B11
        try clear cB12 fB12 lB12
        try clear B12
        try clear h2
        try clear h3
        try clear h4
        try clear cB18 fB18 lB18
        try clear B18
        try clear h5
        try clear cB21 fB21 lB21
        try clear B21
        replace hbw : Below w.heap.size w w13 := blA
        clear hb13
        go_wp2_with fail
        go_ret
        exact ⟨rfl, blA⟩

end Go.Proofs.Ytcmllkjgggcghaa
end

/- The walk of EyeNested. -/
section
namespace Go.Proofs.Ytcmllkjgggcghaa
open Go.RowKit Go.Shelf

theorem eyeNested_any (A : Option Addr) (n c : Nat) (zs : List Pl) (x0 x1 y0 y1 a b : Int) (w : World) (hz : Plates w A n zs) (hn : n ≤ 9223372036854775807)
    (hx0 : 0 ≤ x0 ∧ x0 ≤ 65535) (hx1 : 0 ≤ x1 ∧ x1 ≤ 65535) (hy0 : 0 ≤ y0 ∧ y0 ≤ 65535) (hy1 : 0 ≤ y1 ∧ y1 ≤ 65535) (ha : 0 ≤ a ∧ a ≤ 4294967295) (hb : 0 ≤ b ∧ b ≤ 4294967295) :
    Calls Try.prog 10 #[.slice A n c, .agg #[.int .u16 x0, .int .u16 x1], .agg #[.int .u16 y0, .int .u16 y1], .int .u32 a, .int .u32 b] w fun e w' => e = .returned (.bool true) ∧ Below w.heap.size w w' :=
  eyeNested_walk works_any A n c zs x0 x1 y0 y1 a b w hz hn hx0 hx1 hy0 hy1 ha hb

end Go.Proofs.Ytcmllkjgggcghaa
end
