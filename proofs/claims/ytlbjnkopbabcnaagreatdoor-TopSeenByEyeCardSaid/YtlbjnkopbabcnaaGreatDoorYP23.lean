/- PF2 -/
import Derived.Test.YtlbjnkopbabcnaaGreatDoorYP22
/- What the walk of TopSeenPlaces leans on: two rows of the call's own; how many chips are brighter; what a curve sees lies in the span. -/
section
namespace Go.Proofs.YtlbjnkopbabcnaaGreatDoor
open Go.RowKit Go.Shelf
set_option linter.unusedSimpArgs false
set_option linter.unusedVariables false

/-- a row of the call's own is as it was, where other blocks turn -/
theorem own_other {w w' : World} {base : Nat} {e : TypeId} {s : Nat} {v : Value} {n : Nat} {xs : List Value} (h : w.ownsRow base e s v n xs) (hb : ∀ g, v.ownBlock = some g → w'.heap[g]? = w.heap[g]?) : w'.ownsRow base e s v n xs := by
  refine ⟨h.1, ?_⟩
  rcases h.2 with h2 | ⟨g, cap, cur, rfl, hB, hg, rest⟩
  · exact Or.inl h2
  · exact Or.inr ⟨g, cap, cur, rfl, hB, (hb g rfl).trans hg, rest⟩
/-- an append to one of two rows of the call's own -/
theorem app_two {T e : TypeId} {z : Value} {s by_ : Nat} (hT : ElemT T e z s by_) {e2 : TypeId} {s2 : Nat} {V : World} {B n m : Nat} {v u : Value} {xs ys news : List Value} (hL : V.ownsRow B e s v n xs) (hO : V.ownsRow B e2 s2 u m ys) (hne : ∀ g, v.ownBlock = some g → u.ownBlock ≠ some g)
    {b : Nat} {t : TypeId} {fr : Nat × Nat} (hg : V.heap[b]? = some (.cells ⟨news⟩ t fr)) (hl : news.length = s) (h1 : ∀ x ∈ news, x.oneCell' = true) (hn : n ≤ 5000) (hB : B ≤ V.heap.size) (ty : TypeId) :
    ∃ g c V', (Builtin.append_ #[T, T] ty #[v, .slice (some ⟨b, 0, none⟩) 1 1]).run Tryz.prog V = .ok (.slice (some ⟨g, 0, none⟩) (n + 1) c) V' ∧ V'.ownsRow B e s (.slice (some ⟨g, 0, none⟩) (n + 1) c) (n + 1) (xs ++ news) ∧ V'.ownsRow B e2 s2 u m ys ∧ u.ownBlock ≠ some g ∧ V.grownBy V' v.ownBlock ∧ (v.ownBlock = some g ∨ V.heap.size ≤ g) := by
  obtain ⟨hu, hinf, hzc, hs0, hby⟩ := hT
  obtain ⟨i0, hi0, hzz⟩ := Option.map_eq_some_iff.1 hinf
  simp only [Prod.mk.injEq] at hzz
  obtain ⟨hz0, hz1, hz2⟩ := hzz
  have hnews : ∀ j x, news[j]? = some x → V.cell? ((⟨b, 0, none⟩ : Addr).add j) = some x := by
    intro j x hj
    rw [Go.WideShapes.add_plain, Nat.zero_add]
    rw [cell_of_row V b j _ t fr hg]
    simpa using hj
  have hbb : (n + 1) * by_ ≤ 6000 * 32 := Nat.mul_le_mul (by omega) hby
  obtain ⟨v', w', hr, ho, hgr, hnil⟩ := run_append_own (P := Tryz.prog) V B T ty e i0 z s by_ hu hi0 hz0 hz1 hz2 hzc hs0 v n _ hL ⟨b, 0, none⟩ 1 1 news (by omega) hnews h1 (by unfold maxLen; omega) (by omega) hB
  have hw := append_where hu hi0 hz0 hz1 hL (by omega) (by omega) hnews h1 (by unfold maxLen; omega) (by rw [hz2]; omega) hr
  rcases ho.2 with ⟨rfl, h0⟩ | ⟨g', c', cur', rfl, hrest⟩
  · omega
  have hown : v.ownBlock = some g' ∨ V.heap.size ≤ g' := by
    rcases hw with ⟨g1, c1, rfl, -, e2⟩ | ⟨e1, -⟩
    · injection e2 with e2; injection e2 with e2; injection e2 with e2
      subst e2
      exact .inl rfl
    · have : g' = V.heap.size := by simpa [Value.ownBlock] using e1
      exact .inr (by omega)
  refine ⟨g', c', w', hr, ho, own_other hO fun g hgu => hgr.block g (hO.lt g hgu).2 (fun e => hne g e.symm hgu), fun e => ?_, hgr, hown⟩
  rcases hown with h | h
  · exact hne g' h e
  · have := (hO.lt g' e).2; omega

/-- an append in a plan -/
theorem tree_app {P : Program} {ops : Array Oper} {Q : Exit → Act → World → Prop} {S : World → Prop} {i m' : Nat} {r : PlT} {o : Oper} {a : Act} {w w' : World} {T : TypeId} {s x : Operand} {vs vx v : Value} (ho : nth ops.toList i = some o) (hg : o.guard = none)
    (hop : o.op = Op.call { callee := Callee.builtin Builtin.append, args := #[s, x], argTypes := #[T, T] }) (hs : a.eval s = vs) (hx : a.eval x = vx) (hr : (Builtin.append_ #[T, T] o.type #[vs, vx]).run P w = .ok v w')
    (hS : S w') (h : wpTr P ops Q S r (a.put o.dst v) w') : wpTr P ops Q S (.o i m' r) a w := by
  refine tree_one ho (fun K hK => ?_)
  rw [if_pos (by simp [Region.wanted, hg])]
  unfold Oper.wp
  simp [execOp, hop, resolve, invoke, builtin, hs, hx, hr, Result.andThen]
  exact hK.out _ _ hS (fun _ => h)
/-- what is seen of a chip lies in the span -/
theorem seen_in {n : Nat} {ls : List (Int × Int)} {rs : List (RowR (Int × Int))} {tl : List Int} {te : List (RowR Int)} {zs : List Int} (hc : CaseOk n ls 3 rs) (ht : TruIn n ls rs tl te) (oz : ChipOk n n zs) {i : Nat} (hi : i < 3) :
    0 ≤ Mm.seen (Mm.low (rgA ls) (egA rs)) (zF zs) n i ∧ Mm.seen (Mm.low (rgA ls) (egA rs)) (zF zs) n i ≤ Mm.seen (pT te tl) (zF zs) n i ∧ Mm.seen (pT te tl) (zF zs) n i ≤ Mm.seen (Mm.high (rgA ls) (egA rs)) (zF zs) n i := by
  have hp := fun b (hb : b < n) => Mm.prod_in hc.ok ht.tr hi hb
  have hz := fun b (hb : b < n) => (show 0 ≤ zF zs b from (oz.2 b hb).1)
  have hpt : ∀ b, pT te tl i b = (rwI te i).zs.getD b 0 * zF tl b := fun b => rfl
  refine ⟨?_, Mm.sm_le fun b hb => ?_, Mm.sm_le fun b hb => ?_⟩
  · have h0 : Mm.sm (fun _ => 0) n = 0 := by
      clear hp hz hc ht oz
      induction n with
      | zero => rfl
      | succ n ih => show Mm.sm _ n + 0 = 0; rw [ih]; rfl
    rw [← h0]
    exact Mm.sm_le fun b hb => Int.mul_nonneg (hz b hb) (hp b hb).1
  · exact Int.mul_le_mul_of_nonneg_left (by rw [hpt]; exact (hp b hb).2.1) (hz b hb)
  · exact Int.mul_le_mul_of_nonneg_left (by rw [hpt]; exact (hp b hb).2.2.1) (hz b hb)

/-- how many are brighter than one -/
def brK (ts : List Int) (a : Nat) : Nat → Nat
  | 0 => 0
  | k + 1 => brK ts a k + if ts.getD a 0 < ts.getD k 0 then 1 else 0
theorem brK_le (ts : List Int) (a : Nat) : ∀ k, brK ts a k ≤ k
  | 0 => Nat.le_refl _
  | k + 1 => by have := brK_le ts a k; rw [brK]; split <;> omega
theorem brK_in {zs : List (Int × Int)} {ts : List Int} {a n : Nat} (ha : a < n) (h : ∀ j, j < n → (rg zs j).1 ≤ ts.getD j 0 ∧ ts.getD j 0 ≤ (rg zs j).2) : ∀ k, k ≤ n → rLo zs a k ≤ brK ts a k ∧ brK ts a k ≤ rHi zs a k
  | 0, _ => ⟨Nat.le_refl _, Nat.le_refl _⟩
  | k + 1, hk => by
    obtain ⟨h1, h2⟩ := brK_in ha h k (by omega)
    have q1 := h k (by omega)
    have q2 := h a ha
    rw [rLo, brK, rHi]
    constructor
    · split
      · rename_i c
        rw [if_pos (by omega)]; omega
      · omega
    · split
      · rename_i c
        have : k ≠ a := fun e => by subst e; omega
        rw [if_pos ⟨this, by omega⟩]; omega
      · omega
theorem opL_nil {p : Nat → Bool} {k m : Nat} (h : opL p k m = []) : ∀ j, k ≤ j → j < k + m → p j = false := by
  intro j h1 h2
  unfold opL at h
  rw [List.map_eq_nil_iff, List.filter_eq_nil_iff] at h
  have := h j (List.mem_range'.2 ⟨j - k, by omega, by omega⟩)
  simpa using this
/-- chips that surely match are seen alike -/
theorem sure_of {n : Nat} {ls : List (Int × Int)} {rs : List (RowR (Int × Int))} {tl : List Int} {te : List (RowR Int)} {zs us : List Int} (hc : CaseOk n ls 3 rs) (ht : TruIn n ls rs tl te)
    (h : (partR (rgA ls) (egA rs) (fun b => zF zs b - zF us b) n).2 = false) {i : Nat} (hi : i < 3) : Mm.seen (pT te tl) (zF zs) n i = Mm.seen (pT te tl) (zF us) n i := by
  unfold partR at h
  split at h
  · rename_i h0
    obtain ⟨a, b, c⟩ := h0
    have hn : opL (opB (rgA ls) (egA rs) (fun b => zF zs b - zF us b)) 0 (3 * n) = [] := by
      cases hq : opL (opB (rgA ls) (egA rs) (fun b => zF zs b - zF us b)) 0 (3 * n) with
      | nil => rfl
      | cons x l => rw [hq] at h; cases h
    refine Mm.sure hc.ok ht.tr (fun i hi => ?_) (fun i b hi hb ho => ?_) hi
    · match i, hi with
      | 0, _ => exact a
      | 1, _ => exact b
      | 2, _ => exact c
    · have q := opL_nil hn (3 * b + i) (by omega) (by omega)
      unfold opB at q
      rw [show (3 * b + i) % 3 = i by omega, show (3 * b + i) / 3 = b by omega] at q
      simp at q
      exact ho.2 (q ho.1)
  · cases h
end Go.Proofs.YtlbjnkopbabcnaaGreatDoor
end
