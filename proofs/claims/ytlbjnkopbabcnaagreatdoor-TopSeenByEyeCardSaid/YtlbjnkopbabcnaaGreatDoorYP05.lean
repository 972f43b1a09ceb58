/- PA3 EN4 -/
import Derived.Test.YtlbjnkopbabcnaaGreatDoorYP02
import Derived.Test.YtlbjnkopbabcnaaGreatDoorYB01
/- Rows of the call's own beside blocks that are written; lists of numbers of 16 bits. -/
section
namespace Go.Proofs.YtlbjnkopbabcnaaGreatDoor
open Go.RowKit Go.Shelf
set_option linter.unusedSimpArgs false
set_option linter.unusedVariables false

theorem Cs.keepB {W w1 : World} {g B : Nat} {cs : Array Value} (h : Cs W g cs) (hg : g < B) (hb : Below B W w1) : Cs w1 g cs :=
  ⟨Nat.lt_of_lt_of_le h.1 hb.size, fun i => (hb.cell (p := ⟨g, i, none⟩) hg).trans (h.2.1 i), fun i => (hb.frozen (p := ⟨g, i, none⟩) hg).trans (h.2.2 i)⟩
theorem own_set {w : World} {base : Nat} {e : TypeId} {s : Nat} {v : Value} {n : Nat} {xs : List Value} (h : w.ownsRow base e s v n xs) {p : Addr} (hp : p.block < base) (u : Value) : (w.setCell p u).ownsRow base e s v n xs := by
  refine ⟨h.1, ?_⟩
  rcases h.2 with h2 | ⟨g, cap, cur, e1, hB, hg, rest⟩
  · exact Or.inl h2
  · refine Or.inr ⟨g, cap, cur, e1, hB, ?_, rest⟩
    rw [← hg]
    have hne : g ≠ p.block := by omega
    unfold World.setCell
    split <;> (simp only [Array.getElem?_modify]; rw [if_neg (by omega)])
theorem below_set {B : Nat} {w W : World} (h : Below B w W) {p : Addr} (hp : B ≤ p.block) (u : Value) : Below B w (W.setCell p u) := h.setCell hp u
/-- an append of one element -/
theorem wp_oneG {T e : TypeId} {z : Value} {by_ : Nat} (hT : ElemT T e z 1 by_) {o : Oper} {a : Act} {w : World} {K : Act → World → Prop} {Q : Exit → Act → World → Prop} (s x : Operand)
    (hop : o.op = Op.call { callee := Callee.builtin Builtin.append, args := #[s, x], argTypes := #[T, T] })
    (B n : Nat) (v : Value) (xs : List Value) (hs : a.eval s = v) (hown : w.ownsRow B e 1 v n xs)
    (b : Nat) (y : Value) (hx : a.eval x = .slice (some ⟨b, 0, none⟩) 1 1) (hy : w.cell? ⟨b, 0, none⟩ = some y) (h1 : y.oneCell' = true) (hn : n ≤ 5000) (hB : B ≤ w.heap.size)
    (hK : ∀ g c w', w'.ownsRow B e 1 (.slice (some ⟨g, 0, none⟩) (n + 1) c) (n + 1) (xs ++ [y]) → Below B w w' → K (a.put o.dst (.slice (some ⟨g, 0, none⟩) (n + 1) c)) w') : o.wp Tryz.prog a w K Q := by
  obtain ⟨hu, hinf, hzc, hs0, hby⟩ := hT
  obtain ⟨i0, hi0, hzz⟩ := Option.map_eq_some_iff.1 hinf
  simp only [Prod.mk.injEq] at hzz
  obtain ⟨hz0, hz1, hz2⟩ := hzz
  have hbb : (n + 1) * by_ ≤ 6000 * 32 := Nat.mul_le_mul (by omega) hby
  have hlt := hown.lt
  refine wp_append_own w s x T hop B e i0 z 1 by_ hu hi0 hz0 hz1 hz2 hzc hs0 v n _ hs hown ⟨b, 0, none⟩ 1 1 [y] hx rfl ?_ ?_ (by unfold maxLen; omega) (by omega) hB ?_
  · intro j u hj
    match j, hj with
    | 0, hj => simp at hj; subst hj; simpa [Addr.add] using hy
    | j + 1, hj => simp at hj
  · intro u hu
    simp at hu
    subst hu; exact h1
  · intro v' w' h1 h2 _
    rcases h1.2 with ⟨rfl, h0⟩ | ⟨g, cap, cur, rfl, hrest⟩
    · omega
    · refine hK g cap w' h1 ⟨h2.os, h2.tape, h2.output, h2.size, fun i hi => h2.block i (by omega) (fun e => ?_)⟩
      have := hlt i e.symm
      omega

/-- a list of small numbers -/
def U16s (w : World) (A : Option Addr) (n : Nat) (zs : List Int) : Prop :=
  zs.length = n ∧ (0 < n → ∃ b off, A = some ⟨b, off, none⟩ ∧ b < w.heap.size ∧ ∀ i, i < n → w.cell? ⟨b, off + i, none⟩ = some (.int .u16 (zs.getD i 0)) ∧ 0 ≤ zs.getD i 0 ∧ zs.getD i 0 ≤ 65535)
theorem U16s.below {w w' : World} {A : Option Addr} {n : Nat} {zs : List Int} (h : U16s w A n zs) (hb : Below w.heap.size w w') : U16s w' A n zs := by
  refine ⟨h.1, fun hn => ?_⟩
  obtain ⟨b, off, rfl, hlt, hc⟩ := h.2 hn
  exact ⟨b, off, rfl, Nat.lt_of_lt_of_le hlt hb.size, fun i hi => ⟨(hb.cell (p := ⟨b, off + i, none⟩) hlt).trans (hc i hi).1, (hc i hi).2⟩⟩
theorem U16s.at_ {w wr : World} {A : Option Addr} {n k : Nat} {zs : List Int} (h : U16s w A n zs) (hb : Below w.heap.size w wr) (hk : k < n) :
    ∃ b off, A = some ⟨b, off, none⟩ ∧ b < w.heap.size ∧ wr.cell? ⟨b, off + k, none⟩ = some (.int .u16 (zs.getD k 0)) ∧ 0 ≤ zs.getD k 0 ∧ zs.getD k 0 ≤ 65535 := by
  obtain ⟨b, off, rfl, hlt, hc⟩ := h.2 (by omega)
  exact ⟨b, off, rfl, hlt, (hb.cell (p := ⟨b, off + k, none⟩) hlt).trans (hc k hk).1, (hc k hk).2⟩

end Go.Proofs.YtlbjnkopbabcnaaGreatDoor
end

/- XEN1's law for a region whose order branches: where two operations may come up, either may, and the row goes on its own way behind each. -/
section
namespace Go.Proofs.YtlbjnkopbabcnaaGreatDoor
open Go
set_option linter.unusedSimpArgs false
set_option linter.unusedVariables false

/-- A plan: an operation is taken first; is the only one; one of two comes up, and each has a plan of its own. -/
inductive PlT
  | nil
  | t (i m : Nat) (r : PlT)
  | o (i m : Nat) (r : PlT)
  | c (i j mi mj : Nat) (p q : PlT)
/-- The check of the whole plan. -/
def planTr (md : Region.Mode) (ops : Array Oper) : PlT → Nat → Bool
  | .nil, m => emp (rdy md ops.toList 0 m)
  | .t i m' r, m => hasN (rdy md ops.toList 0 m) i && freAt md ops i m && Nat.beq m' (m ||| 1 <<< i) && planTr md ops r m'
  | .o i m' r, m => one1 (rdy md ops.toList 0 m) i && Nat.beq m' (m ||| 1 <<< i) && planTr md ops r m'
  | .c i j mi mj p q, m => two2 (rdy md ops.toList 0 m) i j && Nat.beq mi (m ||| 1 <<< i) && Nat.beq mj (m ||| 1 <<< j) && planTr md ops p mi && planTr md ops q mj
def lngTr : PlT → Nat
  | .nil => 0
  | .t _ _ r => lngTr r + 1
  | .o _ _ r => lngTr r + 1
  | .c _ _ _ _ p q => max (lngTr p) (lngTr q) + 1
section
variable {P : Program} {ops : Array Oper} {Q : Exit → Act → World → Prop} {md : Region.Mode} {S : World → Prop}
/-- The operations by a plan. -/
def wpTr (P : Program) (ops : Array Oper) (Q : Exit → Act → World → Prop) (S : World → Prop) : PlT → Act → World → Prop
  | .nil, a, w => Q .normal a w
  | .t i _ r, a, w => ∃ o v, nth ops.toList i = some o ∧ YieldsIf P ops S o v a ∧ wpTr P ops Q S r (a.put o.dst v) w
  | .o i _ r, a, w => wpOp P ops Q i (fun a' w' => S w' ∧ wpTr P ops Q S r a' w') a w
  | .c i j _ _ p q, a, w => wpOp P ops Q i (fun a' w' => S w' ∧ wpTr P ops Q S p a' w') a w ∧ wpOp P ops Q j (fun a' w' => S w' ∧ wpTr P ops Q S q a' w') a w

theorem wpAnyH_tree (hns : Region.noSelect ops = true) (hQ : ∀ c a d v w, Q (.panic c) (a.put d v) w → Q (.panic c) a w) :
    ∀ (pl : PlT) (m : Nat) (l : Array Bool) (fuel : Nat) (a : Act) (w : World), Msk ops.size l m → planTr md ops pl m = true → lngTr pl ≤ fuel → S w →
      wpTr P ops Q S pl a w → wpAnyH P md ops Q S fuel l a w
  | .nil, m, l, fuel, a, w, hm, hp, _, _, h => by
    have := emp_eq (show emp (rdy md ops.toList 0 m) = true from hp)
    exact wpAnyH_done (by rw [rdy_eq hm, this]) h fuel
  | .t i m' r, m, l, fuel, a, w, hm, hp, hl, hS, h => by
    simp only [planTr, Bool.and_eq_true] at hp
    obtain ⟨⟨⟨h1, h2⟩, h3⟩, h4⟩ := hp
    obtain ⟨o, v, ho, hy, h⟩ := h
    have hmem := hasN_mem _ _ h1
    have hlt := lt_of_rdy hm hmem
    obtain ⟨f, rfl⟩ : ∃ f, fuel = f + 1 := ⟨fuel - 1, by simp only [lngTr] at hl; omega⟩
    simp only [lngTr] at hl
    have h2' : fre md ops o i ops.toList 0 m = true := by unfold freAt at h2; rw [ho] at h2; exact h2
    have hms := hm.set i hlt
    rw [← Nat.eq_of_beq_eq_true h3] at hms
    refine wpAnyH_first (nth_ops ho) (Region.noSelect_spec hns) (fun c a w => hQ c a o.dst v w) f l a w (fun j oj hj hne hun hno => ?_) (by rw [rdy_eq hm]; exact hmem) hy hS
      (wpAnyH_tree hns hQ r m' _ f _ w hms h4 (by omega) hS h)
    have hjl := (Array.getElem?_eq_some_iff.1 hj).1
    have hs := fre_spec ops.toList 0 h2' j oj (by simpa using hj)
    rw [Nat.zero_add] at hs
    rw [hm.getD j true hjl] at hun
    simp only [Bool.or_eq_true] at hs
    rcases hs with ((hs | hs) | hs) | hs
    · exact absurd (Nat.eq_of_beq_eq_true hs) hne
    · rw [hun] at hs; cases hs
    · obtain ⟨e, he, hb⟩ := Array.any_eq_true'.1 hs
      simp only [Bool.and_eq_true] at hb
      exact absurd (Nat.eq_of_beq_eq_true hb.2) (hno e he hb.1)
    · exact hs
  | .o i m' r, m, l, fuel, a, w, hm, hp, hl, hS, h => by
    simp only [planTr, Bool.and_eq_true] at hp
    obtain ⟨⟨h1, h3⟩, h4⟩ := hp
    have h1 := one1_eq h1
    have hlt := lt_of_rdy (md := md) hm (i := i) (by rw [h1]; simp)
    obtain ⟨f, rfl⟩ : ∃ f, fuel = f + 1 := ⟨fuel - 1, by simp only [lngTr] at hl; omega⟩
    simp only [lngTr] at hl
    have hms := hm.set i hlt
    rw [← Nat.eq_of_beq_eq_true h3] at hms
    refine wpAnyH_all (rs := [i]) (by rw [rdy_eq hm, h1]) (by simp) (fun k hk => ?_)
    obtain rfl : k = i := by simpa using hk
    exact wpOp_mono (fun a' w' h' => ⟨h'.1, wpAnyH_tree hns hQ r m' _ f a' w' hms h4 (by omega) h'.1 h'.2⟩) h
  | .c i j mi mj p q, m, l, fuel, a, w, hm, hp, hl, hS, h => by
    simp only [planTr, Bool.and_eq_true] at hp
    obtain ⟨⟨⟨⟨h1, h2⟩, h3⟩, h4⟩, h5⟩ := hp
    have h1 := two2_eq h1
    have hlti := lt_of_rdy (md := md) hm (i := i) (by rw [h1]; simp)
    have hltj := lt_of_rdy (md := md) hm (i := j) (by rw [h1]; simp)
    obtain ⟨f, rfl⟩ : ∃ f, fuel = f + 1 := ⟨fuel - 1, by simp only [lngTr] at hl; omega⟩
    simp only [lngTr] at hl
    have hmi := hm.set i hlti
    have hmj := hm.set j hltj
    rw [← Nat.eq_of_beq_eq_true h2] at hmi
    rw [← Nat.eq_of_beq_eq_true h3] at hmj
    refine wpAnyH_all (rs := [i, j]) (by rw [rdy_eq hm, h1]) (by simp) (fun k hk => ?_)
    rcases (show k = i ∨ k = j by simpa using hk) with rfl | rfl
    · exact wpOp_mono (fun a' w' h' => ⟨h'.1, wpAnyH_tree hns hQ p mi _ f a' w' hmi h4 (by omega) h'.1 h'.2⟩) h.1
    · exact wpOp_mono (fun a' w' h' => ⟨h'.1, wpAnyH_tree hns hQ q mj _ f a' w' hmj h5 (by omega) h'.1 h'.2⟩) h.2

/-- The beginning. -/
theorem wp_region_tree {id : Nat} {a : Act} {w : World} (pl : PlT) (hm : P.follows .mixedOrders = true) (hns : Region.noSelect ops = true) (hp : planTr .any ops pl 0 = true)
    (hl : Nat.ble (lngTr pl) ops.size = true) (hQ : ∀ c a d v w, Q (.panic c) (a.put d v) w → Q (.panic c) a w) (hS : S w.drew) (h : S w.drew → wpTr P ops Q S pl a w.drew) :
    (Code.region id ops true).wp P Q a w :=
  wp_region_held_drew hm hS fun h' => wpAnyH_tree hns hQ pl 0 _ _ _ _ (Msk.zero _) hp (Nat.le_of_ble_eq_true hl) h' (h h')
theorem tree_take {i m' : Nat} {r : PlT} {o : Oper} {v : Value} {a : Act} {w : World} (ho : nth ops.toList i = some o) (hw : Region.wanted o (yielded ops a.tmps) = true)
    (hv : ∀ w, S w → (execOp a.eval o).run P w = .ok (.value v) w) (h : wpTr P ops Q S r (a.put o.dst v) w) : wpTr P ops Q S (.t i m' r) a w :=
  ⟨o, v, ho, .inl ⟨hw, hv⟩, h⟩
theorem tree_one {i m' : Nat} {r : PlT} {o : Oper} {a : Act} {w : World} (ho : nth ops.toList i = some o)
    (h : ∀ K' : Act → World → Prop, Shut (∀ a w, S w → (S w → wpTr P ops Q S r a w) → K' a w) → if Region.wanted o (yielded ops a.tmps) = true then Oper.wp P o a w K' Q else K' (a.put o.dst undef) w) :
    wpTr P ops Q S (.o i m' r) a w :=
  wpOp_step (nth_ops ho) (fun K' hK => h K' (fun a w hS hW => hK a w ⟨hS, hW hS⟩))
theorem tree_two {i j mi mj : Nat} {p q : PlT} {a : Act} {w : World} (h1 : wpTr P ops Q S (.o i mi p) a w) (h2 : wpTr P ops Q S (.o j mj q) a w) : wpTr P ops Q S (.c i j mi mj p q) a w := ⟨h1, h2⟩
theorem tree_done {a : Act} {w : World} (K : World → Prop) (hk : K w) (h : ∀ U, K U → Q .normal a U) : wpTr P ops Q S .nil a w := h w hk
end
end Go.Proofs.YtlbjnkopbabcnaaGreatDoor
end
