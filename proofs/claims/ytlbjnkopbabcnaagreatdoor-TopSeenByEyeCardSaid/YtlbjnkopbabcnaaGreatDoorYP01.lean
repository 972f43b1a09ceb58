/- PM1 PA1 -/
import Derived.Test.YtlbjnkopbabcnaaGreatDoorRows
import Derived.Test.YtlbjnkopbabcnaaGreatDoorYB04
import Derived.Deep.RegionHeld3
/- Plain laws: what a curve sees of chips; chips that match, and that part. -/
section
namespace Go.Proofs.YtlbjnkopbabcnaaGreatDoor
namespace Mm
set_option linter.unusedVariables false
/-- a sum over bands -/
def sm (f : Nat → Int) : Nat → Int
  | 0 => 0
  | n + 1 => sm f n + f n
theorem sm_congr {f g : Nat → Int} : ∀ {n : Nat}, (∀ b, b < n → f b = g b) → sm f n = sm g n
  | 0, _ => rfl
  | n + 1, h => by
    show sm f n + f n = sm g n + g n
    rw [sm_congr (fun b hb => h b (by omega)), h n (by omega)]
theorem sm_sub (f g : Nat → Int) : ∀ n : Nat, sm (fun b => f b - g b) n = sm f n - sm g n
  | 0 => rfl
  | n + 1 => by
    show sm _ n + (f n - g n) = sm f n + f n - (sm g n + g n)
    rw [sm_sub f g n]; omega
theorem sm_le {f g : Nat → Int} : ∀ {n : Nat}, (∀ b, b < n → f b ≤ g b) → sm f n ≤ sm g n
  | 0, _ => Int.le_refl _
  | n + 1, h => by
    have h1 := sm_le (n := n) (fun b hb => h b (by omega))
    have h2 := h n (by omega)
    show sm f n + f n ≤ sm g n + g n
    omega
theorem sm_upd (f : Nat → Int) (k : Nat) (y : Int) : ∀ n : Nat, sm (fun b => if b = k then y else f b) n = sm f n + (if k < n then y - f k else 0)
  | 0 => by simp [sm]
  | n + 1 => by
    show sm _ n + (if n = k then y else f n) = sm f n + f n + _
    rw [sm_upd f k y n]
    by_cases h1 : n = k
    · subst h1; rw [if_pos rfl, if_neg (by omega), if_pos (by omega)]; omega
    · rw [if_neg h1]
      by_cases h2 : k < n
      · rw [if_pos h2, if_pos (by omega)]; omega
      · rw [if_neg h2, if_neg (by omega)]; omega
theorem sm_bd {f : Nat → Int} {M : Int} : ∀ {n : Nat}, (∀ b, b < n → 0 ≤ f b ∧ f b ≤ M) → 0 ≤ sm f n ∧ sm f n ≤ n * M
  | 0, _ => by simp [sm]
  | n + 1, h => by
    obtain ⟨h1, h2⟩ := sm_bd (n := n) (fun b hb => h b (by omega))
    obtain ⟨h3, h4⟩ := h n (by omega)
    have e : (((n + 1 : Nat) : Int)) * M = n * M + M := by rw [Int.natCast_add, Int.add_mul]; simp
    rw [e]
    show 0 ≤ sm f n + f n ∧ sm f n + f n ≤ _
    omega
theorem sm_abs {f : Nat → Int} {M : Int} : ∀ {n : Nat}, (∀ b, b < n → -M ≤ f b ∧ f b ≤ M) → -(n * M) ≤ sm f n ∧ sm f n ≤ n * M
  | 0, _ => by simp [sm]
  | n + 1, h => by
    obtain ⟨h1, h2⟩ := sm_abs (n := n) (fun b hb => h b (by omega))
    obtain ⟨h3, h4⟩ := h n (by omega)
    have e : (((n + 1 : Nat) : Int)) * M = n * M + M := by rw [Int.natCast_add, Int.add_mul]; simp
    rw [e]
    show _ ≤ sm f n + f n ∧ sm f n + f n ≤ _
    omega
/-- a range that is valid -/
def okr (top : Int) (r : Int × Int) : Prop := 0 ≤ r.1 ∧ r.1 ≤ r.2 ∧ r.2 ≤ top
/-- an eye and a lamp that are valid -/
structure OkC (n : Nat) (L : Nat → Int × Int) (E : Nat → Nat → Int × Int) : Prop where
  n1 : 1 ≤ n
  n8 : n ≤ 8
  L : ∀ b, b < n → okr 100 (L b)
  E : ∀ i b, i < 3 → b < n → okr 100 (E i b)
/-- what they truly are -/
structure TrC (n : Nat) (L : Nat → Int × Int) (E : Nat → Nat → Int × Int) (l : Nat → Int) (e : Nat → Nat → Int) : Prop where
  L : ∀ b, b < n → (L b).1 ≤ l b ∧ l b ≤ (L b).2
  E : ∀ i b, i < 3 → b < n → (E i b).1 ≤ e i b ∧ e i b ≤ (E i b).2
def low (L : Nat → Int × Int) (E : Nat → Nat → Int × Int) (i b : Nat) : Int := (E i b).1 * (L b).1
def high (L : Nat → Int × Int) (E : Nat → Nat → Int × Int) (i b : Nat) : Int := (E i b).2 * (L b).2
/-- what a curve sees of a spectrum -/
def seen (p : Nat → Nat → Int) (s : Nat → Int) (n i : Nat) : Int := sm (fun b => s b * p i b) n
section
variable {n : Nat} {L : Nat → Int × Int} {E : Nat → Nat → Int × Int} {l : Nat → Int} {e : Nat → Nat → Int}
theorem prod_in (h : OkC n L E) (t : TrC n L E l e) {i b : Nat} (hi : i < 3) (hb : b < n) : 0 ≤ low L E i b ∧ low L E i b ≤ e i b * l b ∧ e i b * l b ≤ high L E i b ∧ high L E i b ≤ 10000 := by
  obtain ⟨a1, a2, a3⟩ := h.L b hb
  obtain ⟨c1, c2, c3⟩ := h.E i b hi hb
  obtain ⟨t1, t2⟩ := t.L b hb
  obtain ⟨t3, t4⟩ := t.E i b hi hb
  unfold low high
  refine ⟨Int.mul_nonneg c1 a1, Int.mul_le_mul t3 t1 a1 (by omega), Int.mul_le_mul t4 t2 (by omega) (by omega), ?_⟩
  have : (E i b).2 * (L b).2 ≤ 100 * 100 := Int.mul_le_mul c3 a3 (by omega) (by omega)
  omega
theorem low_true (h : OkC n L E) : TrC n L E (fun b => (L b).1) (fun i b => (E i b).1) :=
  ⟨fun b hb => ⟨Int.le_refl _, (h.L b hb).2.1⟩, fun i b hi hb => ⟨Int.le_refl _, (h.E i b hi hb).2.1⟩⟩
theorem low_le (h : OkC n L E) {i b : Nat} (hi : i < 3) (hb : b < n) : 0 ≤ low L E i b ∧ low L E i b ≤ high L E i b ∧ high L E i b ≤ 10000 := by
  obtain ⟨q1, q2, q3, q4⟩ := prod_in h (low_true h) hi hb
  exact ⟨q1, Int.le_trans q2 q3, q4⟩
theorem seen_less (p : Nat → Nat → Int) (one two : Nat → Int) (i : Nat) : seen p (fun b => one b - two b) n i = seen p one n i - seen p two n i := by
  unfold seen
  rw [← sm_sub]
  exact sm_congr fun b _ => by rw [Int.sub_mul]
/-- a place in which chips part -/
def opn (L : Nat → Int × Int) (E : Nat → Nat → Int × Int) (d : Nat → Int) (i b : Nat) : Prop := d b ≠ 0 ∧ low L E i b ≠ high L E i b
/-- chips that match whatever is so -/
theorem sure (h : OkC n L E) (t : TrC n L E l e) {one two : Nat → Int} (h0 : ∀ i, i < 3 → seen (low L E) (fun b => one b - two b) n i = 0)
    (h1 : ∀ i b, i < 3 → b < n → ¬ opn L E (fun b => one b - two b) i b) {i : Nat} (hi : i < 3) : seen (fun i b => e i b * l b) one n i = seen (fun i b => e i b * l b) two n i := by
  have q : seen (fun i b => e i b * l b) (fun b => one b - two b) n i = 0 := by
    rw [← h0 i hi]
    refine sm_congr fun b hb => ?_
    by_cases c : one b - two b = 0
    · show (one b - two b) * _ = (one b - two b) * _
      rw [c, Int.zero_mul, Int.zero_mul]
    · have := h1 i b hi hb
      have e1 : low L E i b = high L E i b := Classical.byContradiction fun q => this ⟨c, q⟩
      obtain ⟨_, q2, q3, _⟩ := prod_in h t hi hb
      have : e i b * l b = low L E i b := by omega
      show _ * (e i b * l b) = _
      rw [this]
  rw [seen_less] at q
  omega
/-- by the low ends, but for one place -/
def pL (L : Nat → Int × Int) (k : Nat) (b : Nat) : Int := if b = k then (L k).2 else (L b).1
def pE (E : Nat → Nat → Int × Int) (c k : Nat) (i b : Nat) : Int := if i = c ∧ b = k then (E c k).2 else (E i b).1
theorem part_true (h : OkC n L E) (c k : Nat) : TrC n L E (pL L k) (pE E c k) := by
  refine ⟨fun b hb => ?_, fun i b hi hb => ?_⟩
  · have := h.L b hb
    unfold pL
    split
    · rename_i q; subst q; exact ⟨this.2.1, Int.le_refl _⟩
    · exact ⟨Int.le_refl _, this.2.1⟩
  · have := h.E i b hi hb
    unfold pE
    split
    · rename_i q; obtain ⟨rfl, rfl⟩ := q; exact ⟨this.2.1, Int.le_refl _⟩
    · exact ⟨Int.le_refl _, this.2.1⟩
theorem part (h : OkC n L E) {one two : Nat → Int} {c k : Nat} (hk : k < n) (h0 : seen (low L E) (fun b => one b - two b) n c = 0) (h1 : opn L E (fun b => one b - two b) c k) :
    seen (fun i b => pE E c k i b * pL L k b) one n c ≠ seen (fun i b => pE E c k i b * pL L k b) two n c := by
  have q : seen (fun i b => pE E c k i b * pL L k b) (fun b => one b - two b) n c = (one k - two k) * (high L E c k - low L E c k) := by
    have e1 : seen (fun i b => pE E c k i b * pL L k b) (fun b => one b - two b) n c = sm (fun b => if b = k then (one k - two k) * high L E c k else (one b - two b) * low L E c b) n := by
      refine sm_congr fun b hb => ?_
      show (one b - two b) * (pE E c k c b * pL L k b) = _
      unfold pE pL
      by_cases q : b = k
      · subst q; rw [if_pos ⟨rfl, rfl⟩, if_pos rfl, if_pos rfl]; rfl
      · rw [if_neg (fun q' => q q'.2), if_neg q, if_neg q]; rfl
    rw [e1, sm_upd, if_pos hk]
    have : sm (fun b => (one b - two b) * low L E c b) n = 0 := h0
    rw [this, Int.mul_sub]
    omega
  intro e2
  rw [seen_less, e2, Int.sub_self] at q
  rcases Int.mul_eq_zero.1 q.symm with q | q
  · exact h1.1 q
  · exact h1.2 (by omega)
end
end Mm
end Go.Proofs.YtlbjnkopbabcnaaGreatDoor
end

/- Rows of rows in memory. -/
section
namespace Go.Proofs.YtlbjnkopbabcnaaGreatDoor
open Go.RowKit Go.Shelf
set_option linter.unusedSimpArgs false
set_option linter.unusedVariables false

/-- a slice with what it reads as -/
structure RowR (α : Type) where
  A : Option Addr
  n : Nat
  c : Nat
  zs : List α
def rrV {α : Type} (r : RowR α) : Value := .slice r.A r.n r.c
/-- a slice value that reads as a list of rows -/
def RowsQ {α : Type} (Q : World → Option Addr → Nat → List α → Prop) (w : World) (E : Option Addr) (m : Nat) (rs : List (RowR α)) : Prop :=
  rs.length = m ∧ (0 < m → ∃ b off, E = some ⟨b, off, none⟩ ∧ b < w.heap.size ∧ ∀ i r, rs[i]? = some r → w.cell? ⟨b, off + i, none⟩ = some (rrV r)) ∧ ∀ r ∈ rs, Q w r.A r.n r.zs ∧ r.n ≤ 9223372036854775807
abbrev RowsP := RowsQ Prs
abbrev RowsI := RowsQ Ints
def KeptQ {α : Type} (Q : World → Option Addr → Nat → List α → Prop) : Prop :=
  ∀ {w w' : World} {A : Option Addr} {n : Nat} {zs : List α}, Q w A n zs → Below w.heap.size w w' → Q w' A n zs
theorem keptP : KeptQ Prs := Prs.below
theorem keptI : KeptQ Ints := Ints.below
section
variable {α : Type} {Q : World → Option Addr → Nat → List α → Prop} {w w' : World} {E : Option Addr} {m k : Nat} {rs : List (RowR α)}
theorem RowsQ.below (h : RowsQ Q w E m rs) (hb : Below w.heap.size w w') (hQ : KeptQ Q := by first | exact keptP | exact keptI) : RowsQ Q w' E m rs := by
  refine ⟨h.1, fun hn => ?_, fun r hr => ⟨hQ (h.2.2 r hr).1 hb, (h.2.2 r hr).2⟩⟩
  obtain ⟨b, off, rfl, hlt, hc⟩ := h.2.1 hn
  exact ⟨b, off, rfl, Nat.lt_of_lt_of_le hlt hb.size, fun i r hp => (hb.cell (p := ⟨b, _, none⟩) hlt).trans (hc i r hp)⟩
theorem RowsQ.alloc (h : RowsQ Q w E m rs) (o : Obj) (hQ : KeptQ Q := by first | exact keptP | exact keptI) : RowsQ Q (w.alloc o) E m rs := h.below (balloc (Below.refl _ _) o) hQ
theorem RowsQ.drewN (h : RowsQ Q w E m rs) (k : Nat) (hQ : KeptQ Q := by first | exact keptP | exact keptI) : RowsQ Q (w.drewN k) E m rs := h.below (bdrewN (Below.refl _ _) k) hQ
theorem RowsQ.drew (h : RowsQ Q w E m rs) (hQ : KeptQ Q := by first | exact keptP | exact keptI) : RowsQ Q w.drew E m rs := h.below (Below.drew (Below.refl _ _)) hQ
/-- what is needed of one row, in a later world -/
theorem RowsQ.at_ (h : RowsQ Q w E m rs) (hb : Below w.heap.size w w') (hk : k < m) (hQ : KeptQ Q := by first | exact keptP | exact keptI) :
    ∃ b off A n c zs, E = some ⟨b, off, none⟩ ∧ rs[k]? = some ⟨A, n, c, zs⟩ ∧ b < w.heap.size ∧ w'.cell? ⟨b, off + k, none⟩ = some (.slice A n c) ∧ Q w' A n zs ∧ n ≤ 9223372036854775807 := by
  obtain ⟨b, off, rfl, hlt, hc⟩ := h.2.1 (by omega)
  have hl : k < rs.length := by rw [h.1]; exact hk
  have hg := List.getElem?_eq_getElem hl
  have c0 := hc k rs[k] hg
  have h2 := h.2.2 rs[k] (List.mem_of_getElem? hg)
  exact ⟨b, off, rs[k].A, rs[k].n, rs[k].c, rs[k].zs, rfl, hg, hlt, (hb.cell (p := ⟨b, _, none⟩) hlt).trans c0, hQ h2.1 hb, h2.2⟩
theorem RowsQ.nil (w : World) (E : Option Addr) : RowsQ Q w E 0 [] := ⟨rfl, fun h => absurd h (by omega), fun r hr => by cases hr⟩
end
/-- a row of the call's own that holds slices -/
theorem elRowI : ElemT 26 30 (.slice none 0 0) 1 24 := ⟨Tryz.underlying26, by kernel_rfl, rfl, by omega, by omega⟩
/-- an append of one slice -/
theorem list_slice {T e : TypeId} (hT : ElemT T e (.slice none 0 0) 1 24) {ops : Array Oper} {rest : List Oper} {o : Oper} {a : Act} {w : World} {Q : Exit → Act → World → Prop}
    (hg : o.guard = none) (s x : Operand) (hop : o.op = Op.call { callee := Callee.builtin Builtin.append, args := #[s, x], argTypes := #[T, T] })
    (B n : Nat) (v : Value) (xs : List Value) (hs : a.eval s = v) (hown : w.ownsRow B e 1 v n xs)
    (b : Nat) {A : Option Addr} {m c : Nat} (hx : a.eval x = .slice (some ⟨b, 0, none⟩) 1 1) (hy : w.cell? ⟨b, 0, none⟩ = some (.slice A m c)) (hn : n ≤ 5000) (hB : B ≤ w.heap.size)
    (hK : ∀ g c' w', w'.ownsRow B e 1 (.slice (some ⟨g, 0, none⟩) (n + 1) c') (n + 1) (xs ++ [.slice A m c]) → Below B w w' → wpList Tryz.prog ops Q rest (a.put o.dst (.slice (some ⟨g, 0, none⟩) (n + 1) c')) w') :
    wpList Tryz.prog ops Q (o :: rest) a w := by
  refine list_ownG hT hg s x hop B n v _ hs hown ⟨b, 0, none⟩ 1 1 [.slice A m c] hx rfl ?_ ?_ (by omega) (by omega) hB ?_
  · intro j u hu
    match j, hu with
    | 0, hu => simp at hu; subst hu; simpa [Addr.add] using hy
    | j + 1, hu => simp at hu
  · intro u hu
    simp at hu
    subst hu; rfl
  · intro g c w' h1 h2
    exact hK g c w' h1 h2
theorem own_rows {α : Type} {Q : World → Option Addr → Nat → List α → Prop} {w : World} {B n : Nat} {e : TypeId} {v : Value} {rs : List (RowR α)} (hl : rs.length = n) (h : w.ownsRow B e 1 v n (rs.map rrV)) (hq : ∀ r ∈ rs, Q w r.A r.n r.zs ∧ r.n ≤ 9223372036854775807) :
    ∃ A c, v = .slice A n c ∧ RowsQ Q w A n rs ∧ n ≤ c := by
  rcases h.2 with ⟨rfl, h0⟩ | ⟨g, cap, cur, rfl, hB, hg, hnc, _, hsz, ht⟩
  · subst h0
    exact ⟨none, 0, rfl, ⟨hl, fun h => absurd h (by omega), hq⟩, by omega⟩
  · refine ⟨some ⟨g, 0, none⟩, cap, rfl, ⟨hl, fun hn => ⟨g, 0, rfl, (Array.getElem?_eq_some_iff.1 hg).1, fun i r hr => ?_⟩, hq⟩, hnc⟩
    have hi : i < n := by rw [← hl]; exact (List.getElem?_eq_some_iff.1 hr).1
    rw [Nat.zero_add, h.cellAt i (by omega), List.getElem?_map, hr]
    rfl
end Go.Proofs.YtlbjnkopbabcnaaGreatDoor
end
