/- A range over all outcomes: the caller's law. -/
import Derived.Test.YtcmllkjgggcghaaED1
namespace Go.Proofs.Ytcmllkjgggcghaa
open Go.RowKit Go.Shelf
set_option linter.unusedSimpArgs false
set_option linter.unusedVariables false

/-- how the body of a round over the outcomes may be left -/
def postO (Ob : Nat → Prop) (I : Nat → World → Prop) (Ix : Code → Nat → World → Prop) (k : Nat) (W : World) : Exit → Act → World → Prop
  | .normal, _, W' => Turns Ob W W' ∧ I (k + 1) W'
  | .ret, _, W' => Turns Ob W W' ∧ Ix .ret (k + 1) W'
  | .exit id, _, W' => Turns Ob W W' ∧ Ix (.exit id) (k + 1) W'
  | _, _, _ => False

theorem range_outcomes {q : Nat} (hq : 6 ≤ q) {gop : Operand} {ps : Array Tmp} {assign body : Code} {Q : Exit → Act → World → Prop} {a : Act} {w : World}
    (Bs g n c m S : Nat) (A : Option Addr) (zs : List Pl) (w0 : World) (hz : Plates w0 A n zs) (hn : n ≤ 6) (hg : ∀ p ∈ zs, Good p) (hb0 : Below w0.heap.size w0 w) (hS : S = w0.heap.size)
    (hBs : w.cell? ⟨Bs, 0, none⟩ = some (.pointer (some ⟨g, 0, none⟩))) (hB : Cs w g #[.slice A n c, .int .i64 (m : Nat)])
    (hgo : a.eval gop = .func (.func 76) #[] #[.pointer (some ⟨Bs, 0, none⟩)]) (hps : ps.size = 2)
    (Ob : Nat → Prop) (hOb : ∀ i, Ob i → S ≤ i ∧ i ≠ g ∧ i ≠ Bs ∧ i < w.heap.size)
    (I : Nat → World → Prop) (hI : ∀ k W W', I k W → Turns (fun i => i = w.heap.size + 1 ∨ i = w.heap.size + 2) W W' → I k W')
    (Ix : Code → Nat → World → Prop) (hIx : ∀ c k W W', Ix c k W → Turns (fun i => i = w.heap.size + 1 ∨ i = w.heap.size + 2) W W' → Ix c k W') (h0 : I 0 w)
    (Ax : Nat → Act → World → Prop) (hAx : ∀ k a' W W', Ax k a' W → Turns (fun i => i = w.heap.size + 1) W W' → Ax k a' W')
    (hassign : ∀ (l k : Nat) (W : World) (K : Act → World → Prop), k < manyT zs → I k W → w.heap.size + 3 ≤ W.heap.size →
      (∀ a' W1, Turns (fun _ => False) W W1 → Ax k a' W1 → K a' W1) →
      assign.wpIn (Fence.wide.inRound l) (q - 1 - 1) Try.prog (Exit.then K (fun _ _ _ => False)) { tmps := (ps.zip (encO zs n k)).foldl (fun t (p, v) => t.setIfInBounds p v) a.tmps, defers := [] } W)
    (hbody : ∀ (l k : Nat) (a' : Act) (W : World), k < manyT zs → Ax k a' W → w.heap.size + 3 ≤ W.heap.size →
      body.wpIn (Fence.wide.inRound l) (q - 1 - 1) Try.prog (postO Ob I Ix k W) a' W)
    (hdone : ∀ (W : World), I (manyT zs) W → W.heap[w.heap.size]? = some (.deferred (some [])) → Q .normal { a with defers := { target := .collected w.heap.size, args := #[] } :: a.defers } W)
    (hstop : ∀ (c : Code) (k : Nat) (W : World), k ≤ manyT zs → Ix c k W → W.heap[w.heap.size]? = some (.deferred (some [])) → c.wpIn Fence.wide q Try.prog Q { a with defers := { target := .collected w.heap.size, args := #[] } :: a.defers } W) :
    (Code.rangeFunc gop ps assign body).wpIn Fence.wide q Try.prog Q a w := by
  have hSw : S ≤ w.heap.size := by rw [hS]; exact hb0.size
  have hglt := hB.lt
  have hBlt := World.block_lt_of_cell? w _ hBs
  have hKeep : ∀ i, (i < S ∨ i = g ∨ i = Bs ∨ i = w.heap.size + 2) → ¬ (i = w.heap.size + 1) := by
    intro i h e
    have : Bs < w.heap.size := hBlt
    omega
  have hKeep2 : ∀ i, (i < S ∨ i = g ∨ i = Bs ∨ i = w.heap.size + 2) → ¬ Ob i := by
    intro i h ho
    have := hOb i ho
    omega
  have hpr : ∀ {pre : List Nat} {x : Nat}, (pre ++ [x]) <+: List.range (manyT zs) → x < manyT zs ∧ pre.length = x ∧ (pre ++ [x]).length = x + 1 := by
    intro pre x h
    obtain ⟨h1, h2⟩ := range_prefix h
    have h3 : pre.length = x := by rw [h2, List.length_range]
    exact ⟨h1, h3, by simp [h3]⟩
  refine wpIn_rangeList rfl (by omega) (gf := 76) (lb := #[.pointer (some ⟨Bs, 0, none⟩)]) hgo trivial (enters_of Try.func76 (by kernel_rfl) rfl)
    (outcomes_in (q - 1) (by omega) Bs g n c m S A zs w0 w hz hn hg hb0 hS hBs hB)
    (fun i hi => by have hi' : i = w.heap.size + 2 := hi; omega) (fun h1 h2 => h1.trans h2)
    (fun W o' => KpO.of_turns (O := fun i => i = w.heap.size + 1) (Turns.putObj o' rfl) hKeep) (fun _ _ _ => trivial) (Below.refl _ _) (fun x => hps.symm ▸ rfl)
    (fun pre W => I pre.length W) (fun c pre W => Ix c pre.length W)
    (fun pre W W' h ht => hI _ W W' h (ht.mono fun i hi => by rcases hi with hi | hi <;> (have hi' := hi; omega)))
    (fun c pre W W' h ht => hIx c _ W W' h (ht.mono fun i hi => by rcases hi with hi | hi <;> (have hi' := hi; omega))) h0
    (fun pre x a' W => Ax x a' W) (fun pre x a' W o' h => hAx _ _ _ _ h (Turns.putObj o' rfl))
    ?assign ?body ?done ?stop
  case assign =>
    intro l pre x W K hpx hi hW hK
    obtain ⟨h1, h2, _⟩ := hpr hpx
    refine hassign l x W K h1 (h2 ▸ hi) hW fun a' W1 ht ha => hK a' W1 (Keeps2.of_turns ht id id (by omega)) (KpO.of_turns ht fun _ _ h => h) ha
  case body =>
    intro l pre x a' W hpx ha hW
    obtain ⟨h1, h2, h3⟩ := hpr hpx
    refine wpIn_mono (hbody l x a' W h1 ha hW) ?_
    have hk2 : ∀ W', Turns Ob W W' → Keeps2 w.heap.size W W' := fun W' ht => Keeps2.of_turns ht (fun ho => by have := (hOb _ ho).2.2.2; omega) (fun ho => by have := (hOb _ ho).2.2.2; omega) (by omega)
    intro e a3 W3 hp
    cases e with
    | normal => exact ⟨hk2 _ hp.1, KpO.of_turns hp.1 hKeep2, by show I (pre ++ [x]).length W3; rw [h3]; exact hp.2⟩
    | ret => exact ⟨hk2 _ hp.1, by show Ix .ret (pre ++ [x]).length W3; rw [h3]; exact hp.2⟩
    | exit id => exact ⟨hk2 _ hp.1, by show Ix (.exit id) (pre ++ [x]).length W3; rw [h3]; exact hp.2⟩
    | goto t => exact hp.elim
    | panic ch => exact hp.elim
    | outgrown => exact hp.elim
  case done =>
    intro W _ hi hD
    have hi' : I (List.range (manyT zs)).length W := hi
    rw [List.length_range] at hi'
    exact hdone W hi' hD
  case stop =>
    intro c pre W hpre hi hD
    exact hstop c _ W (range_pre hpre).2 hi hD

end Go.Proofs.Ytcmllkjgggcghaa
