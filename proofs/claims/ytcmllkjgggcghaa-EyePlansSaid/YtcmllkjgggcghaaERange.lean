/- A range over a function whose iterator has blocks of its own and yields a known list: the caller's law. -/
import Derived.Test.YtcmllkjgggcghaaUBase
import Derived.RangeFuncFrom
import Derived.RangeFuncNested
import Derived.RangeFuncCalls
import Derived.RangeFuncLeaves
import Derived.OwnWalkIn
import Derived.TacticsInMore
import Derived.LoopNIn
import Derived.LoopIn
namespace Go.Proofs.Ytcmllkjgggcghaa
open Go.RowKit Go.Shelf
set_option linter.unusedSimpArgs false
set_option linter.unusedVariables false

/-- a step that turns blocks of O alone, and lays new ones -/
structure Turns (O : Nat → Prop) (W W' : World) : Prop where
  os : W'.os = W.os
  tape : W'.tape = W.tape
  output : W'.output = W.output
  size : W.heap.size ≤ W'.heap.size
  block : ∀ i, i < W.heap.size → ¬ O i → W'.heap[i]? = W.heap[i]?

theorem Turns.of_below {O : Nat → Prop} {W W' : World} (h : Below W.heap.size W W') : Turns O W W' := ⟨h.os, h.tape, h.output, h.size, fun i hi _ => h.block i hi⟩
theorem Turns.refl (O : Nat → Prop) (W : World) : Turns O W W := ⟨rfl, rfl, rfl, Nat.le_refl _, fun _ _ _ => rfl⟩
theorem Turns.trans {O : Nat → Prop} {A B C : World} (h : Turns O A B) (k : Turns O B C) : Turns O A C :=
  ⟨k.os.trans h.os, k.tape.trans h.tape, k.output.trans h.output, Nat.le_trans h.size k.size, fun i hi ho => (k.block i (Nat.lt_of_lt_of_le hi h.size) ho).trans (h.block i hi ho)⟩
theorem Turns.mono {O O' : Nat → Prop} {W W' : World} (h : Turns O W W') (hO : ∀ i, O i → O' i) : Turns O' W W' := ⟨h.os, h.tape, h.output, h.size, fun i hi ho => h.block i hi (fun k => ho (hO i k))⟩
theorem Turns.putObj {O : Nat → Prop} {W : World} {l : Nat} (o : Obj) (hl : O l) : Turns O W (W.putObj l o) :=
  ⟨rfl, rfl, rfl, by simp, fun i _ ho => World.putObj_heap_other (fun e => ho (e ▸ hl))⟩
theorem Turns.setCell {O : Nat → Prop} {W : World} {p : Addr} (v : Value) (hp : O p.block) : Turns O W (W.setCell p v) :=
  ⟨rfl, rfl, rfl, by simp [World.setCell], fun i _ ho => Below.heap_setCell W p v i (fun e => ho (e ▸ hp))⟩
theorem Turns.below {O : Nat → Prop} {B : Nat} {A W W' : World} (h : Below B A W) (k : Turns O W W') (hO : ∀ i, O i → B ≤ i) (hB : B ≤ W.heap.size) : Below B A W' :=
  h.trans ⟨k.os, k.tape, k.output, k.size, fun i hi => k.block i (by omega) (fun ho => by have := hO i ho; omega)⟩

/-- what is said abides such steps -/
def Bears {β : Type} (O : Nat → Prop) (J : β → World → Prop) : Prop := ∀ s W W', J s W → Turns O W W' → J s W'

/-- the two blocks of a loop over a function are as they were -/
def Keeps2 (b : Nat) (W W' : World) : Prop := W.heap.size ≤ W'.heap.size ∧ W'.heap[b]? = W.heap[b]? ∧ W'.heap[b + 1]? = W.heap[b + 1]?
theorem Keeps2.of_turns {O : Nat → Prop} {b : Nat} {W W' : World} (h : Turns O W W') (h0 : ¬ O b) (h1 : ¬ O (b + 1)) (hb : b + 2 ≤ W.heap.size) : Keeps2 b W W' :=
  ⟨h.size, h.block _ (by omega) h0, h.block _ (by omega) h1⟩

/-- a function value yields the list xs0, one by one; it turns blocks of O alone (O's first number: the heap's size at its call) and lays new ones; behind all of it Fin holds -/
def SeqList {α : Type} (F : Fence) (n : Nat) (P : Program) (g : Nat) (lb : Array Value) (encs : α → Array Value) (O : Nat → Nat → Prop) (Kp : Nat → World → World → Prop) (xs0 : List α) (Fin : World → Prop) (w : World) : Prop :=
  ∀ (l : Nat) (J Jx : List α → World → Prop) (W : World), Below w.heap.size w W → Bears (O W.heap.size) J → Bears (O W.heap.size) Jx →
    (∀ pre x W1, (pre ++ [x]) <+: xs0 → W.heap.size < W1.heap.size → J pre W1 → YieldAt F (n - 1) P l (encs x) W1 fun e W' =>
      (e = .returned (.bool true) ∧ J (pre ++ [x]) W' ∧ Kp W.heap.size W1 W') ∨ (e = .returned (.bool false) ∧ Jx (pre ++ [x]) W')) →
    J [] W →
    CallsIn F n P g (#[.func (.yield l) #[] #[]] ++ lb) W fun e W' => (∃ v, e = .returned v) ∧ ((Fin W' ∧ J xs0 W') ∨ (∃ pre, pre <+: xs0 ∧ Jx pre W'))

/-- how the body of a round may be left -/
def postRound {α : Type} (b : Nat) (Kp : World → World → Prop) (I : List α → World → Prop) (Ix : Code → List α → World → Prop) (xs : List α) (W : World) : Exit → Act → World → Prop
  | .normal, _, W' => Keeps2 b W W' ∧ Kp W W' ∧ I xs W'
  | .ret, _, W' => Keeps2 b W W' ∧ Ix .ret xs W'
  | .exit id, _, W' => Keeps2 b W W' ∧ Ix (.exit id) xs W'
  | _, _, _ => False

variable {F : Fence} {n : Nat} {P : Program}

theorem wpIn_rangeList {α : Type} {g : Operand} {ps : Array Tmp} {assign body : Code} {Q : Exit → Act → World → Prop} {a : Act} {w : World}
    (hro : F.round = none) (h1 : 1 ≤ n) {gf : Nat} {lb : Array Value} (hg : a.eval g = .func (.func gf) #[] lb) (hFg : F.fn gf) (eg : ∀ args w, (callFunc gf args).run P w = .ok (.enter gf args) w)
    {encs : α → Array Value} {O : Nat → Nat → Prop} {Kp : Nat → World → World → Prop} {xs0 : List α} {Fin : World → Prop} {w0 : World} (hseq : SeqList F (n - 1) P gf lb encs O Kp xs0 Fin w0)
    (hO : ∀ i, O (w.heap.size + 2) i → i ≠ w.heap.size ∧ i ≠ w.heap.size + 1) (hKt : ∀ {A B C : World}, Kp (w.heap.size + 2) A B → Kp (w.heap.size + 2) B C → Kp (w.heap.size + 2) A C)
    (hKb : ∀ (W : World) (o' : Obj), Kp (w.heap.size + 2) W (W.putObj (w.heap.size + 1) o')) (hFin : ∀ (W : World) (o' : Obj), Fin W → Fin (W.putObj (w.heap.size + 1) o'))
    (hb0 : Below w0.heap.size w0 w) (hps : ∀ x, (encs x).size = ps.size)
    (I : List α → World → Prop) (Ix : Code → List α → World → Prop) (hI : Bears (fun i => O (w.heap.size + 2) i ∨ i = w.heap.size + 1) I) (hIx : ∀ c, Bears (fun i => O (w.heap.size + 2) i ∨ i = w.heap.size + 1) (Ix c)) (h0 : I [] w)
    (Ax : List α → α → Act → World → Prop) (hAx : ∀ (pre : List α) (x : α) (a' : Act) (W : World) (o' : Obj), Ax pre x a' W → Ax pre x a' (W.putObj (w.heap.size + 1) o'))
    (hassign : ∀ (l : Nat) (pre : List α) (x : α) (W : World) (K : Act → World → Prop), (pre ++ [x]) <+: xs0 → I pre W → w.heap.size + 3 ≤ W.heap.size →
      (∀ a' W1, Keeps2 w.heap.size W W1 → Kp (w.heap.size + 2) W W1 → Ax pre x a' W1 → K a' W1) →
      assign.wpIn (F.inRound l) (n - 1 - 1) P (Exit.then K (fun _ _ _ => False)) { tmps := (ps.zip (encs x)).foldl (fun t (p, v) => t.setIfInBounds p v) a.tmps, defers := [] } W)
    (hbody : ∀ (l : Nat) (pre : List α) (x : α) (a' : Act) (W : World), (pre ++ [x]) <+: xs0 → Ax pre x a' W → w.heap.size + 3 ≤ W.heap.size →
      body.wpIn (F.inRound l) (n - 1 - 1) P (postRound w.heap.size (Kp (w.heap.size + 2)) I Ix (pre ++ [x]) W) a' W)
    (hdone : ∀ (W : World), Fin W → I xs0 W → W.heap[w.heap.size]? = some (.deferred (some [])) → Q .normal { a with defers := { target := .collected w.heap.size, args := #[] } :: a.defers } W)
    (hstop : ∀ (c : Code) (pre : List α) (W : World), pre <+: xs0 → Ix c pre W → W.heap[w.heap.size]? = some (.deferred (some [])) → c.wpIn F n P Q { a with defers := { target := .collected w.heap.size, args := #[] } :: a.defers } W) :
    (Code.rangeFunc g ps assign body).wpIn F n P Q a w := by
  refine wpIn_rangeFunc fun fn hfn => ?_
  rw [hro]
  -- the loop's record in each of its states
  obtain ⟨rec, hrec⟩ : ∃ rec : LoopState → Option Code → Loop, rec = fun st pe => { state := st, pending := pe, fn, tmps := a.tmps, params := ps, assign, body, defers := w.heap.size } := ⟨_, rfl⟩
  obtain ⟨W1, hW1⟩ : ∃ W1, (w.alloc (.deferred (some []))).alloc (.loop (rec .ready none)) = W1 := ⟨_, rfl⟩
  have hsz : W1.heap.size = w.heap.size + 2 := by rw [← hW1]; simp
  have hloop : W1.heap[w.heap.size + 1]? = some (.loop (rec .ready none)) := by
    rw [← hW1]
    have := World.alloc_heap_new (w.alloc (.deferred (some []))) (.loop (rec .ready none))
    rwa [World.size_alloc] at this
  have hdef : W1.heap[w.heap.size]? = some (.deferred (some [])) := by
    rw [← hW1]; exact (Below.heap_alloc _ _ _ (by simp)).trans (World.alloc_heap_new w _)
  have hbw : Below w.heap.size w W1 := by rw [← hW1]; exact balloc (balloc (Below.refl _ _) _) _
  have hIW : I [] W1 := hI [] w W1 h0 (Turns.of_below hbw)
  have rec_put : ∀ (W : World) (o : Obj), w.heap.size + 1 < W.heap.size → (W.putObj (w.heap.size + 1) o).heap[w.heap.size + 1]? = some o := fun W o h => World.putObj_heap_same h
  have def_put : ∀ (W : World) (o : Obj), (W.putObj (w.heap.size + 1) o).heap[w.heap.size]? = W.heap[w.heap.size]? := fun W o => World.putObj_heap_other (by omega)
  have I_put : ∀ s (W : World) (o : Obj), I s W → I s (W.putObj (w.heap.size + 1) o) := fun s W o h => hI s W _ h (Turns.putObj o (.inr rfl))
  have Ix_put : ∀ c s (W : World) (o : Obj), Ix c s W → Ix c s (W.putObj (w.heap.size + 1) o) := fun c s W o h => hIx c s W _ h (Turns.putObj o (.inr rfl))
  have hO' : ∀ i, O W1.heap.size i → i ≠ w.heap.size ∧ i ≠ w.heap.size + 1 := fun i hi => hO i (hsz ▸ hi)
  refine ⟨w.heap.size + 1, [{ target := .collected w.heap.size, args := #[] }], W1, { target := .fn (.func gf) lb, args := #[.func (.yield (w.heap.size + 1)) #[] #[]] }, W1, gf,
    #[.func (.yield (w.heap.size + 1)) #[] #[]] ++ lb, W1, ?_, ?_, ?_, ?_, fun _ => h1, ?_⟩
  · rw [← hW1, hrec]; exact run_enterLoop_outer _ _ _ _ _
  · simp only [resolve, hg]
    simp [go_sem]
  · intro f' hf'; simp [Target.leads] at hf'; subst hf'; exact hFg
  · simp [invoke, go_sem, eg]
  · have hcall := hseq (w.heap.size + 1)
      (fun pre W => I pre W ∧ W.heap[w.heap.size + 1]? = some (.loop (rec .ready none)) ∧ W.heap[w.heap.size]? = some (.deferred (some [])))
      (fun pre W => ∃ c, Ix c pre W ∧ W.heap[w.heap.size + 1]? = some (.loop (rec .done (some c))) ∧ W.heap[w.heap.size]? = some (.deferred (some [])))
      W1 (hb0.trans (hbw.mono hb0.size))
      (fun s A B hs ht => by
        have hlt : w.heap.size + 1 < A.heap.size := (Array.getElem?_eq_some_iff.1 hs.2.1).1
        exact ⟨hI s A B hs.1 (ht.mono fun i hi => .inl (hsz ▸ hi)), (ht.block _ hlt (fun ho => (hO' _ ho).2 rfl)).trans hs.2.1, (ht.block _ (by omega) (fun ho => (hO' _ ho).1 rfl)).trans hs.2.2⟩)
      (fun s A B hs ht => by
        obtain ⟨c, hc, hl, hk⟩ := hs
        have hlt : w.heap.size + 1 < A.heap.size := (Array.getElem?_eq_some_iff.1 hl).1
        exact ⟨c, hIx c s A B hc (ht.mono fun i hi => .inl (hsz ▸ hi)), (ht.block _ hlt (fun ho => (hO' _ ho).2 rfl)).trans hl, (ht.block _ (by omega) (fun ho => (hO' _ ho).1 rfl)).trans hk⟩)
      ?_ ⟨hIW, hloop, hdef⟩
    · refine hcall.mono ?_
      rintro e W2 ⟨⟨v, rfl⟩, (⟨hF2, hi, hl, hk⟩ | ⟨pre, hpre, c, hi, hl, hk⟩)⟩
      · refine ⟨none, _, by have := run_endLoop (P := P) hl (by rw [hrec]; simp); rw [hrec] at this; exact this, ?_⟩
        exact hdone _ (hFin _ _ hF2) (I_put _ _ _ hi) ((def_put _ _).trans hk)
      · refine ⟨some c, _, by have := run_endLoop (P := P) hl (by rw [hrec]; simp); rw [hrec] at this; exact this, ?_⟩
        exact hstop c pre _ hpre (Ix_put _ _ _ _ hi) ((def_put _ _).trans hk)
    · rintro pre x W hpx hgt ⟨hi, hl, hk⟩
      have hlt : w.heap.size + 1 < W.heap.size := (Array.getElem?_eq_some_iff.1 hl).1
      have hy := run_yield (P := P) (args := encs x) hl (by rw [hrec]; exact hps x)
      rw [hrec] at hy
      refine ⟨fn, _, assign, body, hy, roundIn_of_wpIn hfn (hassign _ pre x W _ hpx hi (by omega) ?_)⟩
      intro a' Wa hka hkpa hax
      have hla : Wa.heap[w.heap.size + 1]? = some (.loop (rec .ready none)) := hka.2.2.trans hl
      have hka' : Wa.heap[w.heap.size]? = some (.deferred (some [])) := hka.2.1.trans hk
      have hlta : w.heap.size + 1 < Wa.heap.size := by have := hka.1; omega
      refine ⟨_, run_beginRound hla (by rw [hrec]), ?_⟩
      have hl2 := rec_put Wa (.loop { rec .ready none with state := .busy }) hlta
      have hk2 := (def_put Wa (.loop { rec .ready none with state := .busy })).trans hka'
      have hkp2 : Kp (w.heap.size + 2) W (Wa.putObj (w.heap.size + 1) (.loop { rec .ready none with state := .busy })) := hKt hkpa (hKb _ _)
      refine wpIn_mono (hbody _ pre x a' _ hpx (hAx _ _ _ _ _ hax) (by have := hka.1; simp; omega)) ?_
      have fin : ∀ (jump : Option Code) (W3 : World), Keeps2 w.heap.size (Wa.putObj (w.heap.size + 1) (.loop { rec .ready none with state := .busy })) W3 →
          (Instr.endRound (w.heap.size + 1) jump).run P W3 = .ok (.bool jump.isNone) (W3.putObj (w.heap.size + 1) (.loop (rec (if jump.isNone then .ready else .done) jump))) ∧
          (W3.putObj (w.heap.size + 1) (.loop (rec (if jump.isNone then .ready else .done) jump))).heap[w.heap.size + 1]? = some (.loop (rec (if jump.isNone then .ready else .done) jump)) ∧
          (W3.putObj (w.heap.size + 1) (.loop (rec (if jump.isNone then .ready else .done) jump))).heap[w.heap.size]? = some (.deferred (some [])) := fun jump W3 hk3 => by
        have hl3 := hk3.2.2.trans hl2
        have hr := run_endRound (P := P) jump hl3
        rw [hrec] at hr ⊢
        exact ⟨hr, rec_put _ _ (Array.getElem?_eq_some_iff.1 hl3).1, (def_put _ _).trans (hk3.2.1.trans hk2)⟩
      rintro e a3 W3 hp
      cases e with
      | normal =>
        obtain ⟨hk3, hkp3, hi3⟩ := hp
        obtain ⟨hr, hl4, hk4⟩ := fin none W3 hk3
        exact ⟨_, _, hr, .inl ⟨rfl, ⟨I_put _ _ _ hi3, hl4, hk4⟩, by rw [hsz]; exact hKt (hKt hkp2 hkp3) (hKb _ _)⟩⟩
      | ret =>
        obtain ⟨hk3, hi3⟩ := hp
        obtain ⟨hr, hl4, hk4⟩ := fin (some .ret) W3 hk3
        exact ⟨_, _, hr, .inr ⟨rfl, .ret, Ix_put _ _ _ _ hi3, hl4, hk4⟩⟩
      | exit id =>
        obtain ⟨hk3, hi3⟩ := hp
        obtain ⟨hr, hl4, hk4⟩ := fin (some (.exit id)) W3 hk3
        exact ⟨_, _, hr, .inr ⟨rfl, .exit id, Ix_put _ _ _ _ hi3, hl4, hk4⟩⟩
      | goto t => exact hp.elim
      | panic ch => exact hp.elim
      | outgrown => exact hp.elim

end Go.Proofs.Ytcmllkjgggcghaa
