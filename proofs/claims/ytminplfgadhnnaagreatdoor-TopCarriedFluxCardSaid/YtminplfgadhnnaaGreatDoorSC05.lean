/- URange BC2 UApp UA8 UA10 UA9 -/
import Derived.Test.YtminplfgadhnnaaGreatDoorSC01
import Derived.RangeFuncFrom
import Derived.RangeFuncNested
import Derived.RangeFuncCalls
import Derived.RangeFuncLeaves
import Derived.OwnWalkIn
import Derived.TacticsInMore
import Derived.LoopNIn
import Derived.LoopIn
import Derived.Test.YtminplfgadhnnaaGreatDoorSC04
import Derived.Test.YtminplfgadhnnaaGreatDoorSC03
import Derived.ArgAppend
import Derived.Deep.RegionLawGrows
import Derived.Deep.AppendLies
import Derived.Deep.DeepCutAuto
import Derived.Shelf.RegionOpen
/- A range over a function whose iterator has blocks of its own and yields a known list: the caller's law. -/
section
namespace Go.Proofs.YtminplfgadhnnaaGreatDoor
open Go.RowKit Go.Shelf
set_option linter.unusedSimpArgs false
set_option linter.unusedVariables false

/-- a step that turns blocks of O alone, and lays new ones -/
structure Turns (O : Nat → Prop) (W W' : World) : Prop where
  os : W'.os = W.os
  tape : W'.tape = W.tape
  output : W'.output = W.output
  size : W.heap.size ≤ W'.heap.size
  block : ∀ i, i < W.heap.size → ¬ O i → W'.heap[i]? = W.heap[i]?

theorem Turns.of_below {O : Nat → Prop} {W W' : World} (h : Below W.heap.size W W') : Turns O W W' := ⟨h.os, h.tape, h.output, h.size, fun i hi _ => h.block i hi⟩
theorem Turns.refl (O : Nat → Prop) (W : World) : Turns O W W := ⟨rfl, rfl, rfl, Nat.le_refl _, fun _ _ _ => rfl⟩
theorem Turns.trans {O : Nat → Prop} {A B C : World} (h : Turns O A B) (k : Turns O B C) : Turns O A C :=
  ⟨k.os.trans h.os, k.tape.trans h.tape, k.output.trans h.output, Nat.le_trans h.size k.size, fun i hi ho => (k.block i (Nat.lt_of_lt_of_le hi h.size) ho).trans (h.block i hi ho)⟩
theorem Turns.mono {O O' : Nat → Prop} {W W' : World} (h : Turns O W W') (hO : ∀ i, O i → O' i) : Turns O' W W' := ⟨h.os, h.tape, h.output, h.size, fun i hi ho => h.block i hi (fun k => ho (hO i k))⟩
theorem Turns.putObj {O : Nat → Prop} {W : World} {l : Nat} (o : Obj) (hl : O l) : Turns O W (W.putObj l o) :=
  ⟨rfl, rfl, rfl, by simp, fun i _ ho => World.putObj_heap_other (fun e => ho (e ▸ hl))⟩
theorem Turns.setCell {O : Nat → Prop} {W : World} {p : Addr} (v : Value) (hp : O p.block) : Turns O W (W.setCell p v) :=
  ⟨rfl, rfl, rfl, by simp [World.setCell], fun i _ ho => Below.heap_setCell W p v i (fun e => ho (e ▸ hp))⟩
theorem Turns.below {O : Nat → Prop} {B : Nat} {A W W' : World} (h : Below B A W) (k : Turns O W W') (hO : ∀ i, O i → B ≤ i) (hB : B ≤ W.heap.size) : Below B A W' :=
  h.trans ⟨k.os, k.tape, k.output, k.size, fun i hi => k.block i (by omega) (fun ho => by have := hO i ho; omega)⟩

/-- what is said abides such steps -/
def Bears {β : Type} (O : Nat → Prop) (J : β → World → Prop) : Prop := ∀ s W W', J s W → Turns O W W' → J s W'

/-- the two blocks of a loop over a function are as they were -/
def Keeps2 (b : Nat) (W W' : World) : Prop := W.heap.size ≤ W'.heap.size ∧ W'.heap[b]? = W.heap[b]? ∧ W'.heap[b + 1]? = W.heap[b + 1]?
theorem Keeps2.of_turns {O : Nat → Prop} {b : Nat} {W W' : World} (h : Turns O W W') (h0 : ¬ O b) (h1 : ¬ O (b + 1)) (hb : b + 2 ≤ W.heap.size) : Keeps2 b W W' :=
  ⟨h.size, h.block _ (by omega) h0, h.block _ (by omega) h1⟩

/-- a function value yields the list xs0, one by one; it turns blocks of O alone (O's first number: the heap's size at its call) and lays new ones; behind all of it Fin holds -/
def SeqList {α : Type} (F : Fence) (n : Nat) (P : Program) (g : Nat) (lb : Array Value) (encs : α → Array Value) (O : Nat → Nat → Prop) (Kp : Nat → World → World → Prop) (xs0 : List α) (Fin : World → Prop) (w : World) : Prop :=
  ∀ (l : Nat) (J Jx : List α → World → Prop) (W : World), Below w.heap.size w W → Bears (O W.heap.size) J → Bears (O W.heap.size) Jx →
    (∀ pre x W1, (pre ++ [x]) <+: xs0 → J pre W1 → YieldAt F (n - 1) P l (encs x) W1 fun e W' =>
      (e = .returned (.bool true) ∧ J (pre ++ [x]) W' ∧ Kp W.heap.size W1 W') ∨ (e = .returned (.bool false) ∧ Jx (pre ++ [x]) W')) →
    J [] W →
    CallsIn F n P g (#[.func (.yield l) #[] #[]] ++ lb) W fun e W' => (∃ v, e = .returned v) ∧ ((Fin W' ∧ J xs0 W') ∨ (∃ pre, pre <+: xs0 ∧ Jx pre W'))

/-- how the body of a round may be left -/
def postRound {α : Type} (b : Nat) (Kp : World → World → Prop) (I : List α → World → Prop) (Ix : Code → List α → World → Prop) (xs : List α) (W : World) : Exit → Act → World → Prop
  | .normal, _, W' => Keeps2 b W W' ∧ Kp W W' ∧ I xs W'
  | .ret, _, W' => Keeps2 b W W' ∧ Ix .ret xs W'
  | .exit id, _, W' => Keeps2 b W W' ∧ Ix (.exit id) xs W'
  | _, _, _ => False

variable {F : Fence} {n : Nat} {P : Program}

theorem wpIn_rangeList {α : Type} {g : Operand} {ps : Array Tmp} {assign body : Code} {Q : Exit → Act → World → Prop} {a : Act} {w : World}
    (hro : F.round = none) (h1 : 1 ≤ n) {gf : Nat} {lb : Array Value} (hg : a.eval g = .func (.func gf) #[] lb) (hFg : F.fn gf) (eg : ∀ args w, (callFunc gf args).run P w = .ok (.enter gf args) w)
    {encs : α → Array Value} {O : Nat → Nat → Prop} {Kp : Nat → World → World → Prop} {xs0 : List α} {Fin : World → Prop} {w0 : World} (hseq : SeqList F (n - 1) P gf lb encs O Kp xs0 Fin w0)
    (hO : ∀ i, O (w.heap.size + 2) i → i ≠ w.heap.size ∧ i ≠ w.heap.size + 1) (hKt : ∀ {A B C : World}, Kp (w.heap.size + 2) A B → Kp (w.heap.size + 2) B C → Kp (w.heap.size + 2) A C)
    (hKb : ∀ (W : World) (o' : Obj), Kp (w.heap.size + 2) W (W.putObj (w.heap.size + 1) o')) (hFin : ∀ (W : World) (o' : Obj), Fin W → Fin (W.putObj (w.heap.size + 1) o'))
    (hb0 : Below w0.heap.size w0 w) (hps : ∀ x, (encs x).size = ps.size)
    (I : List α → World → Prop) (Ix : Code → List α → World → Prop) (hI : Bears (fun i => O (w.heap.size + 2) i ∨ i = w.heap.size + 1) I) (hIx : ∀ c, Bears (fun i => O (w.heap.size + 2) i ∨ i = w.heap.size + 1) (Ix c)) (h0 : I [] w)
    (Ax : List α → α → Act → World → Prop) (hAx : ∀ (pre : List α) (x : α) (a' : Act) (W : World) (o' : Obj), Ax pre x a' W → Ax pre x a' (W.putObj (w.heap.size + 1) o'))
    (hassign : ∀ (l : Nat) (pre : List α) (x : α) (W : World) (K : Act → World → Prop), (pre ++ [x]) <+: xs0 → I pre W → w.heap.size + 2 ≤ W.heap.size →
      (∀ a' W1, Keeps2 w.heap.size W W1 → Kp (w.heap.size + 2) W W1 → Ax pre x a' W1 → K a' W1) →
      assign.wpIn (F.inRound l) (n - 1 - 1) P (Exit.then K (fun _ _ _ => False)) { tmps := (ps.zip (encs x)).foldl (fun t (p, v) => t.setIfInBounds p v) a.tmps, defers := [] } W)
    (hbody : ∀ (l : Nat) (pre : List α) (x : α) (a' : Act) (W : World), (pre ++ [x]) <+: xs0 → Ax pre x a' W → w.heap.size + 2 ≤ W.heap.size →
      body.wpIn (F.inRound l) (n - 1 - 1) P (postRound w.heap.size (Kp (w.heap.size + 2)) I Ix (pre ++ [x]) W) a' W)
    (hdone : ∀ (W : World), Fin W → I xs0 W → W.heap[w.heap.size]? = some (.deferred (some [])) → Q .normal { a with defers := { target := .collected w.heap.size, args := #[] } :: a.defers } W)
    (hstop : ∀ (c : Code) (pre : List α) (W : World), pre <+: xs0 → Ix c pre W → W.heap[w.heap.size]? = some (.deferred (some [])) → c.wpIn F n P Q { a with defers := { target := .collected w.heap.size, args := #[] } :: a.defers } W) :
    (Code.rangeFunc g ps assign body).wpIn F n P Q a w := by
  refine wpIn_rangeFunc fun fn hfn => ?_
  rw [hro]
  -- the loop's record in each of its states
  obtain ⟨rec, hrec⟩ : ∃ rec : LoopState → Option Code → Loop, rec = fun st pe => { state := st, pending := pe, fn, tmps := a.tmps, params := ps, assign, body, defers := w.heap.size } := ⟨_, rfl⟩
  obtain ⟨W1, hW1⟩ : ∃ W1, (w.alloc (.deferred (some []))).alloc (.loop (rec .ready none)) = W1 := ⟨_, rfl⟩
  have hsz : W1.heap.size = w.heap.size + 2 := by rw [← hW1]; simp
  have hloop : W1.heap[w.heap.size + 1]? = some (.loop (rec .ready none)) := by
    rw [← hW1]
    have := World.alloc_heap_new (w.alloc (.deferred (some []))) (.loop (rec .ready none))
    rwa [World.size_alloc] at this
  have hdef : W1.heap[w.heap.size]? = some (.deferred (some [])) := by
    rw [← hW1]; exact (Below.heap_alloc _ _ _ (by simp)).trans (World.alloc_heap_new w _)
  have hbw : Below w.heap.size w W1 := by rw [← hW1]; exact balloc (balloc (Below.refl _ _) _) _
  have hIW : I [] W1 := hI [] w W1 h0 (Turns.of_below hbw)
  have rec_put : ∀ (W : World) (o : Obj), w.heap.size + 1 < W.heap.size → (W.putObj (w.heap.size + 1) o).heap[w.heap.size + 1]? = some o := fun W o h => World.putObj_heap_same h
  have def_put : ∀ (W : World) (o : Obj), (W.putObj (w.heap.size + 1) o).heap[w.heap.size]? = W.heap[w.heap.size]? := fun W o => World.putObj_heap_other (by omega)
  have I_put : ∀ s (W : World) (o : Obj), I s W → I s (W.putObj (w.heap.size + 1) o) := fun s W o h => hI s W _ h (Turns.putObj o (.inr rfl))
  have Ix_put : ∀ c s (W : World) (o : Obj), Ix c s W → Ix c s (W.putObj (w.heap.size + 1) o) := fun c s W o h => hIx c s W _ h (Turns.putObj o (.inr rfl))
  have hO' : ∀ i, O W1.heap.size i → i ≠ w.heap.size ∧ i ≠ w.heap.size + 1 := fun i hi => hO i (hsz ▸ hi)
  refine ⟨w.heap.size + 1, [{ target := .collected w.heap.size, args := #[] }], W1, { target := .fn (.func gf) lb, args := #[.func (.yield (w.heap.size + 1)) #[] #[]] }, W1, gf,
    #[.func (.yield (w.heap.size + 1)) #[] #[]] ++ lb, W1, ?_, ?_, ?_, ?_, fun _ => h1, ?_⟩
  · rw [← hW1, hrec]; exact run_enterLoop_outer _ _ _ _ _
  · simp only [resolve, hg]
    simp [go_sem]
  · intro f' hf'; simp [Target.leads] at hf'; subst hf'; exact hFg
  · simp [invoke, go_sem, eg]
  · have hcall := hseq (w.heap.size + 1)
      (fun pre W => I pre W ∧ W.heap[w.heap.size + 1]? = some (.loop (rec .ready none)) ∧ W.heap[w.heap.size]? = some (.deferred (some [])))
      (fun pre W => ∃ c, Ix c pre W ∧ W.heap[w.heap.size + 1]? = some (.loop (rec .done (some c))) ∧ W.heap[w.heap.size]? = some (.deferred (some [])))
      W1 (hb0.trans (hbw.mono hb0.size))
      (fun s A B hs ht => by
        have hlt : w.heap.size + 1 < A.heap.size := (Array.getElem?_eq_some_iff.1 hs.2.1).1
        exact ⟨hI s A B hs.1 (ht.mono fun i hi => .inl (hsz ▸ hi)), (ht.block _ hlt (fun ho => (hO' _ ho).2 rfl)).trans hs.2.1, (ht.block _ (by omega) (fun ho => (hO' _ ho).1 rfl)).trans hs.2.2⟩)
      (fun s A B hs ht => by
        obtain ⟨c, hc, hl, hk⟩ := hs
        have hlt : w.heap.size + 1 < A.heap.size := (Array.getElem?_eq_some_iff.1 hl).1
        exact ⟨c, hIx c s A B hc (ht.mono fun i hi => .inl (hsz ▸ hi)), (ht.block _ hlt (fun ho => (hO' _ ho).2 rfl)).trans hl, (ht.block _ (by omega) (fun ho => (hO' _ ho).1 rfl)).trans hk⟩)
      ?_ ⟨hIW, hloop, hdef⟩
    · refine hcall.mono ?_
      rintro e W2 ⟨⟨v, rfl⟩, (⟨hF2, hi, hl, hk⟩ | ⟨pre, hpre, c, hi, hl, hk⟩)⟩
      · refine ⟨none, _, by have := run_endLoop (P := P) hl (by rw [hrec]; simp); rw [hrec] at this; exact this, ?_⟩
        exact hdone _ (hFin _ _ hF2) (I_put _ _ _ hi) ((def_put _ _).trans hk)
      · refine ⟨some c, _, by have := run_endLoop (P := P) hl (by rw [hrec]; simp); rw [hrec] at this; exact this, ?_⟩
        exact hstop c pre _ hpre (Ix_put _ _ _ _ hi) ((def_put _ _).trans hk)
    · rintro pre x W hpx ⟨hi, hl, hk⟩
      have hlt : w.heap.size + 1 < W.heap.size := (Array.getElem?_eq_some_iff.1 hl).1
      have hy := run_yield (P := P) (args := encs x) hl (by rw [hrec]; exact hps x)
      rw [hrec] at hy
      refine ⟨fn, _, assign, body, hy, roundIn_of_wpIn hfn (hassign _ pre x W _ hpx hi (by omega) ?_)⟩
      intro a' Wa hka hkpa hax
      have hla : Wa.heap[w.heap.size + 1]? = some (.loop (rec .ready none)) := hka.2.2.trans hl
      have hka' : Wa.heap[w.heap.size]? = some (.deferred (some [])) := hka.2.1.trans hk
      have hlta : w.heap.size + 1 < Wa.heap.size := by have := hka.1; omega
      refine ⟨_, run_beginRound hla (by rw [hrec]), ?_⟩
      have hl2 := rec_put Wa (.loop { rec .ready none with state := .busy }) hlta
      have hk2 := (def_put Wa (.loop { rec .ready none with state := .busy })).trans hka'
      have hkp2 : Kp (w.heap.size + 2) W (Wa.putObj (w.heap.size + 1) (.loop { rec .ready none with state := .busy })) := hKt hkpa (hKb _ _)
      refine wpIn_mono (hbody _ pre x a' _ hpx (hAx _ _ _ _ _ hax) (by simp; omega)) ?_
      have fin : ∀ (jump : Option Code) (W3 : World), Keeps2 w.heap.size (Wa.putObj (w.heap.size + 1) (.loop { rec .ready none with state := .busy })) W3 →
          (Instr.endRound (w.heap.size + 1) jump).run P W3 = .ok (.bool jump.isNone) (W3.putObj (w.heap.size + 1) (.loop (rec (if jump.isNone then .ready else .done) jump))) ∧
          (W3.putObj (w.heap.size + 1) (.loop (rec (if jump.isNone then .ready else .done) jump))).heap[w.heap.size + 1]? = some (.loop (rec (if jump.isNone then .ready else .done) jump)) ∧
          (W3.putObj (w.heap.size + 1) (.loop (rec (if jump.isNone then .ready else .done) jump))).heap[w.heap.size]? = some (.deferred (some [])) := fun jump W3 hk3 => by
        have hl3 := hk3.2.2.trans hl2
        have hr := run_endRound (P := P) jump hl3
        rw [hrec] at hr ⊢
        exact ⟨hr, rec_put _ _ (Array.getElem?_eq_some_iff.1 hl3).1, (def_put _ _).trans (hk3.2.1.trans hk2)⟩
      rintro e a3 W3 hp
      cases e with
      | normal =>
        obtain ⟨hk3, hkp3, hi3⟩ := hp
        obtain ⟨hr, hl4, hk4⟩ := fin none W3 hk3
        exact ⟨_, _, hr, .inl ⟨rfl, ⟨I_put _ _ _ hi3, hl4, hk4⟩, by rw [hsz]; exact hKt (hKt hkp2 hkp3) (hKb _ _)⟩⟩
      | ret =>
        obtain ⟨hk3, hi3⟩ := hp
        obtain ⟨hr, hl4, hk4⟩ := fin (some .ret) W3 hk3
        exact ⟨_, _, hr, .inr ⟨rfl, .ret, Ix_put _ _ _ _ hi3, hl4, hk4⟩⟩
      | exit id =>
        obtain ⟨hk3, hi3⟩ := hp
        obtain ⟨hr, hl4, hk4⟩ := fin (some (.exit id)) W3 hk3
        exact ⟨_, _, hr, .inr ⟨rfl, .exit id, Ix_put _ _ _ _ hi3, hl4, hk4⟩⟩
      | goto t => exact hp.elim
      | panic ch => exact hp.elim
      | outgrown => exact hp.elim

end Go.Proofs.YtminplfgadhnnaaGreatDoor
end

/- Walks of package bench: exchange. -/
section
namespace Go.Proofs.YtminplfgadhnnaaGreatDoor
open Go.RowKit Go.Shelf
set_option linter.unusedSimpArgs false
set_option linter.unusedVariables false
open Bm (anN)

theorem Cs.of_heap {A B : World} {g : Nat} {cs : Array Value} (h : Cs A g cs) (hs : A.heap.size ≤ B.heap.size) (hb : B.heap[g]? = A.heap[g]?) : Cs B g cs :=
  ⟨Nat.lt_of_lt_of_le h.1 hs, fun i => by rw [← h.c i]; simp only [World.cell?, hb], fun i => by rw [← h.f i]; simp only [World.frozen?, hb]⟩
theorem Cs.turns {A B : World} {O : Nat → Prop} {g : Nat} {cs : Array Value} (h : Cs A g cs) (ht : Turns O A B) (hg : ¬ O g) : Cs B g cs := h.of_heap ht.size (ht.block g h.1 hg)
theorem Turns.drew {O : Nat → Prop} {A B : World} (h : Turns O A B) : Turns O A B.drew := ⟨h.os, h.tape, h.output, h.size, h.block⟩
theorem Ln.turns {A B : World} {O : Nat → Prop} {g : Nat} {v : Nat → Nat} (h : Ln A g v) (ht : Turns O A B) (hg : ¬ O g) : Ln B g v := by
  have hl := h.lt
  obtain ⟨t, h⟩ := h
  exact ⟨t, (ht.block g hl hg).trans h⟩
theorem Prs.turns {w w' : World} {O : Nat → Prop} {A : Option Addr} {n : Nat} {zs : List (Int × Int)} (h : Prs w A n zs) (ht : Turns O w w') (hO : ∀ b off, 0 < n → A = some ⟨b, off, none⟩ → ¬ O b) : Prs w' A n zs := by
  refine ⟨h.1, fun hn => ?_⟩
  obtain ⟨b, off, rfl, hlt, hc⟩ := h.2 hn
  have he := ht.block b hlt (hO b off hn rfl)
  refine ⟨b, off, rfl, Nat.lt_of_lt_of_le hlt ht.size, fun i x y hp => ?_⟩
  obtain ⟨h1, h2⟩ := hc i x y hp
  exact ⟨by rw [← h1]; simp only [World.cell?, he], by rw [← h2]; simp only [World.cell?, he]⟩

end Go.Proofs.YtminplfgadhnnaaGreatDoor
end

/- Appends of numbers that must grow. -/
section
namespace Go.Proofs.YtminplfgadhnnaaGreatDoor
open Go.RowKit Go.Shelf
set_option linter.unusedSimpArgs false
set_option linter.unusedVariables false

theorem addr_add (b off j : Nat) : (⟨b, off, none⟩ : Addr).add j = ⟨b, off + j, none⟩ := by
  unfold Addr.add; split
  · rename_i h; simp [h]
  · rfl

theorem Ints.reads {w : World} {A : Option Addr} {n : Nat} {zs : List Int} (h : Ints w A n zs) : ∀ b, A = some b → ∀ j u, (zs.map (Value.int .i64))[j]? = some u → w.cell? (b.add j) = some u := by
  intro ad had j u hu
  have hj : j < zs.length := by
    have := List.getElem?_eq_some_iff.1 hu
    obtain ⟨h1, _⟩ := this
    simpa using h1
  obtain ⟨b, off, hA, _, hc⟩ := h.2 (by rw [← h.1]; omega)
  rw [had] at hA
  injection hA with hA
  subst hA
  rw [addr_add, hc j (by rw [← h.1]; exact hj)]
  rw [List.getElem?_map, List.getElem?_eq_getElem hj] at hu
  rw [List.getD_eq_getElem?_getD, List.getElem?_eq_getElem hj]
  simpa using hu

theorem Ints.of_own {w : World} {B : Nat} {g n cap : Nat} {zs : List Int} (h : w.ownsRow B 2 1 (.slice (some ⟨g, 0, none⟩) n cap) n (zs.map (Value.int .i64))) : Ints w (some ⟨g, 0, none⟩) n zs := by
  obtain ⟨hl, h2⟩ := h
  simp at hl
  refine ⟨hl, fun hn => ?_⟩
  rcases h2 with ⟨hv, h0⟩ | ⟨g', cap', cur, hv, hB, hh, hn1, hn2, hcs, htake⟩
  · omega
  · injection hv with hv1 hv2 hv3
    injection hv1 with hv1
    injection hv1 with hv1
    subst hv1
    have hlt : g < w.heap.size := by
      rcases Nat.lt_or_ge g w.heap.size with hlt | hge
      · exact hlt
      · rw [Array.getElem?_eq_none hge] at hh; cases hh
    refine ⟨g, 0, rfl, hlt, fun i hi => ?_⟩
    have h1 := cell_of_row w g (0 + i) cur 2 (0, 0) hh
    rw [h1]
    have h3 : (cur.toList.take (n * 1))[i]? = (zs.map (Value.int .i64))[i]? := by rw [htake]
    have hil : i < zs.length := by omega
    rw [List.getElem?_take_of_lt (by omega), List.getElem?_map, List.getElem?_eq_getElem hil] at h3
    rw [List.getD_eq_getElem?_getD, List.getElem?_eq_getElem hil, Nat.zero_add]
    simpa using h3

theorem int_info : (Tryz.prog.info? 2).map (fun i => (i.zero, i.size, i.bytes)) = some (some (.int .i64 0), 1, 8) := by kernel_rfl

/-- an append of numbers that must grow: what the new slice reads as -/
theorem after_grow {w w' : World} {n m : Nat} {xs ys : List Int} {v : Value} (hpos : 0 < n + m) (h : w'.ownsRow w.heap.size 2 1 v (n + m) (xs.map (Value.int .i64) ++ ys.map (Value.int .i64))) (hg : w.grownBy w' none) :
    ∃ g c, v = .slice (some ⟨g, 0, none⟩) (n + m) c ∧ Ints w' (some ⟨g, 0, none⟩) (n + m) (xs ++ ys) ∧ n + m ≤ c ∧ Below w.heap.size w w' := by
  rw [← List.map_append] at h
  obtain ⟨g, c, rfl, _, _⟩ := World.ownsRow.form h hpos
  refine ⟨g, c, rfl, Ints.of_own h, ?_, (Below.refl _ w).grown hg (Nat.le_refl _) (fun k hk => by cases hk)⟩
  rcases h.2 with ⟨hv, _⟩ | ⟨g', cap', cur, hv, _, _, hn1, _⟩
  · cases hv
  · injection hv with _ _ hv3; omega

theorem step_appI {ops : Array Oper} {o : Oper} {a : Act} {w : World} {K : Act → World → Prop} {Q : Exit → Act → World → Prop} {E : Prop}
    (hg : o.guard = none) (s x : Operand) (hop : o.op = Op.call { callee := Callee.builtin Builtin.append, args := #[s, x], argTypes := #[22, 22] })
    (ao : Option Addr) (n cap : Nat) (xs : List Int) (hs : a.eval s = .slice ao n cap) (hxs : Ints w ao n xs) (hnone : ao = none → n = 0 ∧ cap = 0)
    (ap : Option Addr) (m c : Nat) (ys : List Int) (hx : a.eval x = .slice ap m c) (hys : Ints w ap m ys) (hm : 0 < m) (hfull : cap < n + m) (b1 : n + m ≤ 100000)
    (hK : ∀ g c' w', Ints w' (some ⟨g, 0, none⟩) (n + m) (xs ++ ys) → n + m ≤ c' → Below w.heap.size w w' → K (a.put o.dst (.slice (some ⟨g, 0, none⟩) (n + m) c')) w') :
    if Region.wanted o (yielded ops a.tmps) = true then Oper.wp Tryz.prog o a w K Q else E := by
  obtain ⟨i0, hi0, hz0, hz1, hz2⟩ := info_parts int_info
  obtain ⟨b, off, rfl, _, _⟩ := hys.2 hm
  refine step_append_grows hg s x 22 hop 2 i0 (.int .i64 0) 1 8 Tryz.underlying22 hi0 hz0 hz1 hz2 rfl (by omega) ao n cap (xs.map (Value.int .i64)) hs hnone (by simp [hxs.1]) hxs.reads
    ⟨b, off, none⟩ m c (ys.map (Value.int .i64)) hx (by simp [hys.1]) (hys.reads _ rfl) (by intro u hu; obtain ⟨y, _, rfl⟩ := List.mem_map.1 hu; rfl) hfull (by unfold maxLen; omega) (by omega) ?_
  intro v' w' h1 h2
  obtain ⟨g, c', rfl, h3, h4, h5⟩ := after_grow (by omega) h1 h2
  exact hK g c' w' h3 h4 h5

end Go.Proofs.YtminplfgadhnnaaGreatDoor
end

/- The walk of package unit's isPath, Path, Follow's parts. -/
section
namespace Go.Proofs.YtminplfgadhnnaaGreatDoor
open Go.RowKit Go.Shelf
set_option linter.unusedSimpArgs false
set_option linter.unusedVariables false
open Um (frac S4 spanB spanE sp on)

set_option maxHeartbeats 1000000 in
theorem on_any (p q p' q' n : Int) (w : World) (h1 : 0 ≤ p) (h2 : 0 ≤ q) (h3 : 0 ≤ p') (h4 : 0 ≤ q') (H1 : p ≤ 1000000000) (H2 : q ≤ 1000000000) (H3 : p' ≤ 1000000000) (H4 : q' ≤ 1000000000) (hn : 0 ≤ n) (hN : n ≤ 1000000000) :
    Calls Tryz.prog 149 #[.agg #[.int .i64 p, .int .i64 q, .int .i64 p', .int .i64 q'], .int .i64 n] w fun e w' => e = .returned (.agg #[.int .i64 (on (p, q, p', q') n).1, .int .i64 (on (p, q, p', q') n).2.1, .int .i64 (on (p, q, p', q') n).2.2.1, .int .i64 (on (p, q, p', q') n).2.2.2]) ∧ Below w.heap.size w w' := by
  have m1 : 0 ≤ n * p := Int.mul_nonneg hn h1
  have m2 : n * p ≤ 1000000000 * 1000000000 := Int.mul_le_mul hN H1 h1 (by omega)
  have m3 : 0 ≤ n * q := Int.mul_nonneg hn h2
  have m4 : n * q ≤ 1000000000 * 1000000000 := Int.mul_le_mul hN H2 h2 (by omega)
  unfold on
  go_enter Tryz.func149, Tryz.ntmps149
  go_wp2_with fail
  exact bodyPost_ret (v := .agg #[.int .i64 (n * p + p'), .int .i64 (n * q + q'), .int .i64 p, .int .i64 q]) (by simp [results, Tryz.results149, go_sem]) rfl ⟨rfl, (by repeat (first | with_reducible exact Below.refl _ _ | with_reducible assumption | with_reducible refine balloc ?_ _ | with_reducible refine bdrewN ?_ _ | with_reducible refine Below.drew ?_ | (with_reducible refine bset ?_ ?_ _; rotate_left; focus (first | assumption | omega | (simp; done) | (simp; omega))) | with_reducible refine bstep ?_ (by assumption) | assumption))⟩

set_option maxHeartbeats 1000000 in
theorem now_any (p q p' q' : Int) (w : World) :
    Calls Tryz.prog 47 #[.agg #[.int .i64 p, .int .i64 q, .int .i64 p', .int .i64 q']] w fun e w' => e = .returned (.agg #[.int .i64 p, .int .i64 q]) ∧ Below w.heap.size w w' := by
  go_enter Tryz.func47, Tryz.ntmps47
  go_wp2_with fail
  exact bodyPost_ret (v := .agg #[.int .i64 p, .int .i64 q]) (by simp [results, Tryz.results47, go_sem]) rfl ⟨rfl, (by repeat (first | with_reducible exact Below.refl _ _ | with_reducible assumption | with_reducible refine balloc ?_ _ | with_reducible refine bdrewN ?_ _ | with_reducible refine Below.drew ?_ | (with_reducible refine bset ?_ ?_ _; rotate_left; focus (first | assumption | omega | (simp; done) | (simp; omega))) | with_reducible refine bstep ?_ (by assumption) | assumption))⟩

end Go.Proofs.YtminplfgadhnnaaGreatDoor
end

/- The walk of package unit's steps: what a path yields. -/
section
namespace Go.Proofs.YtminplfgadhnnaaGreatDoor
open Go.RowKit Go.Shelf
set_option linter.unusedSimpArgs false
set_option linter.unusedVariables false
open Um (frac S4 spanB spanE sp on St stepsL inl)
attribute [local go_sem] Oper.semAt_some

theorem Ints.of_heap {w w' : World} {A : Option Addr} {n : Nat} {zs : List Int} (h : Ints w A n zs) (hs : w.heap.size ≤ w'.heap.size) (hb : 0 < n → ∀ b off, A = some ⟨b, off, none⟩ → w'.heap[b]? = w.heap[b]?) : Ints w' A n zs := by
  refine ⟨h.1, fun hn => ?_⟩
  obtain ⟨b, off, rfl, hlt, hc⟩ := h.2 hn
  exact ⟨b, off, rfl, by omega, fun i hi => (World.cell?_of_block (w := w) (a := ⟨b, off + i, none⟩) (hb hn b off rfl)).trans (hc i hi)⟩

/-- what the rounds of a range over a path's steps keep -/
def KpS (A : Option Addr) (n B : Nat) (W W' : World) : Prop := W.heap.size ≤ W'.heap.size ∧ ∀ i, i < W.heap.size → (i = B ∨ (0 < n ∧ ∃ off, A = some ⟨i, off, none⟩)) → W'.heap[i]? = W.heap[i]?
theorem KpS.trans {A : Option Addr} {n B : Nat} {X Y Z : World} (h : KpS A n B X Y) (k : KpS A n B Y Z) : KpS A n B X Z :=
  ⟨Nat.le_trans h.1 k.1, fun i hi hb => (k.2 i (Nat.lt_of_lt_of_le hi h.1) hb).trans (h.2 i hi hb)⟩
theorem KpS.of_turns {A : Option Addr} {n B : Nat} {O : Nat → Prop} {X Y : World} (h : Turns O X Y) (hO : ∀ i, (i = B ∨ (0 < n ∧ ∃ off, A = some ⟨i, off, none⟩)) → ¬ O i) : KpS A n B X Y :=
  ⟨h.size, fun i hi hb => h.block i hi (hO i hb)⟩

/-- the package's first step -/
def FirstAt (w : World) : Prop := 0 < w.heap.size ∧ ∀ i, w.cell? ⟨0, i, none⟩ = (#[.int .i64 1, .int .i64 0, .int .i64 0, .int .i64 1] : Array Value)[i]?
theorem FirstAt.below {w w' : World} (h : FirstAt w) (hb : Below w.heap.size w w') : FirstAt w' := ⟨Nat.lt_of_lt_of_le h.1 hb.size, fun i => (hb.cell (p := ⟨_, i, none⟩) h.1).trans (h.2 i)⟩

theorem all_inl (t : St) : ([t.1, t.2.1].all fun x => !out_u 0 1000000000 x) = inl t := by
  rw [Bool.eq_iff_iff]
  simp [out_u, inl]
  omega

theorem turns_set4 {O : Nat → Prop} {w : World} {g : Nat} (x y z u : Value) (hg : O g) : Turns O w ((((w.setCell ⟨g, 0, none⟩ x).setCell ⟨g, 1, none⟩ y).setCell ⟨g, 2, none⟩ z).setCell ⟨g, 3, none⟩ u) :=
  (((Turns.setCell (p := ⟨g, 0, none⟩) x hg).trans (Turns.setCell (p := ⟨g, 1, none⟩) y hg)).trans (Turns.setCell (p := ⟨g, 2, none⟩) z hg)).trans (Turns.setCell (p := ⟨g, 3, none⟩) u hg)

set_option maxRecDepth 100000 in
set_option maxHeartbeats 1000000 in
theorem steps_in_u (n : Nat) (hn : 1 ≤ n) (Bs len cap : Nat) (A : Option Addr) (zs : List Int) (w : World) (hBs : w.cell? ⟨Bs, 0, none⟩ = some (.slice A len cap)) (hz : Ints w A len zs) (hlen : len ≤ 1000)
    (h0 : ∀ x ∈ zs, 0 ≤ x) (hfa : FirstAt w) :
    SeqList Fence.wide n Tryz.prog 148 #[.pointer (some ⟨Bs, 0, none⟩)] (fun x : St => #[.agg #[.int .i64 x.1, .int .i64 x.2.1, .int .i64 x.2.2.1, .int .i64 x.2.2.2]]) (fun B i => i = B) (KpS A len) (stepsL Um.first zs) (fun _ => True) w := by
  intro l J Jx W hW hJ hJx hY hJ0
  refine callsIn_of_wp Tryz.func148 rfl trivial ?_ rfl
  simp only [Tryz.ntmps148, List.size_toArray, List.length_cons, List.length_nil, Nat.reduceAdd, Nat.reduceSub, Array.replicate_succ, Array.replicate_zero, List.push_toArray, List.append_toArray, List.nil_append, List.cons_append]
  have hBsW := (hW.cell (p := ⟨Bs, 0, none⟩) (World.block_lt_of_cell? w _ hBs)).trans hBs
  have hzW := hz.below hW
  have hfW := (hfa.below hW).2
  have hBlt : Bs < W.heap.size := Nat.lt_of_lt_of_le (World.block_lt_of_cell? w _ hBs) hW.size
  have HA : Hid (∀ b off, 0 < len → A = some ⟨b, off, none⟩ → b < W.heap.size) := by
    intro b off h e
    obtain ⟨b', off', e', hl, _⟩ := hzW.2 h
    rw [e] at e'
    injection e' with e'
    injection e' with e'
    omega
  have HY := Lib.hid hY
  have HJ := Lib.hid hJ
  have HJx := Lib.hid hJx
  have HzW := Lib.hid hzW
  have H0 := Lib.hid h0
  clear hY hJ hJx hzW h0 hz hBs
  gi_wp2_with fail
  gi_loopw [9] (fun i wr => ∃ (k : Nat) (pre : List St) (s : St), k ≤ len ∧ i = .int .i64 k ∧ Hid (stepsL Um.first zs = pre ++ stepsL s (zs.drop k)) ∧ 0 ≤ s.1 ∧ s.1 ≤ 1000000000 ∧ 0 ≤ s.2.1 ∧ s.2.1 ≤ 1000000000 ∧ 0 ≤ s.2.2.1 ∧ s.2.2.1 ≤ 1000000000 ∧ 0 ≤ s.2.2.2 ∧ s.2.2.2 ≤ 1000000000 ∧
      Cs wr W.heap.size #[.int .i64 s.1, .int .i64 s.2.1, .int .i64 s.2.2.1, .int .i64 s.2.2.2] ∧ Ints wr A len zs ∧ J pre wr) (fun i _ => len - (intOf i).toNat)
  case atStart =>
    refine ⟨0, [], Um.first, Nat.zero_le _, rfl, rfl, by decide, by decide, by decide, by decide, by decide, by decide, by decide, by decide, ?_, HzW.out.alloc _, ?_⟩
    · exact Cs.new _ _ _ _ rfl
    · exact HJ.out [] W _ hJ0 (Turns.of_below (balloc (Below.refl _ _) _))
  case round =>
    obtain ⟨k, pre, s, hk, rfl, Hst, s1, s2, s3, s4, s5, s6, s7, s8, BS, hzr, hJr⟩ := hrel
    by_cases hlt : k < len
    · obtain ⟨b, off, rfl, hbl, hc⟩ := hzr.2 (by omega)
      have hbW := HA.out b off (by omega) rfl
      have hx := hc k hlt
      have hget : zs[k]? = some (zs.getD k 0) := by
        rw [List.getD_eq_getElem?_getD, List.getElem?_eq_getElem (by rw [hzr.1]; exact hlt)]; rfl
      have hxp := H0.out _ (List.mem_of_getElem? hget)
      have hdrop : zs.drop k = zs.getD k 0 :: zs.drop (k + 1) := by
        have hl : k < zs.length := by rw [hzr.1]; exact hlt
        rw [List.drop_eq_getElem_cons hl, List.getD_eq_getElem?_getD, List.getElem?_eq_getElem hl]; rfl
      have Hzr := Lib.hid hzr
      have HJr := Lib.hid hJr
      clear hc hget hzr hJr
      generalize zs.getD k 0 = x at *
      have Hdrop := Lib.hid hdrop
      clear hdrop
      have hstep : stepsL s (x :: zs.drop (k + 1)) = if 1000000000 < x then [] else if inl (on s x) = true then on s x :: stepsL (on s x) (zs.drop (k + 1)) else [] := rfl
      by_cases hbig : 1000000000 < x
      · have hend : stepsL Um.first zs = pre := by rw [Hst.out, Hdrop.out, hstep, if_pos hbig, List.append_nil]
        clear hstep
        gi_wp2_with fail
        refine bodyPost_ret (results_none rfl _ _ _) rfl ⟨⟨_, rfl⟩, .inl ⟨trivial, ?_⟩⟩
        rw [hend]; exact HJr.out
      · have hx2 : x ≤ 1000000000 := by omega
        have k1 : ∀ w', Calls Tryz.prog 149 #[.agg #[.int .i64 s.1, .int .i64 s.2.1, .int .i64 s.2.2.1, .int .i64 s.2.2.2], .int .i64 x] w' fun e w'' => e = .returned (.agg #[.int .i64 (on s x).1, .int .i64 (on s x).2.1, .int .i64 (on s x).2.2.1, .int .i64 (on s x).2.2.2]) ∧ Below w'.heap.size w' w'' :=
          fun w' => on_any s.1 s.2.1 s.2.2.1 s.2.2.2 x w' s1 s3 s5 s7 s2 s4 s6 s8 hxp hx2
        have e3 : (on s x).2.2.1 = s.1 := rfl
        have e4 : (on s x).2.2.2 = s.2.1 := rfl
        have t5 : 0 ≤ (on s x).2.2.1 := s1
        have t6 : (on s x).2.2.1 ≤ 1000000000 := s2
        have t7 : 0 ≤ (on s x).2.2.2 := s3
        have t8 : (on s x).2.2.2 ≤ 1000000000 := s4
        have Hstep : Hid (stepsL s (x :: zs.drop (k + 1)) = if inl (on s x) = true then on s x :: stepsL (on s x) (zs.drop (k + 1)) else []) := by
          show _ = _
          rw [hstep, if_neg hbig]
        clear hbig hstep e3 e4
        generalize on s x = t at *
        have k2 := fun W' A' hz => within_any_u 0 1000000000 A' 2 2 [t.1, t.2.1] W' hz (by omega)
        rw [all_inl t] at k2
        have cBS := BS.c
        have fBS := BS.f
        have lBS := BS.lt
        gi_wp2_with fail
        refine ⟨trivial, (callsIn_wide.2 (k1 _)).mono ?_⟩
        rintro e w1 ⟨rfl, hb1⟩
        clear cBS fBS lBS
        have B1 := BS.keep hb1
        have cB1 := B1.c
        have fB1 := B1.f
        have lB1 := B1.lt
        gi_wp2_with fail
        clear cB1 fB1 lB1
        have B2 := B1.set4 (.int .i64 t.1) (.int .i64 t.2.1) (.int .i64 t.2.2.1) (.int .i64 t.2.2.2)
        have T2 : Turns (fun i => i = W.heap.size) wr ((((w1.setCell ⟨W.heap.size, 0, none⟩ (.int .i64 t.1)).setCell ⟨W.heap.size, 1, none⟩ (.int .i64 t.2.1)).setCell ⟨W.heap.size, 2, none⟩ (.int .i64 t.2.2.1)).setCell ⟨W.heap.size, 3, none⟩ (.int .i64 t.2.2.2)) :=
          (Turns.of_below hb1).trans (turns_set4 _ _ _ _ rfl)
        have hsz2 : Hid (((((w1.setCell ⟨W.heap.size, 0, none⟩ (.int .i64 t.1)).setCell ⟨W.heap.size, 1, none⟩ (.int .i64 t.2.1)).setCell ⟨W.heap.size, 2, none⟩ (.int .i64 t.2.2.1)).setCell ⟨W.heap.size, 3, none⟩ (.int .i64 t.2.2.2)).heap.size = w1.heap.size) := by
          show _ = _
          simp [World.setCell]
        have hbK : ∀ b' off', some (⟨b, off, none⟩ : Addr) = some ⟨b', off', none⟩ → b' ≠ W.heap.size := by
          intro b' off' h
          injection h with h
          injection h with h _
          omega
        generalize ((((w1.setCell ⟨W.heap.size, 0, none⟩ (.int .i64 t.1)).setCell ⟨W.heap.size, 1, none⟩ (.int .i64 t.2.1)).setCell ⟨W.heap.size, 2, none⟩ (.int .i64 t.2.2.1)).setCell ⟨W.heap.size, 3, none⟩ (.int .i64 t.2.2.2)) = w2 at *
        refine ⟨trivial, (callsIn_wide.2 (k2 _ _ (Ints.new2 w2 _ _ _ _ hsz2.out))).mono ?_⟩
        rintro e w3 ⟨rfl, hb3⟩
        have T3 : Turns (fun i => i = W.heap.size) wr w3 := (T2.trans (Turns.of_below (balloc (Below.refl _ _) _))).trans (Turns.of_below hb3)
        have B3 := (B2.alloc (.cells #[.int .i64 t.1, .int .i64 t.2.1] 2)).keep hb3
        have hz3 : Ints w3 (some ⟨b, off, none⟩) len zs := Hzr.out.of_heap T3.size (fun _ b' off' h => T3.block b' (by injection h with h; injection h with h _; rw [← h]; exact hbl) (hbK b' off' h))
        have hJ3 : J pre w3 := HJ.out pre wr w3 HJr.out T3
        have Hz3 := Lib.hid hz3
        have HJ3 := Lib.hid hJ3
        clear hz3 hJ3 T2 T3 hsz2 k1 k2 hb1 hb3 B1 B2 hx
        cases hin : inl t with
        | false =>
          have hend : stepsL Um.first zs = pre := by rw [Hst.out, Hdrop.out, Hstep.out, if_neg (by rw [hin]; decide), List.append_nil]
          have Hend := Lib.hid hend
          clear hin hend
          gi_wp2_with fail
          refine ⟨fun _ h => (by cases h), ?_⟩
          gi_wp2_with fail
          refine bodyPost_ret (results_none rfl _ _ _) rfl ⟨⟨_, rfl⟩, .inl ⟨trivial, ?_⟩⟩
          rw [Hend.out]; exact HJ3.out
        | true =>
          have hst' : stepsL Um.first zs = (pre ++ [t]) ++ stepsL t (zs.drop (k + 1)) := by rw [Hst.out, Hdrop.out, Hstep.out, if_pos hin]; simp
          have Hst' := Lib.hid hst'
          obtain ⟨u1, u2, u3, u4⟩ : 0 ≤ t.1 ∧ t.1 ≤ 1000000000 ∧ 0 ≤ t.2.1 ∧ t.2.1 ≤ 1000000000 := by simpa [inl] using hin
          obtain ⟨fn, tmps, assign, body, hy, hR⟩ := HY.out pre t w3 (by rw [hst']; exact List.prefix_append _ _) HJ3.out
          clear hin hst'
          have cB3 := B3.c
          have fB3 := B3.f
          have lB3 := B3.lt
          gi_wp2_with fail
          refine hR.mono ?_
          rintro e W4 (⟨rfl, hJ4, hk4⟩ | ⟨rfl, hJx4⟩)
          · have hz4 : Ints W4 (some ⟨b, off, none⟩) len zs := Hz3.out.of_heap hk4.1 (fun hp b' off' e => hk4.2 b' (by injection e with e; injection e with e _; have := (Hz3.out.2 hp); obtain ⟨b2, o2, e2, l2, _⟩ := this; injection e2 with e2; injection e2 with e2 _; omega) (.inr ⟨hp, off', e⟩))
            have B4 : Cs W4 W.heap.size #[.int .i64 t.1, .int .i64 t.2.1, .int .i64 t.2.2.1, .int .i64 t.2.2.2] := B3.of_heap hk4.1 (hk4.2 _ B3.lt (.inl rfl))
            have HJ4 := Lib.hid hJ4
            have Hz4 := Lib.hid hz4
            clear hJ4 hz4 hk4
            clear cB3 fB3 lB3
            gi_wp2_with fail
            go_roundw
            case rel => exact ⟨k + 1, pre ++ [t], t, by omega, by go_num, Hst'.out, u1, u2, u3, u4, t5, t6, t7, t8, B4, Hz4.out, HJ4.out⟩
            case measure => simp [intOf]; omega
          · have HJx4 := Lib.hid hJx4
            clear hJx4
            gi_wp2_with fail
            refine bodyPost_ret (results_none rfl _ _ _) rfl ⟨⟨_, rfl⟩, .inr ⟨_, ?_, HJx4.out⟩⟩
            rw [Hst'.out]; exact List.prefix_append _ _
    · have hend : stepsL Um.first zs = pre := by
        have : k = len := by omega
        rw [Hst.out, List.drop_of_length_le (by rw [hzr.1]; omega)]
        simp [stepsL]
      gi_wp2_with fail
      go_end0
      exact ⟨⟨_, rfl⟩, .inl ⟨trivial, by rw [hend]; exact hJr⟩⟩

end Go.Proofs.YtminplfgadhnnaaGreatDoor
end

/- The walk of package unit's simplest. -/
section
namespace Go.Proofs.YtminplfgadhnnaaGreatDoor
open Go.RowKit Go.Shelf
set_option linter.unusedSimpArgs false
set_option linter.unusedVariables false
open Um (frac S4 spanB spanE sp)

/-- a slice of numbers is handed back -/
def RetInts (zs : List Int) (w : World) (e : Ending) (w' : World) : Prop := ∃ g c, e = .returned (.slice (some ⟨g, 0, none⟩) zs.length c) ∧ Ints w' (some ⟨g, 0, none⟩) zs.length zs ∧ zs.length ≤ c ∧ Below w.heap.size w w'

theorem RetInts.app {w wR : World} {x0 : Int} {L : List Int} {gr cr : Nat} (hI : Ints wR (some ⟨gr, 0, none⟩) (1 + L.length) ([x0] ++ L)) (hc : 1 + L.length ≤ cr) (hb : Below w.heap.size w wR) :
    RetInts (x0 :: L) w (.returned (.slice (some ⟨gr, 0, none⟩) (1 + L.length) cr)) wR := by
  rw [Nat.add_comm] at hI hc ⊢
  exact ⟨gr, cr, rfl, hI, hc, hb⟩

set_option maxRecDepth 100000 in
set_option maxHeartbeats 2000000 in
theorem simplest_any (k : Nat) : ∀ (a b c d : Int) (w : World), 1 ≤ a → a ≤ 1000000000 → 1 ≤ b → b ≤ 1000000000 → 1 ≤ c → c ≤ 1000000000 → 1 ≤ d → d ≤ 1000000000 → a * d ≤ c * b → b + d ≤ k → (sp k a b c d).length ≤ 70 →
    Calls Tryz.prog 46 #[.agg #[.int .i64 a, .int .i64 b], .agg #[.int .i64 c, .int .i64 d]] w (RetInts (sp k a b c d) w) := by
  induction k with
  | zero => intro a b c d w _ _ hb _ _ _ hd _ _ hk; omega
  | succ k ih =>
    intro a b c d w a1 a2 b1 b2 c1 c2 d1 d2 hle hk hlen
    have hdm := Int.mul_ediv_add_emod a b
    have hr0 := Int.emod_nonneg a (b := b) (by omega)
    have hr1 := Int.emod_lt_of_pos a (by omega : 0 < b)
    have hw0 : 0 ≤ a / b := Int.ediv_nonneg (by omega) (by omega)
    have hw1 : a / b ≤ a := Int.ediv_le_self _ (by omega)
    by_cases h0 : a % b = 0
    · have hsp : sp (k + 1) a b c d = [a / b] := by rw [sp, if_pos h0]
      rw [hsp]
      have e0 : (a % b == 0) = true := by simp [h0]
      clear hsp h0 ih hdm hlen hle
      go_enter Tryz.func46, Tryz.ntmps46
      go_wp2_with fail
      go_ret
      exact ⟨_, _, rfl, Ints.new1 _ _ _ _ (by simp), Nat.le_refl _, (by repeat (first | with_reducible exact Below.refl _ _ | with_reducible assumption | with_reducible refine balloc ?_ _ | with_reducible refine bdrewN ?_ _ | with_reducible refine Below.drew ?_ | (with_reducible refine bset ?_ ?_ _; rotate_left; focus (first | assumption | omega | (simp; done) | (simp; omega))) | with_reducible refine bstep ?_ (by assumption) | assumption))⟩
    · have e0 : (a % b == 0) = false := by simp [h0]
      have hm0 : 0 ≤ (a / b + 1) * d := Int.mul_nonneg (by omega) (by omega)
      have hm1 : (a / b + 1) * d ≤ (1000000000 + 1) * 1000000000 := Int.mul_le_mul (by omega) d2 (by omega) (by omega)
      by_cases h1 : (a / b + 1) * d ≤ c
      · have hsp : sp (k + 1) a b c d = [a / b + 1] := by rw [sp, if_neg h0, if_pos h1]
        rw [hsp]
        clear hsp h0 ih hdm hlen hle
        go_enter Tryz.func46, Tryz.ntmps46
        go_wp2_with fail
        go_ret
        exact ⟨_, _, rfl, Ints.new1 _ _ _ _ (by simp), Nat.le_refl _, (by repeat (first | with_reducible exact Below.refl _ _ | with_reducible assumption | with_reducible refine balloc ?_ _ | with_reducible refine bdrewN ?_ _ | with_reducible refine Below.drew ?_ | (with_reducible refine bset ?_ ?_ _; rotate_left; focus (first | assumption | omega | (simp; done) | (simp; omega))) | with_reducible refine bstep ?_ (by assumption) | assumption))⟩
      · have hsp : sp (k + 1) a b c d = a / b :: sp k d (c - a / b * d) b (a % b) := by rw [sp, if_neg h0, if_neg h1]
        rw [hsp] at hlen ⊢
        clear hsp
        have hac : a = a / b * b + a % b := by rw [Int.mul_comm]; omega
        have hrp : 1 ≤ a % b := by omega
        have hq0 : 0 ≤ a / b * d := Int.mul_nonneg hw0 (by omega)
        have hqc : a / b * d < c := by
          apply Um.lt_of_mul_lt (by omega : 0 < b)
          have e : a * d = a / b * d * b + a % b * d := by
            conv => lhs; rw [hac]
            simp only [Int.add_mul, Int.mul_add, Int.mul_assoc, Int.mul_comm, Int.mul_left_comm]
          have : 0 < a % b * d := Int.mul_pos (by omega) (by omega)
          omega
        have hcq : c < a / b * d + d := by rw [Int.add_mul] at h1; omega
        have key : d * (a % b) ≤ b * (c - a / b * d) := by
          have e : a * d = b * (a / b * d) + d * (a % b) := by
            conv => lhs; rw [hac]
            simp only [Int.add_mul, Int.mul_add, Int.mul_assoc, Int.mul_comm, Int.mul_left_comm]
          rw [Int.mul_sub]; rw [Int.mul_comm c b] at hle; omega
        have e1 : ¬ (a / b + 1) * d ≤ c := h1
        have hlt1 : c < (a / b + 1) * d := by omega
        have Hlen := Lib.hid hlen
        have Hkey := Lib.hid key
        have f1 : IntKind.i64.wrap (a / b * d) = a / b * d := IntWalk.i64_in _ (by omega)
        have f2 : IntKind.i64.wrap (c - a / b * d) = c - a / b * d := IntWalk.i64_in _ (by omega)
        have f3 : a.tmod b = a % b := Int.tmod_eq_emod_of_nonneg (by omega)
        have f4 : (b == 0) = false := by simp; omega
        have f5 : (b = 0) = False := by simp; omega
        clear h0 hlen hle hac hdm key h1 e1
        go_enter Tryz.func46, Tryz.ntmps46
        go_upto_region 6 with fail
        go_cut [6, 7] (fun s6 s7 wx => ∃ g6 g7 : Nat, s6 = .pointer (some ⟨g6, 0, none⟩) ∧ s7 = .pointer (some ⟨g7, 0, none⟩) ∧ Cs wx g6 #[.int .i64 (a % b), .int .i64 b] ∧ Cs wx g7 #[.int .i64 (c - a / b * d), .int .i64 d] ∧ Below w.heap.size w wx)
        case first =>
          obtain ⟨W, hW⟩ : ∃ W, ((w.alloc (.cells #[.int .i64 a, .int .i64 b] 41)).alloc (.cells #[.int .i64 c, .int .i64 d] 41)) = W := ⟨_, rfl⟩
          have A0 : Cs W w.heap.size #[.int .i64 a, .int .i64 b] := by rw [← hW]; exact (by repeat (first | with_reducible assumption | (with_reducible refine Cs.new _ _ _ _ ?_; first | rfl | (simp; done)) | with_reducible refine Cs.alloc ?_ _ | with_reducible refine Cs.drewN ?_ _ | with_reducible refine Cs.drew ?_ | with_reducible refine Cs.set4 ?_ _ _ _ _ | (with_reducible refine Cs.other4 ?_ ?_ _ _ _ _; rotate_left; focus (first | assumption | omega | (simp; done) | (simp; omega))) | with_reducible refine Cs.set2 ?_ _ _ | (with_reducible refine Cs.other2 ?_ ?_ _ _; rotate_left; focus (first | assumption | omega | (simp; done) | (simp; omega))) | (with_reducible refine Cs.other ?_ ?_ _; rotate_left; focus (first | assumption | omega | (simp; done) | (simp; omega))) | with_reducible refine Cs.keep ?_ (by assumption) | assumption))
          have A1 : Cs W (w.heap.size + 1) #[.int .i64 c, .int .i64 d] := by rw [← hW]; exact (by repeat (first | with_reducible assumption | (with_reducible refine Cs.new _ _ _ _ ?_; first | rfl | (simp; done)) | with_reducible refine Cs.alloc ?_ _ | with_reducible refine Cs.drewN ?_ _ | with_reducible refine Cs.drew ?_ | with_reducible refine Cs.set4 ?_ _ _ _ _ | (with_reducible refine Cs.other4 ?_ ?_ _ _ _ _; rotate_left; focus (first | assumption | omega | (simp; done) | (simp; omega))) | with_reducible refine Cs.set2 ?_ _ _ | (with_reducible refine Cs.other2 ?_ ?_ _ _; rotate_left; focus (first | assumption | omega | (simp; done) | (simp; omega))) | (with_reducible refine Cs.other ?_ ?_ _; rotate_left; focus (first | assumption | omega | (simp; done) | (simp; omega))) | with_reducible refine Cs.keep ?_ (by assumption) | assumption))
          have hbW : Below w.heap.size w W := by rw [← hW]; exact (by repeat (first | with_reducible exact Below.refl _ _ | with_reducible assumption | with_reducible refine balloc ?_ _ | with_reducible refine bdrewN ?_ _ | with_reducible refine Below.drew ?_ | (with_reducible refine bset ?_ ?_ _; rotate_left; focus (first | assumption | omega | (simp; done) | (simp; omega))) | with_reducible refine bstep ?_ (by assumption) | assumption))
          rw [hW]
          clear hW
          have cA0 := A0.c
          have fA0 := A0.f
          have lA0 := A0.lt
          have cA1 := A1.c
          have fA1 := A1.f
          have lA1 := A1.lt
          go_region_held3 (fun w' => w'.cell? ⟨w.heap.size, 0, none⟩ = some (.int .i64 a) ∧ w'.cell? ⟨w.heap.size, 1, none⟩ = some (.int .i64 b) ∧ w'.cell? ⟨w.heap.size + 1, 0, none⟩ = some (.int .i64 c) ∧ w'.cell? ⟨w.heap.size + 1, 1, none⟩ = some (.int .i64 d))
            (go_keep) (fail)
          all_goals (go_wp2_with fail; go_meet; exact ⟨_, _, rfl, rfl, (by repeat (first | with_reducible assumption | (with_reducible refine Cs.new _ _ _ _ ?_; first | rfl | (simp; done)) | with_reducible refine Cs.alloc ?_ _ | with_reducible refine Cs.drewN ?_ _ | with_reducible refine Cs.drew ?_ | with_reducible refine Cs.set4 ?_ _ _ _ _ | (with_reducible refine Cs.other4 ?_ ?_ _ _ _ _; rotate_left; focus (first | assumption | omega | (simp; done) | (simp; omega))) | with_reducible refine Cs.set2 ?_ _ _ | (with_reducible refine Cs.other2 ?_ ?_ _ _; rotate_left; focus (first | assumption | omega | (simp; done) | (simp; omega))) | (with_reducible refine Cs.other ?_ ?_ _; rotate_left; focus (first | assumption | omega | (simp; done) | (simp; omega))) | with_reducible refine Cs.keep ?_ (by assumption) | assumption)), (by repeat (first | with_reducible assumption | (with_reducible refine Cs.new _ _ _ _ ?_; first | rfl | (simp; done)) | with_reducible refine Cs.alloc ?_ _ | with_reducible refine Cs.drewN ?_ _ | with_reducible refine Cs.drew ?_ | with_reducible refine Cs.set4 ?_ _ _ _ _ | (with_reducible refine Cs.other4 ?_ ?_ _ _ _ _; rotate_left; focus (first | assumption | omega | (simp; done) | (simp; omega))) | with_reducible refine Cs.set2 ?_ _ _ | (with_reducible refine Cs.other2 ?_ ?_ _ _; rotate_left; focus (first | assumption | omega | (simp; done) | (simp; omega))) | (with_reducible refine Cs.other ?_ ?_ _; rotate_left; focus (first | assumption | omega | (simp; done) | (simp; omega))) | with_reducible refine Cs.keep ?_ (by assumption) | assumption)), (by repeat (first | with_reducible exact Below.refl _ _ | with_reducible assumption | with_reducible refine balloc ?_ _ | with_reducible refine bdrewN ?_ _ | with_reducible refine Below.drew ?_ | (with_reducible refine bset ?_ ?_ _; rotate_left; focus (first | assumption | omega | (simp; done) | (simp; omega))) | with_reducible refine bstep ?_ (by assumption) | assumption))⟩)
        case rest =>
          obtain ⟨g6, g7, rfl, rfl, Bn6, Bn7, hbx⟩ := hcut
          clear f1 f2 f3 f4 f5 e0 hlt1
          have kt7 := fun W => turned_any (c - a / b * d) d W
          have kt6 := fun W => turned_any (a % b) b W
          have ks := fun W => ih d (c - a / b * d) b (a % b) W d1 d2 (by omega) (by omega) b1 b2 hrp (by omega) Hkey.out (by omega) (by have := Hlen.out; simp at this; omega)
          have hl := Hlen.out
          simp only [List.length_cons] at hl
          have hpos : 0 < (sp k d (c - a / b * d) b (a % b)).length := by
            have h := Um.sp_canon k d (c - a / b * d) b (a % b) (by omega) (by omega) (by omega) Hkey.out (by omega)
            cases hsp : sp k d (c - a / b * d) b (a % b) with
            | nil => rw [hsp] at h; exact h.elim
            | cons x l => simp
          clear Hkey Hlen ih
          generalize sp k d (c - a / b * d) b (a % b) = L at *
          unfold RetInts at ks
          generalize hx0 : a / b = x0 at *
          generalize hq0' : c - x0 * d = y0 at *
          generalize hr0' : a % b = r0 at *
          clear hx0 hq0' hr0' hm0 hm1 hq0 hqc hcq hw0 hw1 hr0 hr1 hrp hk
          have cBn6 := Bn6.c
          have fBn6 := Bn6.f
          have lBn6 := Bn6.lt
          have cBn7 := Bn7.c
          have fBn7 := Bn7.f
          have lBn7 := Bn7.lt
          go_wp2_with fail
          go_region_held3 (fun w' => w'.cell? ⟨g6, 0, none⟩ = some (.int .i64 r0) ∧ w'.cell? ⟨g6, 1, none⟩ = some (.int .i64 b) ∧ w'.cell? ⟨g7, 0, none⟩ = some (.int .i64 y0) ∧ w'.cell? ⟨g7, 1, none⟩ = some (.int .i64 d))
            (first | exact ⟨Bn6.c 0, Bn6.c 1, Bn7.c 0, Bn7.c 1⟩ | exact ⟨(Bn6.alloc _).c 0, (Bn6.alloc _).c 1, (Bn7.alloc _).c 0, (Bn7.alloc _).c 1⟩ | go_keep)
            (first
              | (go_at_call_of 103 (Value.agg #[.int .i64 y0, .int .i64 d]); refine (kt7 _).mono ?_; rintro e w1 ⟨rfl, hb1⟩; have Bn6 : Cs w1 g6 #[.int .i64 r0, .int .i64 b] := (by repeat (first | with_reducible assumption | (with_reducible refine Cs.new _ _ _ _ ?_; first | rfl | (simp; done)) | with_reducible refine Cs.alloc ?_ _ | with_reducible refine Cs.drewN ?_ _ | with_reducible refine Cs.drew ?_ | with_reducible refine Cs.set4 ?_ _ _ _ _ | (with_reducible refine Cs.other4 ?_ ?_ _ _ _ _; rotate_left; focus (first | assumption | omega | (simp; done) | (simp; omega))) | with_reducible refine Cs.set2 ?_ _ _ | (with_reducible refine Cs.other2 ?_ ?_ _ _; rotate_left; focus (first | assumption | omega | (simp; done) | (simp; omega))) | (with_reducible refine Cs.other ?_ ?_ _; rotate_left; focus (first | assumption | omega | (simp; done) | (simp; omega))) | with_reducible refine Cs.keep ?_ (by assumption) | assumption)); have Bn7 : Cs w1 g7 #[.int .i64 y0, .int .i64 d] := (by repeat (first | with_reducible assumption | (with_reducible refine Cs.new _ _ _ _ ?_; first | rfl | (simp; done)) | with_reducible refine Cs.alloc ?_ _ | with_reducible refine Cs.drewN ?_ _ | with_reducible refine Cs.drew ?_ | with_reducible refine Cs.set4 ?_ _ _ _ _ | (with_reducible refine Cs.other4 ?_ ?_ _ _ _ _; rotate_left; focus (first | assumption | omega | (simp; done) | (simp; omega))) | with_reducible refine Cs.set2 ?_ _ _ | (with_reducible refine Cs.other2 ?_ ?_ _ _; rotate_left; focus (first | assumption | omega | (simp; done) | (simp; omega))) | (with_reducible refine Cs.other ?_ ?_ _; rotate_left; focus (first | assumption | omega | (simp; done) | (simp; omega))) | with_reducible refine Cs.keep ?_ (by assumption) | assumption)))
              | (go_at_call_of 103 (Value.agg #[.int .i64 r0, .int .i64 b]); refine (kt6 _).mono ?_; rintro e w1 ⟨rfl, hb1⟩; have Bn6 : Cs w1 g6 #[.int .i64 r0, .int .i64 b] := (by repeat (first | with_reducible assumption | (with_reducible refine Cs.new _ _ _ _ ?_; first | rfl | (simp; done)) | with_reducible refine Cs.alloc ?_ _ | with_reducible refine Cs.drewN ?_ _ | with_reducible refine Cs.drew ?_ | with_reducible refine Cs.set4 ?_ _ _ _ _ | (with_reducible refine Cs.other4 ?_ ?_ _ _ _ _; rotate_left; focus (first | assumption | omega | (simp; done) | (simp; omega))) | with_reducible refine Cs.set2 ?_ _ _ | (with_reducible refine Cs.other2 ?_ ?_ _ _; rotate_left; focus (first | assumption | omega | (simp; done) | (simp; omega))) | (with_reducible refine Cs.other ?_ ?_ _; rotate_left; focus (first | assumption | omega | (simp; done) | (simp; omega))) | with_reducible refine Cs.keep ?_ (by assumption) | assumption)); have Bn7 : Cs w1 g7 #[.int .i64 y0, .int .i64 d] := (by repeat (first | with_reducible assumption | (with_reducible refine Cs.new _ _ _ _ ?_; first | rfl | (simp; done)) | with_reducible refine Cs.alloc ?_ _ | with_reducible refine Cs.drewN ?_ _ | with_reducible refine Cs.drew ?_ | with_reducible refine Cs.set4 ?_ _ _ _ _ | (with_reducible refine Cs.other4 ?_ ?_ _ _ _ _; rotate_left; focus (first | assumption | omega | (simp; done) | (simp; omega))) | with_reducible refine Cs.set2 ?_ _ _ | (with_reducible refine Cs.other2 ?_ ?_ _ _; rotate_left; focus (first | assumption | omega | (simp; done) | (simp; omega))) | (with_reducible refine Cs.other ?_ ?_ _; rotate_left; focus (first | assumption | omega | (simp; done) | (simp; omega))) | with_reducible refine Cs.keep ?_ (by assumption) | assumption)))
              | (go_at_call 46; refine (ks _).mono ?_; rintro e w1 ⟨g, cc, rfl, hI, hcc, hb1⟩; have Bn6 : Cs w1 g6 #[.int .i64 r0, .int .i64 b] := (by repeat (first | with_reducible assumption | (with_reducible refine Cs.new _ _ _ _ ?_; first | rfl | (simp; done)) | with_reducible refine Cs.alloc ?_ _ | with_reducible refine Cs.drewN ?_ _ | with_reducible refine Cs.drew ?_ | with_reducible refine Cs.set4 ?_ _ _ _ _ | (with_reducible refine Cs.other4 ?_ ?_ _ _ _ _; rotate_left; focus (first | assumption | omega | (simp; done) | (simp; omega))) | with_reducible refine Cs.set2 ?_ _ _ | (with_reducible refine Cs.other2 ?_ ?_ _ _; rotate_left; focus (first | assumption | omega | (simp; done) | (simp; omega))) | (with_reducible refine Cs.other ?_ ?_ _; rotate_left; focus (first | assumption | omega | (simp; done) | (simp; omega))) | with_reducible refine Cs.keep ?_ (by assumption) | assumption)); have Bn7 : Cs w1 g7 #[.int .i64 y0, .int .i64 d] := (by repeat (first | with_reducible assumption | (with_reducible refine Cs.new _ _ _ _ ?_; first | rfl | (simp; done)) | with_reducible refine Cs.alloc ?_ _ | with_reducible refine Cs.drewN ?_ _ | with_reducible refine Cs.drew ?_ | with_reducible refine Cs.set4 ?_ _ _ _ _ | (with_reducible refine Cs.other4 ?_ ?_ _ _ _ _; rotate_left; focus (first | assumption | omega | (simp; done) | (simp; omega))) | with_reducible refine Cs.set2 ?_ _ _ | (with_reducible refine Cs.other2 ?_ ?_ _ _; rotate_left; focus (first | assumption | omega | (simp; done) | (simp; omega))) | (with_reducible refine Cs.other ?_ ?_ _; rotate_left; focus (first | assumption | omega | (simp; done) | (simp; omega))) | with_reducible refine Cs.keep ?_ (by assumption) | assumption)))
              | (refine step_appI (by rfl) _ _ (by rfl) _ 1 1 [x0] (by rfl) (by repeat (first | with_reducible assumption | (with_reducible refine Ints.new1 _ _ _ _ ?_; first | rfl | (simp; done)) | (with_reducible refine Ints.new2 _ _ _ _ _ ?_; first | rfl | (simp; done)) | with_reducible refine Ints.alloc ?_ _ | with_reducible refine Ints.drewN ?_ _ | with_reducible refine Ints.drew ?_ | with_reducible refine Ints.below ?_ (by assumption) | assumption)) (by simp) _ L.length _ L (by rfl) (by repeat (first | with_reducible assumption | (with_reducible refine Ints.new1 _ _ _ _ ?_; first | rfl | (simp; done)) | (with_reducible refine Ints.new2 _ _ _ _ _ ?_; first | rfl | (simp; done)) | with_reducible refine Ints.alloc ?_ _ | with_reducible refine Ints.drewN ?_ _ | with_reducible refine Ints.drew ?_ | with_reducible refine Ints.below ?_ (by assumption) | assumption)) hpos (by omega) (by omega) ?_; intro gr cr wR hIR hcR hbR; have Bn6 : Cs wR g6 #[.int .i64 r0, .int .i64 b] := (by repeat (first | with_reducible assumption | (with_reducible refine Cs.new _ _ _ _ ?_; first | rfl | (simp; done)) | with_reducible refine Cs.alloc ?_ _ | with_reducible refine Cs.drewN ?_ _ | with_reducible refine Cs.drew ?_ | with_reducible refine Cs.set4 ?_ _ _ _ _ | (with_reducible refine Cs.other4 ?_ ?_ _ _ _ _; rotate_left; focus (first | assumption | omega | (simp; done) | (simp; omega))) | with_reducible refine Cs.set2 ?_ _ _ | (with_reducible refine Cs.other2 ?_ ?_ _ _; rotate_left; focus (first | assumption | omega | (simp; done) | (simp; omega))) | (with_reducible refine Cs.other ?_ ?_ _; rotate_left; focus (first | assumption | omega | (simp; done) | (simp; omega))) | with_reducible refine Cs.keep ?_ (by assumption) | assumption)); have Bn7 : Cs wR g7 #[.int .i64 y0, .int .i64 d] := (by repeat (first | with_reducible assumption | (with_reducible refine Cs.new _ _ _ _ ?_; first | rfl | (simp; done)) | with_reducible refine Cs.alloc ?_ _ | with_reducible refine Cs.drewN ?_ _ | with_reducible refine Cs.drew ?_ | with_reducible refine Cs.set4 ?_ _ _ _ _ | (with_reducible refine Cs.other4 ?_ ?_ _ _ _ _; rotate_left; focus (first | assumption | omega | (simp; done) | (simp; omega))) | with_reducible refine Cs.set2 ?_ _ _ | (with_reducible refine Cs.other2 ?_ ?_ _ _; rotate_left; focus (first | assumption | omega | (simp; done) | (simp; omega))) | (with_reducible refine Cs.other ?_ ?_ _; rotate_left; focus (first | assumption | omega | (simp; done) | (simp; omega))) | with_reducible refine Cs.keep ?_ (by assumption) | assumption))))
          all_goals (go_wp2_with fail; go_ret; exact RetInts.app hIR hcR (by repeat (first | with_reducible exact Below.refl _ _ | with_reducible assumption | with_reducible refine balloc ?_ _ | with_reducible refine bdrewN ?_ _ | with_reducible refine Below.drew ?_ | (with_reducible refine bset ?_ ?_ _; rotate_left; focus (first | assumption | omega | (simp; done) | (simp; omega))) | with_reducible refine bstep ?_ (by assumption) | assumption)))

end Go.Proofs.YtminplfgadhnnaaGreatDoor
end
