/- ZR2 ZA1 ZA2 ZA3 BC3 BC4 BM6 BC5 BM7 BC6 BC7 BC8 BC9 BD0 BD1 BD2 BD3 BD5 BD4 BD6 -/
import Derived.Test.YtminplfgadhnnaaGreatDoorSC05
import Derived.Test.YtminplfgadhnnaaGreatDoorSC08
import Derived.Test.YtminplfgadhnnaaGreatDoorSC04
import Derived.Test.YtminplfgadhnnaaGreatDoorSC03
import Derived.Lib.TrailingZeros
import Derived.Shelf.Spec.TrailingZeros
import Derived.WalkMore
/- A range over a function whose iterator yields a known list, by a body that never leaves the loop: the caller's law. (URange's law, without the ways out.) -/
section
namespace Go.Proofs.YtminplfgadhnnaaGreatDoor
open Go.RowKit Go.Shelf
set_option linter.unusedSimpArgs false
set_option linter.unusedVariables false

/-- a function value yields the list xs0, one by one, to a body that always asks for more -/
def SeqAll {α : Type} (F : Fence) (n : Nat) (P : Program) (g : Nat) (lb : Array Value) (encs : α → Array Value) (O : Nat → Nat → Prop) (Kp : Nat → World → World → Prop) (xs0 : List α) (Fin : World → Prop) (w : World) : Prop :=
  ∀ (l : Nat) (J : List α → World → Prop) (W : World), Below w.heap.size w W → Bears (O W.heap.size) J →
    (∀ pre x W1, (pre ++ [x]) <+: xs0 → J pre W1 → YieldAt F (n - 1) P l (encs x) W1 fun e W' => e = .returned (.bool true) ∧ J (pre ++ [x]) W' ∧ Kp W.heap.size W1 W') →
    J [] W →
    CallsIn F n P g (#[.func (.yield l) #[] #[]] ++ lb) W fun e W' => (∃ v, e = .returned v) ∧ Fin W' ∧ J xs0 W'
/-- how the body of a round is left -/
def postAll {α : Type} (b : Nat) (Kp : World → World → Prop) (I : List α → World → Prop) (xs : List α) (W : World) : Exit → Act → World → Prop
  | .normal, _, W' => Keeps2 b W W' ∧ Kp W W' ∧ I xs W'
  | _, _, _ => False

variable {F : Fence} {n : Nat} {P : Program}

theorem wpIn_rangeAll {α : Type} {g : Operand} {ps : Array Tmp} {assign body : Code} {Q : Exit → Act → World → Prop} {a : Act} {w : World}
    (hro : F.round = none) (h1 : 1 ≤ n) {gf : Nat} {lb : Array Value} (hg : a.eval g = .func (.func gf) #[] lb) (hFg : F.fn gf) (eg : ∀ args w, (callFunc gf args).run P w = .ok (.enter gf args) w)
    {encs : α → Array Value} {O : Nat → Nat → Prop} {Kp : Nat → World → World → Prop} {xs0 : List α} {Fin : World → Prop} {w0 : World} (hseq : SeqAll F (n - 1) P gf lb encs O Kp xs0 Fin w0)
    (hO : ∀ i, O (w.heap.size + 2) i → i ≠ w.heap.size ∧ i ≠ w.heap.size + 1) (hKt : ∀ {A B C : World}, Kp (w.heap.size + 2) A B → Kp (w.heap.size + 2) B C → Kp (w.heap.size + 2) A C)
    (hKb : ∀ (W : World) (o' : Obj), Kp (w.heap.size + 2) W (W.putObj (w.heap.size + 1) o')) (hFin : ∀ (W : World) (o' : Obj), Fin W → Fin (W.putObj (w.heap.size + 1) o'))
    (hb0 : Below w0.heap.size w0 w) (hps : ∀ x, (encs x).size = ps.size)
    (I : List α → World → Prop) (hI : Bears (fun i => O (w.heap.size + 2) i ∨ i = w.heap.size + 1) I) (h0 : I [] w)
    (Ax : List α → α → Act → World → Prop) (hAx : ∀ (pre : List α) (x : α) (a' : Act) (W : World) (o' : Obj), Ax pre x a' W → Ax pre x a' (W.putObj (w.heap.size + 1) o'))
    (hassign : ∀ (l : Nat) (pre : List α) (x : α) (W : World) (K : Act → World → Prop), (pre ++ [x]) <+: xs0 → I pre W → w.heap.size + 2 ≤ W.heap.size →
      (∀ a' W1, Keeps2 w.heap.size W W1 → Kp (w.heap.size + 2) W W1 → Ax pre x a' W1 → K a' W1) →
      assign.wpIn (F.inRound l) (n - 1 - 1) P (Exit.then K (fun _ _ _ => False)) { tmps := (ps.zip (encs x)).foldl (fun t (p, v) => t.setIfInBounds p v) a.tmps, defers := [] } W)
    (hbody : ∀ (l : Nat) (pre : List α) (x : α) (a' : Act) (W : World), (pre ++ [x]) <+: xs0 → Ax pre x a' W → w.heap.size + 2 ≤ W.heap.size →
      body.wpIn (F.inRound l) (n - 1 - 1) P (postAll w.heap.size (Kp (w.heap.size + 2)) I (pre ++ [x]) W) a' W)
    (hdone : ∀ (W : World), Fin W → I xs0 W → W.heap[w.heap.size]? = some (.deferred (some [])) → Q .normal { a with defers := { target := .collected w.heap.size, args := #[] } :: a.defers } W) :
    (Code.rangeFunc g ps assign body).wpIn F n P Q a w := by
  refine wpIn_rangeFunc fun fn hfn => ?_
  rw [hro]
  -- the loop's record in each of its states
  obtain ⟨rec, hrec⟩ : ∃ rec : LoopState → Option Code → Loop, rec = fun st pe => { state := st, pending := pe, fn, tmps := a.tmps, params := ps, assign, body, defers := w.heap.size } := ⟨_, rfl⟩
  obtain ⟨W1, hW1⟩ : ∃ W1, (w.alloc (.deferred (some []))).alloc (.loop (rec .ready none)) = W1 := ⟨_, rfl⟩
  have hsz : W1.heap.size = w.heap.size + 2 := by rw [← hW1]; simp
  have hloop : W1.heap[w.heap.size + 1]? = some (.loop (rec .ready none)) := by
    rw [← hW1]
    have := World.alloc_heap_new (w.alloc (.deferred (some []))) (.loop (rec .ready none))
    rwa [World.size_alloc] at this
  have hdef : W1.heap[w.heap.size]? = some (.deferred (some [])) := by
    rw [← hW1]; exact (Below.heap_alloc _ _ _ (by simp)).trans (World.alloc_heap_new w _)
  have hbw : Below w.heap.size w W1 := by rw [← hW1]; exact balloc (balloc (Below.refl _ _) _) _
  have hIW : I [] W1 := hI [] w W1 h0 (Turns.of_below hbw)
  have rec_put : ∀ (W : World) (o : Obj), w.heap.size + 1 < W.heap.size → (W.putObj (w.heap.size + 1) o).heap[w.heap.size + 1]? = some o := fun W o h => World.putObj_heap_same h
  have def_put : ∀ (W : World) (o : Obj), (W.putObj (w.heap.size + 1) o).heap[w.heap.size]? = W.heap[w.heap.size]? := fun W o => World.putObj_heap_other (by omega)
  have I_put : ∀ s (W : World) (o : Obj), I s W → I s (W.putObj (w.heap.size + 1) o) := fun s W o h => hI s W _ h (Turns.putObj o (.inr rfl))
  have hO' : ∀ i, O W1.heap.size i → i ≠ w.heap.size ∧ i ≠ w.heap.size + 1 := fun i hi => hO i (hsz ▸ hi)
  refine ⟨w.heap.size + 1, [{ target := .collected w.heap.size, args := #[] }], W1, { target := .fn (.func gf) lb, args := #[.func (.yield (w.heap.size + 1)) #[] #[]] }, W1, gf,
    #[.func (.yield (w.heap.size + 1)) #[] #[]] ++ lb, W1, ?_, ?_, ?_, ?_, fun _ => h1, ?_⟩
  · rw [← hW1, hrec]; exact run_enterLoop_outer _ _ _ _ _
  · simp only [resolve, hg]
    simp [go_sem]
  · intro f' hf'; simp [Target.leads] at hf'; subst hf'; exact hFg
  · simp [invoke, go_sem, eg]
  · have hcall := hseq (w.heap.size + 1)
      (fun pre W => I pre W ∧ W.heap[w.heap.size + 1]? = some (.loop (rec .ready none)) ∧ W.heap[w.heap.size]? = some (.deferred (some [])))
      W1 (hb0.trans (hbw.mono hb0.size))
      (fun s A B hs ht => by
        have hlt : w.heap.size + 1 < A.heap.size := (Array.getElem?_eq_some_iff.1 hs.2.1).1
        exact ⟨hI s A B hs.1 (ht.mono fun i hi => .inl (hsz ▸ hi)), (ht.block _ hlt (fun ho => (hO' _ ho).2 rfl)).trans hs.2.1, (ht.block _ (by omega) (fun ho => (hO' _ ho).1 rfl)).trans hs.2.2⟩)
      ?_ ⟨hIW, hloop, hdef⟩
    · refine hcall.mono ?_
      rintro e W2 ⟨⟨v, rfl⟩, hF2, hi, hl, hk⟩
      refine ⟨none, _, by have := run_endLoop (P := P) hl (by rw [hrec]; simp); rw [hrec] at this; exact this, ?_⟩
      exact hdone _ (hFin _ _ hF2) (I_put _ _ _ hi) ((def_put _ _).trans hk)
    · rintro pre x W hpx ⟨hi, hl, hk⟩
      have hlt : w.heap.size + 1 < W.heap.size := (Array.getElem?_eq_some_iff.1 hl).1
      have hy := run_yield (P := P) (args := encs x) hl (by rw [hrec]; exact hps x)
      rw [hrec] at hy
      refine ⟨fn, _, assign, body, hy, roundIn_of_wpIn hfn (hassign _ pre x W _ hpx hi (by omega) ?_)⟩
      intro a' Wa hka hkpa hax
      have hla : Wa.heap[w.heap.size + 1]? = some (.loop (rec .ready none)) := hka.2.2.trans hl
      have hka' : Wa.heap[w.heap.size]? = some (.deferred (some [])) := hka.2.1.trans hk
      have hlta : w.heap.size + 1 < Wa.heap.size := by have := hka.1; omega
      refine ⟨_, run_beginRound hla (by rw [hrec]), ?_⟩
      have hl2 := rec_put Wa (.loop { rec .ready none with state := .busy }) hlta
      have hk2 := (def_put Wa (.loop { rec .ready none with state := .busy })).trans hka'
      have hkp2 : Kp (w.heap.size + 2) W (Wa.putObj (w.heap.size + 1) (.loop { rec .ready none with state := .busy })) := hKt hkpa (hKb _ _)
      refine wpIn_mono (hbody _ pre x a' _ hpx (hAx _ _ _ _ _ hax) (by simp; omega)) ?_
      have fin : ∀ (jump : Option Code) (W3 : World), Keeps2 w.heap.size (Wa.putObj (w.heap.size + 1) (.loop { rec .ready none with state := .busy })) W3 →
          (Instr.endRound (w.heap.size + 1) jump).run P W3 = .ok (.bool jump.isNone) (W3.putObj (w.heap.size + 1) (.loop (rec (if jump.isNone then .ready else .done) jump))) ∧
          (W3.putObj (w.heap.size + 1) (.loop (rec (if jump.isNone then .ready else .done) jump))).heap[w.heap.size + 1]? = some (.loop (rec (if jump.isNone then .ready else .done) jump)) ∧
          (W3.putObj (w.heap.size + 1) (.loop (rec (if jump.isNone then .ready else .done) jump))).heap[w.heap.size]? = some (.deferred (some [])) := fun jump W3 hk3 => by
        have hl3 := hk3.2.2.trans hl2
        have hr := run_endRound (P := P) jump hl3
        rw [hrec] at hr ⊢
        exact ⟨hr, rec_put _ _ (Array.getElem?_eq_some_iff.1 hl3).1, (def_put _ _).trans (hk3.2.1.trans hk2)⟩
      rintro e a3 W3 hp
      cases e with
      | normal =>
        obtain ⟨hk3, hkp3, hi3⟩ := hp
        obtain ⟨hr, hl4, hk4⟩ := fin none W3 hk3
        exact ⟨_, _, hr, rfl, ⟨I_put _ _ _ hi3, hl4, hk4⟩, by rw [hsz]; exact hKt (hKt hkp2 hkp3) (hKb _ _)⟩
      | ret => exact hp.elim
      | exit id => exact hp.elim
      | goto t => exact hp.elim
      | panic ch => exact hp.elim
      | outgrown => exact hp.elim

end Go.Proofs.YtminplfgadhnnaaGreatDoor
end

/- Walks of package zone: lamps in memory; within, CheckLamp, and the reference's. -/
section
namespace Go.Proofs.YtminplfgadhnnaaGreatDoor
open Go.RowKit Go.Shelf
set_option linter.unusedSimpArgs false
set_option linter.unusedVariables false
open Zm

/-- a slice value that reads as a list of truth values -/
def Bls (w : World) (A : Option Addr) (n : Nat) (zs : List Bool) : Prop :=
  zs.length = n ∧ (0 < n → ∃ b off, A = some ⟨b, off, none⟩ ∧ b < w.heap.size ∧ ∀ i, i < n → w.cell? ⟨b, off + i, none⟩ = some (.bool (zs.getD i false)))
theorem Bls.below {w w' : World} {A : Option Addr} {n : Nat} {zs : List Bool} (h : Bls w A n zs) (hb : Below w.heap.size w w') : Bls w' A n zs := by
  refine ⟨h.1, fun hn => ?_⟩
  obtain ⟨b, off, rfl, hlt, hc⟩ := h.2 hn
  exact ⟨b, off, rfl, Nat.lt_of_lt_of_le hlt hb.size, fun i hi => (hb.cell (p := ⟨b, off + i, none⟩) hlt).trans (hc i hi)⟩
theorem Bls.at0 {w wr : World} {A : Option Addr} {n k : Nat} {zs : List Bool} (h : Bls w A n zs) (hb : Below w.heap.size w wr) (hk : k < n) :
    ∃ b off, A = some ⟨b, off, none⟩ ∧ b < w.heap.size ∧ wr.cell? ⟨b, off + k, none⟩ = some (.bool (zs.getD k false)) := by
  obtain ⟨b, off, rfl, hlt, hc⟩ := h.2 (by omega)
  exact ⟨b, off, rfl, hlt, (hb.cell (p := ⟨b, off + k, none⟩) hlt).trans (hc k hk)⟩

/-- a lamp in memory -/
structure Lmp (w : World) (A1 : Option Addr) (n1 c1 : Nat) (A2 : Option Addr) (n2 c2 : Nat) (A3 : Option Addr) (n3 c3 : Nat) (A4 : Option Addr) (n4 c4 : Nat) (an : List Int) (ls : List (Int × Int)) (fs : List Bool) (ws : List Int) : Prop where
  h1 : Ints w A1 n1 an
  h2 : Prs w A2 n2 ls
  h3 : Bls w A3 n3 fs
  h4 : Ints w A4 n4 ws
  m1 : n1 ≤ 9223372036854775807 ∧ n1 ≤ c1
  m2 : n2 ≤ 9223372036854775807 ∧ n2 ≤ c2
  m3 : n3 ≤ 9223372036854775807 ∧ n3 ≤ c3
  m4 : n4 ≤ 9223372036854775807 ∧ n4 ≤ c4
theorem Lmp.below {w w' : World} {A1 A2 A3 A4 : Option Addr} {n1 c1 n2 c2 n3 c3 n4 c4 : Nat} {an ws : List Int} {ls : List (Int × Int)} {fs : List Bool} (h : Lmp w A1 n1 c1 A2 n2 c2 A3 n3 c3 A4 n4 c4 an ls fs ws) (hb : Below w.heap.size w w') : Lmp w' A1 n1 c1 A2 n2 c2 A3 n3 c3 A4 n4 c4 an ls fs ws :=
  ⟨h.h1.below hb, h.h2.below hb, h.h3.below hb, h.h4.below hb, h.m1, h.m2, h.m3, h.m4⟩

set_option maxHeartbeats 1000000 in
theorem zwithinC_any (x y m : Int) (b : Nat) (w : World) (hm : w.cell? ⟨b, 0, none⟩ = some (.int .i64 m)) :
    Calls Tryz.prog 150 #[.agg #[.int .i64 x, .int .i64 y], .pointer (some ⟨b, 0, none⟩)] w fun e w' => e = .returned (.bool (!rgZ m (x, y))) ∧ Below w.heap.size w w' := by
  have hb : b < w.heap.size := World.block_lt_of_cell? w _ hm
  have hne : ¬ b = w.heap.size := by omega
  have hne2 : ¬ w.heap.size = b := by omega
  cases d1 : decide (x < 0) with
  | true =>
    have e1 : Hid (true = !rgZ m (x, y)) := Lib.hid (by simp [rgZ] at d1 ⊢; omega)
    go_enter Tryz.func150, Tryz.ntmps150
    go_wp2_with fail
    go_ret
    exact ⟨ret_bool e1.out, blA⟩
  | false =>
    cases d2 : decide (y < x) with
    | true =>
      have e1 : Hid (true = !rgZ m (x, y)) := Lib.hid (by simp [rgZ] at d1 d2 ⊢; omega)
      go_enter Tryz.func150, Tryz.ntmps150
      go_wp2_with fail
      go_ret
      exact ⟨ret_bool e1.out, blA⟩
    | false =>
      have e1 : Hid (decide (m < y) = !rgZ m (x, y)) := Lib.hid (by simp at d1 d2; rw [Bool.eq_iff_iff]; simp [rgZ]; omega)
      go_enter Tryz.func150, Tryz.ntmps150
      go_wp2_with fail
      go_ret
      exact ⟨ret_bool e1.out, blA⟩

set_option maxHeartbeats 1000000 in
theorem zwithin_any (m : Int) (A : Option Addr) (n c : Nat) (zs : List (Int × Int)) (w : World) (hz : Prs w A n zs) (hn : n ≤ 9223372036854775807) :
    Calls Tryz.prog 104 #[.int .i64 m, .slice A n c] w fun e w' => e = .returned (.bool (zs.all (rgZ m))) ∧ Below w.heap.size w w' := by
  have hw2 : Below w.heap.size w (w.alloc (.cells #[.int .i64 m] 2)) := blA
  have h1 := containsRgs_any A n c 150 zs #[.pointer (some ⟨w.heap.size, 0, none⟩)] (fun x => !rgZ m x) _
    (enters_of Tryz.func150 (by kernel_rfl) rfl) (hz.below hw2) hn (fun x _ W hW => (zwithinC_any x.1 x.2 m w.heap.size W
      ((hW.cell (p := ⟨w.heap.size, 0, none⟩) (by simp)).trans (by simp))).mono fun e W' ⟨he, hb⟩ => ⟨he, hW.trans (hb.mono hW.size)⟩)
  have hany : Hid ((!zs.any fun x => !rgZ m x) = zs.all (rgZ m)) := by show _ = _; rw [List.not_any_eq_all_not]; simp
  clear hz
  generalize zs.all (rgZ m) = r at *
  generalize (zs.any fun x => !rgZ m x) = r' at *
  go_enter Tryz.func104, Tryz.ntmps104
  go_wp2_with (go_at_call 130; refine h1.mono ?_; rintro e w' ⟨rfl, hb'⟩)
  go_ret
  exact ⟨ret_bool (by first | rfl | exact hany.out), hw2.trans (hb'.mono (by simp))⟩

set_option maxHeartbeats 1000000 in
theorem zcheckC_any (x : Int) (w : World) :
    Calls Tryz.prog 106 #[.int .i64 x] w fun e w' => e = .returned (.bool (!wtZ x)) ∧ Below w.heap.size w w' := by
  cases d1 : decide (x < 0) with
  | true =>
    have e1 : Hid (true = !wtZ x) := Lib.hid (by simp [wtZ] at d1 ⊢; omega)
    go_enter Tryz.func106, Tryz.ntmps106
    go_wp2_with fail
    go_ret
    exact ⟨ret_bool e1.out, blA⟩
  | false =>
    have e1 : Hid (decide (1000 < x) = !wtZ x) := Lib.hid (by simp at d1; rw [Bool.eq_iff_iff]; simp [wtZ]; omega)
    go_enter Tryz.func106, Tryz.ntmps106
    go_wp2_with fail
    go_ret
    exact ⟨ret_bool e1.out, blA⟩

theorem dropZ {an : List Int} {i : Nat} (h : i < an.length) : an.drop i = an.getD i 0 :: an.drop (i + 1) := by
  rw [List.drop_eq_getElem_cons h, List.getD_eq_getElem?_getD, List.getElem?_eq_getElem h]; rfl

end Go.Proofs.YtminplfgadhnnaaGreatDoor
end

/- Walks of package zone: CheckLamp, and the reference's. -/
section
namespace Go.Proofs.YtminplfgadhnnaaGreatDoor
open Go.RowKit Go.Shelf
set_option linter.unusedSimpArgs false
set_option linter.unusedVariables false
open Zm

/-- the angle before -/
def pvZ (an : List Int) (i : Nat) : Int := if i = 0 then -1 else an.getD (i - 1) 0
theorem chk_6 {an : List Int} {ls : List (Int × Int)} {fs : List Bool} {ws : List Int} (h : an.length < 2 ∨ 10 < an.length) : chkZ an ls fs ws = 6 := by unfold chkZ; rw [if_pos h]
theorem chk_2 {an : List Int} {ls : List (Int × Int)} {fs : List Bool} {ws : List Int} (h : ¬ (an.length < 2 ∨ 10 < an.length)) (hi : incB (-1) an = false) : chkZ an ls fs ws = 2 := by unfold chkZ; rw [if_neg h, if_pos hi]
theorem chk_15 {an : List Int} {ls : List (Int × Int)} {fs : List Bool} {ws : List Int} (h : ¬ (an.length < 2 ∨ 10 < an.length)) (hi : incB (-1) an = true) (h2 : ls.length ≠ an.length ∨ fs.length + 1 ≠ an.length ∨ (ws.length : Int) ≠ an.getD (an.length - 1) 0 - an.getD 0 0 + 1) : chkZ an ls fs ws = 15 := by
  unfold chkZ; rw [if_neg h, hi, if_neg (by decide), if_pos h2]
theorem chk_last {an : List Int} {ls : List (Int × Int)} {fs : List Bool} {ws : List Int} (h : ¬ (an.length < 2 ∨ 10 < an.length)) (hi : incB (-1) an = true) (h2 : ¬ (ls.length ≠ an.length ∨ fs.length + 1 ≠ an.length ∨ (ws.length : Int) ≠ an.getD (an.length - 1) 0 - an.getD 0 0 + 1)) :
    chkZ an ls fs ws = if ls.all (rgZ 200) = false ∨ ws.all wtZ = false then 2 else 0 := by
  unfold chkZ; rw [if_neg h, hi, if_neg (by decide), if_neg h2]

set_option maxRecDepth 100000 in
set_option maxHeartbeats 8000000 in
theorem zcheck_any (A1 : Option Addr) (n1 c1 : Nat) (A2 : Option Addr) (n2 c2 : Nat) (A3 : Option Addr) (n3 c3 : Nat) (A4 : Option Addr) (n4 c4 : Nat) (an : List Int) (ls : List (Int × Int)) (fs : List Bool) (ws : List Int) (w : World) (h : Lmp w A1 n1 c1 A2 n2 c2 A3 n3 c3 A4 n4 c4 an ls fs ws) :
    Calls Tryz.prog 48 #[.agg #[.slice A1 n1 c1, .slice A2 n2 c2, .slice A3 n3 c3, .slice A4 n4 c4]] w fun e w' => e = .returned (.int .i64 (chkZ an ls fs ws)) ∧ Below w.heap.size w w' := by
  have hl1 := h.h1.1
  have hl2 := h.h2.1
  have hl3 := h.h3.1
  have hl4 := h.h4.1
  by_cases a1 : n1 < 2
  · rw [chk_6 (.inl (by omega))]
    have b1 : (n1 : Int) < 2 := by omega
    clear h
    go_enter Tryz.func48, Tryz.ntmps48
    go_wp2_with fail
    go_ret
    exact ⟨rfl, blA⟩
  by_cases a2 : 10 < n1
  · rw [chk_6 (.inr (by omega))]
    have b1 : ¬ (n1 : Int) < 2 := by omega
    have b2 : (10 : Int) < (n1 : Int) := by omega
    clear h
    go_enter Tryz.func48, Tryz.ntmps48
    go_wp2_with fail
    go_ret
    exact ⟨rfl, blA⟩
  have hn : ¬ (an.length < 2 ∨ 10 < an.length) := by omega
  have kw := fun (W : World) (hb : Below w.heap.size w W) => zwithin_any 200 A2 n2 c2 ls W (h.h2.below hb) h.m2.1
  have kc := fun (W : World) (hb : Below w.heap.size w W) => containsInts_any A4 n4 c4 106 ws #[] (fun x => !wtZ x) W
    (enters_of Tryz.func106 (by kernel_rfl) rfl) (h.h4.below hb) h.m4.1 (fun x _ V hV => (zcheckC_any x V).mono fun e W' ⟨he, hb⟩ => ⟨he, hV.trans (hb.mono hV.size)⟩)
  have H2 := Lib.hid (fun (hi : incB (-1) an = false) => chk_2 (ls := ls) (fs := fs) (ws := ws) hn hi)
  have H15 := Lib.hid (fun (hi : incB (-1) an = true) => chk_15 (ls := ls) (fs := fs) (ws := ws) hn hi)
  have HL := Lib.hid (fun (hi : incB (-1) an = true) => chk_last (ls := ls) (fs := fs) (ws := ws) hn hi)
  rw [hl1, hl2, hl3, hl4] at H15 HL
  have Hbd := Lib.hid (inc_ok (-1) an)
  rw [show (ws.any fun x => !wtZ x) = !ws.all wtZ by rw [List.not_all_eq_any_not]] at kc
  generalize chkZ an ls fs ws = q at *
  obtain ⟨r, hr⟩ : ∃ r, incB (-1) an = r := ⟨_, rfl⟩
  have Hr : Hid (incB (-1) an = r) := Lib.hid hr
  generalize ls.all (rgZ 200) = u at *
  generalize ws.all wtZ = v at *
  have Hz := Lib.hid h.h1
  have b1 : ¬ (n1 : Int) < 2 := by omega
  have b2 : ¬ (10 : Int) < (n1 : Int) := by omega
  have hn1 : n1 ≤ 10 ∧ 2 ≤ n1 := by omega
  have hm3 := h.m3.1
  clear h hn a1 a2
  go_enter Tryz.func48, Tryz.ntmps48
  have B1 : Cs (w.alloc (.cells #[.slice A1 n1 c1, .slice A2 n2 c2, .slice A3 n3 c3, .slice A4 n4 c4] 26)) w.heap.size #[.slice A1 n1 c1, .slice A2 n2 c2, .slice A3 n3 c3, .slice A4 n4 c4] := csA
  have HB1 := Lib.hid B1
  clear B1
  go_wp2_with fail
  go_loopw [4, 19] (fun s4 s19 wx => ∃ (i : Nat) (p : Int) (W : World), i ≤ n1 ∧ s19 = .int .i64 (i : Nat) ∧ s4 = .int .i64 p ∧ Hid (p = pvZ an i) ∧ Hid (incB p (an.drop i) = r) ∧ Hid (W = wx) ∧ Cs W w.heap.size #[.slice A1 n1 c1, .slice A2 n2 c2, .slice A3 n3 c3, .slice A4 n4 c4] ∧ Below w.heap.size w W) (fun _ s19 _ => n1 - (intOf s19).toNat)
  case atStart => exact ⟨0, -1, _, Nat.zero_le _, rfl, rfl, Lib.hid rfl, Lib.hid hr, Lib.hid rfl, HB1.out, blA⟩
  case round =>
    clear HB1
    obtain ⟨i, p, W, hi, rfl, rfl, Hp, Hi, HW, B1, hbw⟩ := hrel
    obtain rfl := HW.out
    clear HW
    by_cases hin : i < n1
    · obtain ⟨b, off, rfl, _, ci⟩ := Hz.out.at0 hbw hin
      have hst := Hi.out
      rw [dropZ (by omega), incB] at hst
      obtain ⟨a, ha⟩ : ∃ a, an.getD i 0 = a := ⟨_, rfl⟩
      rw [ha] at ci hst
      have Hst := Lib.hid hst
      have Ha := Lib.hid ha
      clear hst Hi ha
      cases d1 : decide (a ≤ p) with
      | true =>
        have hr0 : Hid (r = false) := Lib.hid (by rw [← Hst.out]; simp at d1 ⊢; omega)
        obtain rfl : q = 2 := H2.out (by rw [Hr.out, hr0.out])
        clear H2 H15 HL Hst hr0 kw kc Hbd
        go_wp2_with fail
        go_ret
        exact ⟨rfl, blA⟩
      | false =>
        cases d2 : decide (90 < a) with
        | true =>
          have hr0 : Hid (r = false) := Lib.hid (by rw [← Hst.out]; simp at d2 ⊢; omega)
          obtain rfl : q = 2 := H2.out (by rw [Hr.out, hr0.out])
          clear H2 H15 HL Hst hr0 kw kc Hbd
          go_wp2_with fail
          go_ret
          exact ⟨rfl, blA⟩
        | false =>
          have Hn : Hid (incB a (an.drop (i + 1)) = r) := Lib.hid (by rw [← Hst.out]; simp at d1 d2; rw [decide_eq_true (show p < a by omega), decide_eq_true (show a ≤ 90 by omega)]; rfl)
          have Hpn : Hid (a = pvZ an (i + 1)) := Lib.hid (by unfold pvZ; rw [if_neg (by omega)]; exact Ha.out.symm)
          clear Hst
          go_wp2_with fail
          go_roundw
          case rel => exact ⟨i + 1, a, _, by omega, by go_num, rfl, Hpn, Hn, Lib.hid rfl, csA, blA⟩
          case measure => simp [intOf]; omega
    · obtain rfl : i = n1 := by omega
      have hrt : r = true := by rw [← Hi.out, List.drop_of_length_le (by omega)]; rfl
      subst hrt
      have hpv : p = an.getD (i - 1) 0 := by have := Hp.out; unfold pvZ at this; rwa [if_neg (by omega)] at this
      obtain ⟨b, off, rfl, _, c0⟩ := Hz.out.at0 hbw (show 0 < i by omega)
      have hb1 := Hbd.out Hr.out (i - 1) (by omega)
      have hb0 := Hbd.out Hr.out 0 (by omega)
      have h15 := H15.out Hr.out
      have hL := HL.out Hr.out
      rw [← hpv] at hb1 h15 hL
      rw [Nat.add_zero] at c0
      generalize an.getD 0 0 = a0 at *
      obtain ⟨hb1, hb1', -⟩ := hb1
      obtain ⟨hb0, hb0', -⟩ := hb0
      have H15 := Lib.hid h15
      have HL := Lib.hid hL
      clear H2 Hp Hi hpv h15 hL Hbd Hr hr Hz
      have cB1 := B1.c
      have fB1 := B1.f
      have lB1 := B1.lt
      by_cases e1 : n2 = i
      · by_cases e2 : n3 + 1 = i
        · by_cases e3 : (n4 : Int) = p - a0 + 1
          · have hq := HL.out (by omega)
            have k1 : ((n2 : Int) == (i : Int)) = true := by simp; omega
            have k2 : ((n3 : Int) == (i : Int) - 1) = true := by simp; omega
            have k3 : ((n4 : Int) == p - a0 + 1) = true := by simp; omega
            have k1' : ((n2 : Int) != (i : Int)) = false := by simp; omega
            have k2' : ((n3 : Int) != (i : Int) - 1) = false := by simp; omega
            have k3' : ((n4 : Int) != p - a0 + 1) = false := by simp; omega
            clear HL H15
            subst e1
            go_wp2_with fail
            go_quiet (fail)
            go_wp2_with fail
            refine (kw _ blA).mono ?_
            rintro _ w2 ⟨rfl, hb2⟩
            replace B1 : Cs w2 (w.heap.size) #[.slice (some ⟨b, off, none⟩) n2 c1, .slice A2 n2 c2, .slice A3 n3 c3, .slice A4 n4 c4] := Cs.keep csA hb2
            replace hbw : Below w.heap.size w w2 := blA
            replace cB1 := B1.c
            replace fB1 := B1.f
            replace lB1 := B1.lt
            clear hb2
            clear kw
            cases u with
            | false =>
              obtain rfl : q = 2 := by rw [hq]; simp
              clear hq kc
              go_wp2_with fail
              go_ret
              exact ⟨rfl, blA⟩
            | true =>
              go_wp2_with fail
              refine (kc _ blA).mono ?_
              rintro _ w3 ⟨rfl, hb3⟩
              try clear cB1 fB1 lB1
              try clear B1
              replace hbw : Below w.heap.size w w3 := blA
              clear hb3
              clear kc
              cases v with
              | false =>
                obtain rfl : q = 2 := by rw [hq]; simp
                clear hq
                go_wp2_with fail
                go_ret
                exact ⟨rfl, blA⟩
              | true =>
                obtain rfl : q = 0 := by rw [hq]; simp
                clear hq
                go_wp2_with fail
                go_ret
                exact ⟨rfl, blA⟩
          · obtain rfl : q = 15 := H15.out (by omega)
            have k1 : ((n2 : Int) == (i : Int)) = true := by simp; omega
            have k2 : ((n3 : Int) == (i : Int) - 1) = true := by simp; omega
            have k3 : ((n4 : Int) == p - a0 + 1) = false := by simp; omega
            have k1' : ((n2 : Int) != (i : Int)) = false := by simp; omega
            have k2' : ((n3 : Int) != (i : Int) - 1) = false := by simp; omega
            have k3' : ((n4 : Int) != p - a0 + 1) = true := by simp; omega
            clear HL H15 kw kc
            go_wp2_with fail
            go_quiet (fail)
            go_wp2_with fail
            go_ret
            exact ⟨rfl, blA⟩
        · obtain rfl : q = 15 := H15.out (by omega)
          have k1 : ((n2 : Int) == (i : Int)) = true := by simp; omega
          have k2 : ((n3 : Int) == (i : Int) - 1) = false := by simp; omega
          have k1' : ((n2 : Int) != (i : Int)) = false := by simp; omega
          have k2' : ((n3 : Int) != (i : Int) - 1) = true := by simp; omega
          clear HL H15 kw kc
          go_wp2_with fail
          go_quiet (fail)
          go_wp2_with fail
          go_ret
          exact ⟨rfl, blA⟩
      · obtain rfl : q = 15 := H15.out (by omega)
        have k1 : ((n2 : Int) == (i : Int)) = false := by simp; omega
        have k1' : ((n2 : Int) != (i : Int)) = true := by simp; omega
        clear HL H15 kw kc
        go_wp2_with fail
        go_quiet (fail)
        go_wp2_with fail
        go_ret
        exact ⟨rfl, blA⟩

end Go.Proofs.YtminplfgadhnnaaGreatDoor
end

/- Walks of the reference of layer 3: within, CheckLamp. (Printed by gen/gen_za3.py.) -/
section
namespace Go.Proofs.YtminplfgadhnnaaGreatDoor
open Go.RowKit Go.Shelf
set_option linter.unusedSimpArgs false
set_option linter.unusedVariables false
open Zm

set_option maxHeartbeats 1000000 in
theorem zrwithin_any (x y m : Int) (w : World) :
    Calls Tryz.prog 59 #[.agg #[.int .i64 x, .int .i64 y], .int .i64 m] w fun e w' => e = .returned (.bool (rgZ m (x, y))) ∧ Below w.heap.size w w' := by
  cases d1 : decide (0 ≤ x) with
  | false =>
    have e1 : Hid (false = rgZ m (x, y)) := Lib.hid (by simp [rgZ] at d1 ⊢; omega)
    go_enter Tryz.func59, Tryz.ntmps59
    go_wp2_with fail
    go_ret
    exact ⟨ret_bool e1.out, blA⟩
  | true =>
    cases d2 : decide (x ≤ y) with
    | false =>
      have e1 : Hid (false = rgZ m (x, y)) := Lib.hid (by simp [rgZ] at d1 d2 ⊢; omega)
      go_enter Tryz.func59, Tryz.ntmps59
      go_wp2_with fail
      go_ret
      exact ⟨ret_bool e1.out, blA⟩
    | true =>
      have e1 : Hid (decide (y ≤ m) = rgZ m (x, y)) := Lib.hid (by simp at d1 d2; rw [Bool.eq_iff_iff]; simp [rgZ]; omega)
      go_enter Tryz.func59, Tryz.ntmps59
      go_wp2_with fail
      go_ret
      exact ⟨ret_bool e1.out, blA⟩

set_option maxRecDepth 100000 in
set_option maxHeartbeats 16000000 in
theorem zrcheck_any (A1 : Option Addr) (n1 c1 : Nat) (A2 : Option Addr) (n2 c2 : Nat) (A3 : Option Addr) (n3 c3 : Nat) (A4 : Option Addr) (n4 c4 : Nat) (an : List Int) (ls : List (Int × Int)) (fs : List Bool) (ws : List Int) (w : World) (h : Lmp w A1 n1 c1 A2 n2 c2 A3 n3 c3 A4 n4 c4 an ls fs ws) :
    Calls Tryz.prog 29 #[.agg #[.slice A1 n1 c1, .slice A2 n2 c2, .slice A3 n3 c3, .slice A4 n4 c4]] w fun e w' => e = .returned (.int .i64 (chkZ an ls fs ws)) ∧ Below w.heap.size w w' := by
  have hl1 := h.h1.1
  have hl2 := h.h2.1
  have hl3 := h.h3.1
  have hl4 := h.h4.1
  by_cases a1 : n1 < 2
  · rw [chk_6 (.inl (by omega))]
    have b1 : (n1 : Int) < 2 := by omega
    clear h
    go_enter Tryz.func29, Tryz.ntmps29
    go_wp2_with fail
    go_ret
    exact ⟨rfl, blA⟩
  by_cases a2 : 10 < n1
  · rw [chk_6 (.inr (by omega))]
    have b1 : ¬ (n1 : Int) < 2 := by omega
    have b2 : (10 : Int) < (n1 : Int) := by omega
    clear h
    go_enter Tryz.func29, Tryz.ntmps29
    go_wp2_with fail
    go_ret
    exact ⟨rfl, blA⟩
  have hn : ¬ (an.length < 2 ∨ 10 < an.length) := by omega
  have kw := fun x y W => zrwithin_any x y 200 W
  have H2 := Lib.hid (fun (hi : incB (-1) an = false) => chk_2 (ls := ls) (fs := fs) (ws := ws) hn hi)
  have H15 := Lib.hid (fun (hi : incB (-1) an = true) => chk_15 (ls := ls) (fs := fs) (ws := ws) hn hi)
  have HL := Lib.hid (fun (hi : incB (-1) an = true) => chk_last (ls := ls) (fs := fs) (ws := ws) hn hi)
  rw [hl1, hl2, hl3, hl4] at H15 HL
  have Hbd := Lib.hid (inc_ok (-1) an)
  generalize chkZ an ls fs ws = q at *
  obtain ⟨r, hr⟩ : ∃ r, incB (-1) an = r := ⟨_, rfl⟩
  have Hr : Hid (incB (-1) an = r) := Lib.hid hr
  obtain ⟨u, hu⟩ : ∃ u, ls.all (rgZ 200) = u := ⟨_, rfl⟩
  obtain ⟨v, hv⟩ : ∃ v, ws.all wtZ = v := ⟨_, rfl⟩
  rw [hu, hv] at HL
  have Hu := Lib.hid hu
  have Hv := Lib.hid hv
  clear hu hv
  have Hz := Lib.hid h.h1
  have Hz2 := Lib.hid h.h2
  have Hz4 := Lib.hid h.h4
  have b1 : ¬ (n1 : Int) < 2 := by omega
  have b2 : ¬ (10 : Int) < (n1 : Int) := by omega
  have hn1 : n1 ≤ 10 ∧ 2 ≤ n1 := by omega
  have hm3 := h.m3.1
  have hm4 := h.m4.1
  clear h hn a1 a2
  go_enter Tryz.func29, Tryz.ntmps29
  have B1 : Cs (w.alloc (.cells #[.slice A1 n1 c1, .slice A2 n2 c2, .slice A3 n3 c3, .slice A4 n4 c4] 26)) w.heap.size #[.slice A1 n1 c1, .slice A2 n2 c2, .slice A3 n3 c3, .slice A4 n4 c4] := csA
  have HB1 := Lib.hid B1
  clear B1
  go_wp2_with fail
  go_loopw [4] (fun s4 wx => ∃ (i : Nat) (p : Int) (W : World), i ≤ n1 ∧ s4 = .int .i64 (i : Nat) ∧ Hid (p = pvZ an i) ∧ -1 ≤ p ∧ Hid (incB p (an.drop i) = r) ∧ Hid (W = wx) ∧ Cs W w.heap.size #[.slice A1 n1 c1, .slice A2 n2 c2, .slice A3 n3 c3, .slice A4 n4 c4] ∧ Below w.heap.size w W) (fun s4 _ => n1 - (intOf s4).toNat)
  case atStart => exact ⟨0, -1, _, Nat.zero_le _, rfl, Lib.hid rfl, by omega, Lib.hid hr, Lib.hid rfl, HB1.out, blA⟩
  case round =>
    clear HB1
    obtain ⟨i, p, W, hi, rfl, Hp, hp1, Hi, HW, B1, hbw⟩ := hrel
    obtain rfl := HW.out
    clear HW
    have cB1 := B1.c
    have fB1 := B1.f
    have lB1 := B1.lt
    by_cases hin : i < n1
    · obtain ⟨b, off, rfl, _, ci⟩ := Hz.out.at0 hbw hin
      have hst := Hi.out
      rw [dropZ (by omega), incB] at hst
      obtain ⟨a, ha⟩ : ∃ a, an.getD i 0 = a := ⟨_, rfl⟩
      rw [ha] at ci hst
      have Hst := Lib.hid hst
      have Ha := Lib.hid ha
      clear hst Hi ha
      cases d1 : decide (a < 0) with
      | true =>
        have hr0 : Hid (r = false) := Lib.hid (by rw [← Hst.out]; simp at d1 ⊢; omega)
        obtain rfl : q = 2 := H2.out (by rw [Hr.out, hr0.out])
        clear H2 H15 HL Hst hr0 kw Hbd
        go_wp2_with fail
        go_quiet (fail)
        go_wp2_with fail
        go_ret
        exact ⟨rfl, blA⟩
      | false =>
        cases d2 : decide (90 < a) with
        | true =>
          have hr0 : Hid (r = false) := Lib.hid (by rw [← Hst.out]; simp at d2 ⊢; omega)
          obtain rfl : q = 2 := H2.out (by rw [Hr.out, hr0.out])
          clear H2 H15 HL Hst hr0 kw Hbd
          go_wp2_with fail
          go_quiet (fail)
          go_wp2_with fail
          go_ret
          exact ⟨rfl, blA⟩
        | false =>
          match i, hi, hin, Hp, ci, Hst, Ha with
          | 0, hi, hin, Hp, ci, Hst, Ha =>
            have hp0 : p = -1 := Hp.out
            have Hn : Hid (incB a (an.drop (0 + 1)) = r) := Lib.hid (by rw [← Hst.out]; simp at d1 d2; rw [decide_eq_true (show p < a by omega), decide_eq_true (show a ≤ 90 by omega)]; rfl)
            have Hpn : Hid (a = pvZ an (0 + 1)) := Lib.hid (by unfold pvZ; rw [if_neg (by omega)]; exact Ha.out.symm)
            have ha0 : -1 ≤ a := by simp at d1; omega
            rw [Nat.add_zero] at ci
            clear Hst Hp
            go_wp2_with fail
            go_quiet (fail)
            go_wp2_with fail
            go_roundw
            case rel => exact ⟨0 + 1, a, _, by omega, by go_num, Hpn, ha0, Hn, Lib.hid rfl, csA, blA⟩
            case measure => simp [intOf]; omega
          | j + 1, hi, hin, Hp, ci, Hst, Ha =>
            obtain ⟨b', off', e', _, cj⟩ := Hz.out.at0 hbw (show j < n1 by omega)
            injection e' with e'
            injection e' with e1 e2
            subst e1 e2
            have hpj : an.getD j 0 = p := by have := Hp.out; unfold pvZ at this; rw [if_neg (by omega)] at this; exact this.symm
            rw [hpj] at cj
            have hja : (j : Int) < (n1 : Int) := by omega
            have hjb : (j : Int) + 1 < (n1 : Int) := by omega
            cases d3 : decide (a ≤ p) with
            | true =>
              have hr0 : Hid (r = false) := Lib.hid (by rw [← Hst.out]; simp at d3 ⊢; omega)
              obtain rfl : q = 2 := H2.out (by rw [Hr.out, hr0.out])
              clear H2 H15 HL Hst hr0 kw Hbd Hp hpj
              go_wp2_with fail
              go_quiet (fail)
              go_wp2_with fail
              go_ret
              exact ⟨rfl, blA⟩
            | false =>
              have Hn : Hid (incB a (an.drop (j + 1 + 1)) = r) := Lib.hid (by rw [← Hst.out]; simp at d1 d2 d3; rw [decide_eq_true (show p < a by omega), decide_eq_true (show a ≤ 90 by omega)]; rfl)
              have Hpn : Hid (a = pvZ an (j + 1 + 1)) := Lib.hid (by unfold pvZ; rw [if_neg (by omega)]; exact Ha.out.symm)
              have ha0 : -1 ≤ a := by simp at d1; omega
              clear Hst Hp hpj
              go_wp2_with fail
              go_quiet (fail)
              go_wp2_with fail
              go_roundw
              case rel => exact ⟨j + 1 + 1, a, _, by omega, by go_num, Hpn, ha0, Hn, Lib.hid rfl, csA, blA⟩
              case measure => simp [intOf]; omega
    · obtain rfl : i = n1 := by omega
      have hrt : r = true := by rw [← Hi.out, List.drop_of_length_le (by omega)]; rfl
      subst hrt
      have hpv : p = an.getD (i - 1) 0 := by have := Hp.out; unfold pvZ at this; rwa [if_neg (by omega)] at this
      obtain ⟨b, off, rfl, _, c0⟩ := Hz.out.at0 hbw (show 0 < i by omega)
      obtain ⟨b', off', e', _, cl⟩ := Hz.out.at0 hbw (show i - 1 < i by omega)
      injection e' with e'
      injection e' with e1 e2
      subst e1 e2
      have hb1 := Hbd.out Hr.out (i - 1) (by omega)
      have hb0 := Hbd.out Hr.out 0 (by omega)
      have h15 := H15.out Hr.out
      have hL := HL.out Hr.out
      rw [← hpv] at hb1 h15 hL cl
      rw [Nat.add_zero] at c0
      generalize an.getD 0 0 = a0 at *
      obtain ⟨hb1, hb1', -⟩ := hb1
      obtain ⟨hb0, hb0', -⟩ := hb0
      have hi1 : (i : Int) - 1 = ((i - 1 : Nat) : Int) := by omega
      have hi2 : i - 1 < i := by omega
      obtain ⟨i0, hi0⟩ : ∃ i0, i - 1 = i0 := ⟨_, rfl⟩
      rw [hi0] at hi1 hi2 cl
      have H15 := Lib.hid h15
      have HL := Lib.hid hL
      clear H2 Hp Hi hpv h15 hL Hbd Hr hr Hz hi0
      by_cases e1 : n2 = i
      · by_cases e2 : n3 + 1 = i
        · by_cases e3 : (n4 : Int) = p - a0 + 1
          · have hq := HL.out (by omega)
            have k1 : ((n2 : Int) == (i : Int)) = true := by simp; omega
            have k1' : ((n2 : Int) != (i : Int)) = false := by simp; omega
            have k2 : ((n3 : Int) == (i : Int) - 1) = true := by simp; omega
            have k2' : ((n3 : Int) != (i : Int) - 1) = false := by simp; omega
            have k3 : ((n4 : Int) == p - a0 + 1) = true := by simp; omega
            have k3' : ((n4 : Int) != p - a0 + 1) = false := by simp; omega
            have Hq := Lib.hid hq
            clear HL H15 hq
            rw [hi1] at k2 k2'
            subst e1
            go_wp2_with fail
            go_quiet (fail)
            go_wp2_with fail
            go_loopw [5] (fun s5 wx => ∃ (j : Nat) (V : World), j ≤ n2 ∧ s5 = .int .i64 (j : Nat) ∧ Hid (V = wx) ∧ Hid (∀ k x, k < j → ls[k]? = some x → rgZ 200 x = true) ∧ Cs V w.heap.size #[.slice (some ⟨b, off, none⟩) n2 c1, .slice A2 n2 c2, .slice A3 n3 c3, .slice A4 n4 c4] ∧ Below w.heap.size w V) (fun s5 _ => n2 - (intOf s5).toNat)
            case atStart => exact ⟨0, _, Nat.zero_le _, rfl, Lib.hid rfl, Lib.hid (fun k x hk => absurd hk (by omega)), csA, blA⟩
            case round =>
              clear B1 cB1 fB1 lB1 hbw k1 k2 k3 k1' k2' k3' hi1 hi2 c0 cl
              obtain ⟨j, V, hj, rfl, HV, Hls, B1, hbw⟩ := hrel
              obtain rfl := HV.out
              clear HV
              have cB1 := B1.c
              have fB1 := B1.f
              have lB1 := B1.lt
              by_cases hjn : j < n2
              · obtain ⟨b2, off2, x, y, rfl, hget, d0, d1⟩ := Hz2.out.at_ hbw hjn
                have k3 := kw x y
                have Hget := Lib.hid hget
                clear hget
                cases hx : rgZ 200 (x, y) with
                | false =>
                  have hu : u = false := by rw [← Hu.out]; exact List.all_eq_false.2 ⟨(x, y), List.mem_of_getElem? Hget.out, by simp [hx]⟩
                  obtain rfl : q = 2 := by rw [Hq.out, hu]; simp
                  rw [hx] at k3
                  clear Hls Hq hu kw hx
                  go_wp2_with fail
                  refine (k3 _).mono ?_
                  rintro _ w2 ⟨rfl, hb2⟩
                  go_wp2_with fail
                  go_ret
                  exact ⟨rfl, blA⟩
                | true =>
                  rw [hx] at k3
                  have Hx := Lib.hid hx
                  clear hx
                  go_wp2_with fail
                  refine (k3 _).mono ?_
                  rintro _ w2 ⟨rfl, hb2⟩
                  replace B1 := B1.keep hb2
                  replace hbw : Below w.heap.size w w2 := blA
                  clear cB1 fB1 lB1 hb2 k3
                  go_wp2_with fail
                  go_roundw
                  case rel =>
                    refine ⟨j + 1, _, by omega, by go_num, Lib.hid rfl, Lib.hid (fun k x' hk hu => ?_), B1, hbw⟩
                    by_cases e : k = j
                    · subst e
                      have := Hget.out.symm.trans hu
                      injection this with this
                      rw [← this]; exact Hx.out
                    · exact Hls.out k x' (by omega) hu
                  case measure => simp [intOf]; omega
              · obtain rfl : j = n2 := by omega
                have hu : u = true := by
                  rw [← Hu.out, List.all_eq_true]
                  intro x hx
                  obtain ⟨k, hk, rfl⟩ := List.mem_iff_getElem.1 hx
                  exact Hls.out k _ (by omega) (List.getElem?_eq_getElem hk)
                subst hu
                clear Hls Hu kw
                go_wp2_with fail
                go_loopw [6] (fun s6 wx => ∃ (k : Nat) (U : World), k ≤ n4 ∧ s6 = .int .i64 (k : Nat) ∧ Hid (U = wx) ∧ Hid (∀ i, i < k → wtZ (ws.getD i 0) = true) ∧ Cs U w.heap.size #[.slice (some ⟨b, off, none⟩) j c1, .slice A2 j c2, .slice A3 n3 c3, .slice A4 n4 c4] ∧ Below w.heap.size w U) (fun s6 _ => n4 - (intOf s6).toNat)
                case atStart => exact ⟨0, _, Nat.zero_le _, rfl, Lib.hid rfl, Lib.hid (fun k hk => absurd hk (by omega)), csA, blA⟩
                case round =>
                  clear B1 cB1 fB1 lB1 hbw
                  obtain ⟨k, U, hk, rfl, HU, Hws, B1, hbw⟩ := hrel
                  obtain rfl := HU.out
                  clear HU
                  have cB1 := B1.c
                  have fB1 := B1.f
                  have lB1 := B1.lt
                  by_cases hkn : k < n4
                  · obtain ⟨b4, off4, rfl, _, ck⟩ := Hz4.out.at0 hbw hkn
                    obtain ⟨a, ha⟩ : ∃ a, ws.getD k 0 = a := ⟨_, rfl⟩
                    rw [ha] at ck
                    have Ha := Lib.hid ha
                    have Hbad : Hid (wtZ a = false → v = false) := Lib.hid (fun h => by
                      rw [← Hv.out]
                      refine List.all_eq_false.2 ⟨ws[k], List.getElem_mem _, ?_⟩
                      have : ws[k] = a := by rw [← Ha.out, List.getD_eq_getElem?_getD, List.getElem?_eq_getElem (by omega)]; rfl
                      rw [this, h]; decide)
                    clear ha
                    cases d1 : decide (a < 0) with
                    | true =>
                      have hv := Hbad.out (by simp [wtZ] at d1 ⊢; omega)
                      obtain rfl : q = 2 := by rw [Hq.out, hv]; simp
                      clear Hws Hq hv Hbad
                      go_wp2_with fail
                      go_ret
                      exact ⟨rfl, blA⟩
                    | false =>
                      cases d2 : decide (1000 < a) with
                      | true =>
                        have hv := Hbad.out (by simp [wtZ] at d2 ⊢; omega)
                        obtain rfl : q = 2 := by rw [Hq.out, hv]; simp
                        clear Hws Hq hv Hbad
                        go_wp2_with fail
                        go_ret
                        exact ⟨rfl, blA⟩
                      | false =>
                        have Hok : Hid (wtZ a = true) := Lib.hid (by simp [wtZ] at d1 d2 ⊢; omega)
                        clear Hbad
                        go_wp2_with fail
                        go_roundw
                        case rel =>
                          refine ⟨k + 1, _, by omega, by go_num, Lib.hid rfl, Lib.hid (fun i hi => ?_), csA, blA⟩
                          by_cases e : i = k
                          · subst e; rw [Ha.out]; exact Hok.out
                          · exact Hws.out i (by omega)
                        case measure => simp [intOf]; omega
                  · obtain rfl : k = n4 := by omega
                    have hv : v = true := by
                      rw [← Hv.out, List.all_eq_true]
                      intro x hx
                      obtain ⟨i, hi, rfl⟩ := List.mem_iff_getElem.1 hx
                      have := Hws.out i (by omega)
                      rwa [List.getD_eq_getElem?_getD, List.getElem?_eq_getElem hi] at this
                    subst hv
                    obtain rfl : q = 0 := by rw [Hq.out]; simp
                    clear Hws Hq
                    go_wp2_with fail
                    go_ret
                    exact ⟨rfl, blA⟩
          · obtain rfl : q = 15 := H15.out (by omega)
            have k1 : ((n2 : Int) == (i : Int)) = true := by simp; omega
            have k1' : ((n2 : Int) != (i : Int)) = false := by simp; omega
            have k2 : ((n3 : Int) == (i : Int) - 1) = true := by simp; omega
            have k2' : ((n3 : Int) != (i : Int) - 1) = false := by simp; omega
            have k3 : ((n4 : Int) == p - a0 + 1) = false := by simp; omega
            have k3' : ((n4 : Int) != p - a0 + 1) = true := by simp; omega
            clear HL H15 kw
            rw [hi1] at k2 k2'
            go_wp2_with fail
            go_quiet (fail)
            go_wp2_with fail
            go_ret
            exact ⟨rfl, blA⟩
        · obtain rfl : q = 15 := H15.out (by omega)
          have k1 : ((n2 : Int) == (i : Int)) = true := by simp; omega
          have k1' : ((n2 : Int) != (i : Int)) = false := by simp; omega
          have k2 : ((n3 : Int) == (i : Int) - 1) = false := by simp; omega
          have k2' : ((n3 : Int) != (i : Int) - 1) = true := by simp; omega
          clear HL H15 kw
          rw [hi1] at k2 k2'
          go_wp2_with fail
          go_quiet (fail)
          go_wp2_with fail
          go_ret
          exact ⟨rfl, blA⟩
      · obtain rfl : q = 15 := H15.out (by omega)
        have k1 : ((n2 : Int) == (i : Int)) = false := by simp; omega
        have k1' : ((n2 : Int) != (i : Int)) = true := by simp; omega
        clear HL H15 kw
        go_wp2_with fail
        go_quiet (fail)
        go_wp2_with fail
        go_ret
        exact ⟨rfl, blA⟩

end Go.Proofs.YtminplfgadhnnaaGreatDoor
end

/- Walks of package bench: newTable. -/
section
namespace Go.Proofs.YtminplfgadhnnaaGreatDoor
open Go.RowKit Go.Shelf
set_option linter.unusedSimpArgs false
set_option linter.unusedVariables false
open Bm (wd)

end Go.Proofs.YtminplfgadhnnaaGreatDoor
end

/- Walks of package bench: steps, a list of (place, did it do anything). -/
section
namespace Go.Proofs.YtminplfgadhnnaaGreatDoor
open Go.RowKit Go.Shelf
set_option linter.unusedSimpArgs false
set_option linter.unusedVariables false
open Bm (anN Pr OkP)
attribute [local go_sem] Oper.semAt_some

/-- a line has a word that is not nought -/
def anyW (R : Nat → Nat) : Bool := (List.range 64).any fun j => R j != 0
theorem eqItems_line (d : Nat) (R : Nat → Nat) (w : World) : ∀ is : List Nat, (∀ i ∈ is, i < 64) → (Op.eqItems (d + 1) 174 1 (lnA R) (lnA fun _ => 0) is).run Tryz.prog w = .ok (is.all fun j => R j == 0) w
  | [], _ => by simp [Op.eqItems]
  | i :: is, h => by
    have hi := h i List.mem_cons_self
    have ih := eqItems_line d R w is (fun j hj => h j (List.mem_cons_of_mem _ hj))
    have g1 := lnA_get R hi
    have g2 := lnA_get (fun _ => 0) hi
    simp only [wv] at g1 g2
    have e1 : (lnA R)[i]'(by rw [lnA_size]; exact hi) = .int .u64 ((R i : Nat) : Int) := by
      rw [Array.getElem?_eq_getElem (by rw [lnA_size]; exact hi)] at g1; injection g1
    have e2 : (lnA fun _ => 0)[i]'(by rw [lnA_size]; exact hi) = .int .u64 ((0 : Nat) : Int) := by
      rw [Array.getElem?_eq_getElem (by rw [lnA_size]; exact hi)] at g2; injection g2
    simp [Op.eqItems, go_sem, g1, g2, lnA_size, hi, e1, e2]
    by_cases h0 : R i = 0
    · simp [h0, ih]
    · simp [h0]
theorem all_anyW (R : Nat → Nat) : ((List.range 64).all fun j => R j == 0) = !anyW R := by
  unfold anyW
  generalize List.range 64 = l
  induction l with
  | nil => rfl
  | cons a l ih => simp only [List.all_cons, List.any_cons, ih, Bool.not_or]; cases h : (R a == 0) <;> simp [bne, h]
theorem line_eqd (d : Nat) (R : Nat → Nat) (w : World) : (Op.equalIn (d + 1 + 1) 176 (.agg (lnA R)) (.agg (lnA fun _ => 0))).run Tryz.prog w = .ok (!anyW R) w := by
  have hT : ∃ i, Tryz.prog.info? 174 = some i := by
    have h : (Tryz.prog.info? 174).isSome = true := by kernel_rfl
    exact Option.isSome_iff_exists.1 h
  obtain ⟨i, hi⟩ := hT
  rw [run_equalIn_array w (d + 1) _ _ (n := 64) (e := 174) (by kernel_rfl) hi]
  have hc : Tryz.prog.cellsOf 174 = 1 := by kernel_rfl
  rw [hc, eqItems_line d R w (List.range 64) (fun i h => List.mem_range.1 h), all_anyW]
@[local go_sem] theorem line_eq (R : Nat → Nat) (w : World) : (Op.equalIn 10000 176 (.agg (lnA R)) (.agg (lnA fun _ => 0))).run Tryz.prog w = .ok (!anyW R) w := line_eqd 9998 R w

@[local go_sem] theorem line_eqL (R : Nat → Nat) (w : World) : (Op.equalIn 10000 176 (.agg (lnA R)) (.agg #[.int .u64 0, .int .u64 0, .int .u64 0, .int .u64 0, .int .u64 0, .int .u64 0, .int .u64 0, .int .u64 0, .int .u64 0, .int .u64 0, .int .u64 0, .int .u64 0, .int .u64 0, .int .u64 0, .int .u64 0, .int .u64 0, .int .u64 0, .int .u64 0, .int .u64 0, .int .u64 0, .int .u64 0, .int .u64 0, .int .u64 0, .int .u64 0, .int .u64 0, .int .u64 0, .int .u64 0, .int .u64 0, .int .u64 0, .int .u64 0, .int .u64 0, .int .u64 0, .int .u64 0, .int .u64 0, .int .u64 0, .int .u64 0, .int .u64 0, .int .u64 0, .int .u64 0, .int .u64 0, .int .u64 0, .int .u64 0, .int .u64 0, .int .u64 0, .int .u64 0, .int .u64 0, .int .u64 0, .int .u64 0, .int .u64 0, .int .u64 0, .int .u64 0, .int .u64 0, .int .u64 0, .int .u64 0, .int .u64 0, .int .u64 0, .int .u64 0, .int .u64 0, .int .u64 0, .int .u64 0, .int .u64 0, .int .u64 0, .int .u64 0, .int .u64 0])).run Tryz.prog w = .ok (!anyW R) w := by
  rw [lnA_zero]; exact line_eq R w
@[local go_sem] theorem line_new (R : Nat → Nat) (w : World) : (storeCells ⟨w.heap.size, 0, none⟩ (lnA R).toList).run Tryz.prog (w.alloc (.cells #[.int .u64 0, .int .u64 0, .int .u64 0, .int .u64 0, .int .u64 0, .int .u64 0, .int .u64 0, .int .u64 0, .int .u64 0, .int .u64 0, .int .u64 0, .int .u64 0, .int .u64 0, .int .u64 0, .int .u64 0, .int .u64 0, .int .u64 0, .int .u64 0, .int .u64 0, .int .u64 0, .int .u64 0, .int .u64 0, .int .u64 0, .int .u64 0, .int .u64 0, .int .u64 0, .int .u64 0, .int .u64 0, .int .u64 0, .int .u64 0, .int .u64 0, .int .u64 0, .int .u64 0, .int .u64 0, .int .u64 0, .int .u64 0, .int .u64 0, .int .u64 0, .int .u64 0, .int .u64 0, .int .u64 0, .int .u64 0, .int .u64 0, .int .u64 0, .int .u64 0, .int .u64 0, .int .u64 0, .int .u64 0, .int .u64 0, .int .u64 0, .int .u64 0, .int .u64 0, .int .u64 0, .int .u64 0, .int .u64 0, .int .u64 0, .int .u64 0, .int .u64 0, .int .u64 0, .int .u64 0, .int .u64 0, .int .u64 0, .int .u64 0, .int .u64 0] 176)) = .ok () (w.alloc (.cells (lnA R) 176)) := by
  rw [lnA_zero]
  exact run_storeCells_new w _ _ _ (by rw [lineT_size, lnA_size]) (by rw [lnA_size, lnA_size]) (lnA_one R)

/-- what the rounds of a range over a table's steps keep -/
def KpT (A : Option Addr) (m gt gl bx : Nat) (_ : Nat) (W W' : World) : Prop := W.heap.size ≤ W'.heap.size ∧ ∀ i, i < W.heap.size → (i = gt ∨ i = gl ∨ i = bx ∨ (0 < m ∧ ∃ off, A = some ⟨i, off, none⟩)) → W'.heap[i]? = W.heap[i]?
theorem KpT.trans {A : Option Addr} {m gt gl bx B : Nat} {X Y Z : World} (h : KpT A m gt gl bx B X Y) (k : KpT A m gt gl bx B Y Z) : KpT A m gt gl bx B X Z :=
  ⟨Nat.le_trans h.1 k.1, fun i hi hb => (k.2 i (Nat.lt_of_lt_of_le hi h.1) hb).trans (h.2 i hi hb)⟩
theorem KpT.of_turns {A : Option Addr} {m gt gl bx B : Nat} {O : Nat → Prop} {X Y : World} (h : Turns O X Y) (hO : ∀ i, (i = gt ∨ i = gl ∨ i = bx ∨ (0 < m ∧ ∃ off, A = some ⟨i, off, none⟩)) → ¬ O i) : KpT A m gt gl bx B X Y :=
  ⟨h.size, fun i hi hb => h.block i hi (hO i hb)⟩
theorem Lns.of_heap {A B : World} {g n : Nat} {V : Nat → Nat → Nat} (h : Lns A g n V) (hs : A.heap.size ≤ B.heap.size) (hb : B.heap[g]? = A.heap[g]?) : Lns B g n V :=
  ⟨Nat.lt_of_lt_of_le h.1 hs, fun i j hi hj => by rw [← h.2.1 i j hi hj]; simp only [World.cell?, hb], fun k => by rw [← h.2.2 k]; simp only [World.frozen?, hb]⟩
theorem Prs.of_heap {w w' : World} {A : Option Addr} {n : Nat} {zs : List (Int × Int)} (h : Prs w A n zs) (hs : w.heap.size ≤ w'.heap.size) (hb : 0 < n → ∀ b off, A = some ⟨b, off, none⟩ → w'.heap[b]? = w.heap[b]?) : Prs w' A n zs := by
  refine ⟨h.1, fun hn => ?_⟩
  obtain ⟨b, off, rfl, hlt, hc⟩ := h.2 hn
  have he := hb hn b off rfl
  refine ⟨b, off, rfl, Nat.lt_of_lt_of_le hlt hs, fun i x y hp => ?_⟩
  obtain ⟨h1, h2⟩ := hc i x y hp
  exact ⟨by rw [← h1]; simp only [World.cell?, he], by rw [← h2]; simp only [World.cell?, he]⟩

/-- the world of the iterator between two yields -/
structure St3 (W : World) (gt gl bx : Nat) (A : Option Addr) (m n : Nat) (p : List Pr) (V : Nat → Nat → Nat) : Prop where
  tb : Tb W gt gl A m n V
  box : Cs W bx #[.pointer (some ⟨gt, 0, none⟩)]
  prs : Prs W A m (cst p)
theorem St3.kp {W W' : World} {gt gl bx : Nat} {A : Option Addr} {m n : Nat} {p : List Pr} {V : Nat → Nat → Nat} {B : Nat} (h : St3 W gt gl bx A m n p V) (k : KpT A m gt gl bx B W W') : St3 W' gt gl bx A m n p V :=
  ⟨⟨h.tb.1.of_heap k.1 (k.2 _ h.tb.1.lt (.inl rfl)), h.tb.2.1.of_heap k.1 (k.2 _ h.tb.2.1.1 (.inr (.inl rfl))), h.tb.2.2⟩, h.box.of_heap k.1 (k.2 _ h.box.lt (.inr (.inr (.inl rfl)))),
    h.prs.of_heap k.1 (fun hm b off e => k.2 b (by obtain ⟨b', off', e', hl, _⟩ := h.prs.2 hm; rw [e] at e'; injection e' with e'; injection e' with e'; omega) (.inr (.inr (.inr ⟨hm, off, e⟩))))⟩
theorem St3.below {W W' : World} {gt gl bx : Nat} {A : Option Addr} {m n : Nat} {p : List Pr} {V : Nat → Nat → Nat} (h : St3 W gt gl bx A m n p V) (k : Below W.heap.size W W') : St3 W' gt gl bx A m n p V :=
  h.kp (B := 0) ⟨k.size, fun i hi _ => k.block i hi⟩

end Go.Proofs.YtminplfgadhnnaaGreatDoor
end

/- Plain laws: trailing zeros; words and rows. -/
section
set_option linter.unusedSimpArgs false
set_option linter.unusedVariables false
namespace Bm
open Go

end Bm
end

/- Walks of package bench: first. -/
section
namespace Go.Proofs.YtminplfgadhnnaaGreatDoor
open Go.RowKit Go.Shelf
set_option linter.unusedSimpArgs false
set_option linter.unusedVariables false
open Bm (wd rowL tab fstBad b2i)

/-- the library's table as its initialiser lays it -/
def TabW (w : World) : Prop := 1 < w.heap.size ∧ ∀ j, j < 64 → w.cell? ⟨1, j, none⟩ = some (.int .u8 ((Lib.deBruijn64tab.getD j 0 : Nat) : Int))
theorem TabW.below {w w' : World} (h : TabW w) {B : Nat} (hb : Below B w w') (hB : 1 < B) : TabW w' :=
  ⟨Nat.lt_of_lt_of_le h.1 hb.size, fun j hj => by rw [← h.2 j hj]; simp only [World.cell?, hb.block _ hB]⟩
theorem TabW.turns {w w' : World} {O : Nat → Prop} (h : TabW w) (hb : Turns O w w') (hO : ¬ O 1) : TabW w' :=
  ⟨Nat.lt_of_lt_of_le h.1 hb.size, fun j hj => by rw [← h.2 j hj]; simp only [World.cell?, hb.block _ h.1 hO]⟩

end Go.Proofs.YtminplfgadhnnaaGreatDoor
end

/- Plain laws: the words of a table are the rows' lamps. -/
section
set_option linter.unusedSimpArgs false
set_option linter.unusedVariables false
namespace Bm

/-- the lamps of all rows behind a programme -/
def tabP (n : Nat) (p : List Pr) (i k : Nat) : Bool := decide (k < 2 ^ n) && runB p (tab n k) i
end Bm
end

/- The words of a table behind a programme; walks of package bench: steps, unordered. -/
section
namespace Go.Proofs.YtminplfgadhnnaaGreatDoor
open Go.RowKit Go.Shelf
set_option linter.unusedSimpArgs false
set_option linter.unusedVariables false
open Bm (wd anN tab tabP runB stp usd Pr OkP unord)

end Go.Proofs.YtminplfgadhnnaaGreatDoor
end

/- Walks of package bench: unordered. -/
section
namespace Go.Proofs.YtminplfgadhnnaaGreatDoor
open Go.RowKit Go.Shelf
set_option linter.unusedSimpArgs false
set_option linter.unusedVariables false
open Bm (wd anN tab tabP runB Pr OkP unord)

end Go.Proofs.YtminplfgadhnnaaGreatDoor
end

/- Walks of package bench: the closures that say which pairs of places count. -/
section
namespace Go.Proofs.YtminplfgadhnnaaGreatDoor
open Go.RowKit Go.Shelf
set_option linter.unusedSimpArgs false
set_option linter.unusedVariables false
open Bm (bfP)

end Go.Proofs.YtminplfgadhnnaaGreatDoor
end

/- Walks of package bench: the closures that give a table's wrong rows. -/
section
namespace Go.Proofs.YtminplfgadhnnaaGreatDoor
open Go.RowKit Go.Shelf
set_option linter.unusedSimpArgs false
set_option linter.unusedVariables false
open Bm (wd)

end Go.Proofs.YtminplfgadhnnaaGreatDoor
end

/- Walks of package bench: the closure that gives no rows. -/
section
namespace Go.Proofs.YtminplfgadhnnaaGreatDoor
open Go.RowKit Go.Shelf
set_option linter.unusedSimpArgs false
set_option linter.unusedVariables false
open Bm (wd)

end Go.Proofs.YtminplfgadhnnaaGreatDoor
end

/- A range over a table's steps: the caller's law; rows that come first. -/
section
namespace Go.Proofs.YtminplfgadhnnaaGreatDoor
open Go.RowKit Go.Shelf
set_option linter.unusedSimpArgs false
set_option linter.unusedVariables false
open Bm (wd tab tabP runB stp usd Pr OkP unord fstBad)

theorem Tb.below {w w' : World} {gt gl m n : Nat} {A : Option Addr} {V : Nat → Nat → Nat} (h : Tb w gt gl A m n V) (hb : Below w.heap.size w w') : Tb w' gt gl A m n V := ⟨h.1.keep hb, h.2.1.below hb, h.2.2⟩

theorem Ints.turns {w w' : World} {O : Nat → Prop} {A : Option Addr} {n : Nat} {zs : List Int} (h : Ints w A n zs) (ht : Turns O w w') (hO : ∀ b off, 0 < n → A = some ⟨b, off, none⟩ → ¬ O b) : Ints w' A n zs := by
  refine ⟨h.1, fun hn => ?_⟩
  obtain ⟨b, off, rfl, hlt, hc⟩ := h.2 hn
  exact ⟨b, off, rfl, Nat.lt_of_lt_of_le hlt ht.size, fun i hi => (World.cell?_of_block (w := w) (a := ⟨b, off + i, none⟩) (ht.block b hlt (hO b off hn rfl))).trans (hc i hi)⟩

end Go.Proofs.YtminplfgadhnnaaGreatDoor
end

/- Walks of package bench: judged. -/
section
namespace Go.Proofs.YtminplfgadhnnaaGreatDoor
open Go.RowKit Go.Shelf
set_option linter.unusedSimpArgs false
set_option linter.unusedVariables false
open Bm (wd anN tab tabP runB rowL Pr OkP fstBad)
attribute [local go_sem] Oper.semAt_some line_new

end Go.Proofs.YtminplfgadhnnaaGreatDoor
end

/- Walks of package bench: Test, Merge. -/
section
namespace Go.Proofs.YtminplfgadhnnaaGreatDoor
open Go.RowKit Go.Shelf
set_option linter.unusedSimpArgs false
set_option linter.unusedVariables false
open Bm (wd tab tabP runB Pr OkP unord fstBad bfP)

@[local go_sem] theorem st_func {P : Program} {w : World} {a : Addr} {m : Mode} (fn : Fn) (first captured : Array Value) : (store a (.func fn first captured) m).run P w = stored P w a (.func fn first captured) m := run_store P w a _ m rfl

end Go.Proofs.YtminplfgadhnnaaGreatDoor
end

/- Walks of package bench: Build. -/
section
namespace Go.Proofs.YtminplfgadhnnaaGreatDoor
open Go.RowKit Go.Shelf
set_option linter.unusedSimpArgs false
set_option linter.unusedVariables false
open Bm (Pr OkP buildL outB midB innB topB)

end Go.Proofs.YtminplfgadhnnaaGreatDoor
end

/- Walks of package bench: Useless, Trim. -/
section
namespace Go.Proofs.YtminplfgadhnnaaGreatDoor
open Go.RowKit Go.Shelf
set_option linter.unusedSimpArgs false
set_option linter.unusedVariables false
open Bm (wd tab tabP runB Pr OkP usd uslL trmL)
attribute [local go_sem] Oper.semAt_some

end Go.Proofs.YtminplfgadhnnaaGreatDoor
end

/- Walks of package bench: Useless, Trim, whatever comes in. -/
section
namespace Go.Proofs.YtminplfgadhnnaaGreatDoor
open Go.RowKit Go.Shelf
set_option linter.unusedSimpArgs false
set_option linter.unusedVariables false
open Bm (wd tab tabP runB Pr OkP usd uslL trmL)
attribute [local go_sem] Oper.semAt_some

end Go.Proofs.YtminplfgadhnnaaGreatDoor
end
