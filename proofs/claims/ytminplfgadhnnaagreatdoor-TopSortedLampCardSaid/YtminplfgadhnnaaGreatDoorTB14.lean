/- BD1 BD2 BD3 -/
import Derived.Test.YtminplfgadhnnaaGreatDoorTB13
/- A range over a table's steps: the caller's law; rows that come first. -/
section
namespace Go.Proofs.YtminplfgadhnnaaGreatDoor
open Go.RowKit Go.Shelf
set_option linter.unusedSimpArgs false
set_option linter.unusedVariables false
open Bm (wd tab tabP runB stp usd Pr OkP unord fstBad)

theorem Tb.below {w w' : World} {gt gl m n : Nat} {A : Option Addr} {V : Nat → Nat → Nat} (h : Tb w gt gl A m n V) (hb : Below w.heap.size w w') : Tb w' gt gl A m n V := ⟨h.1.keep hb, h.2.1.below hb, h.2.2⟩

theorem Ints.turns {w w' : World} {O : Nat → Prop} {A : Option Addr} {n : Nat} {zs : List Int} (h : Ints w A n zs) (ht : Turns O w w') (hO : ∀ b off, 0 < n → A = some ⟨b, off, none⟩ → ¬ O b) : Ints w' A n zs := by
  refine ⟨h.1, fun hn => ?_⟩
  obtain ⟨b, off, rfl, hlt, hc⟩ := h.2 hn
  exact ⟨b, off, rfl, Nat.lt_of_lt_of_le hlt ht.size, fun i hi => (World.cell?_of_block (w := w) (a := ⟨b, off + i, none⟩) (ht.block b hlt (hO b off hn rfl))).trans (hc i hi)⟩

theorem stp_prefix {n : Nat} {p : List Pr} {pre : List (Nat × Bool)} {x : Nat × Bool} (h : (pre ++ [x]) <+: stp n [] 0 p) :
    ∃ y, p[pre.length]? = some y ∧ x = (pre.length, usd n (p.take pre.length) y) ∧ (pre ++ [x]).length = pre.length + 1 := by
  obtain ⟨t, ht⟩ := h
  have h1 : (stp n [] 0 p)[pre.length]? = some x := by rw [← ht]; simp
  have hlt : pre.length < p.length := by
    have := (List.getElem?_eq_some_iff.1 h1).1
    rwa [Bm.stp_len] at this
  have h2 : p[pre.length]? = some p[pre.length] := List.getElem?_eq_getElem hlt
  have h3 := Bm.stp_get n p [] 0 _ _ h2
  rw [h1] at h3
  injection h3 with h3
  exact ⟨_, h2, by rw [h3]; simp, by simp⟩

/-- how the body of a round over the steps may be left -/
def postS (Ob : Nat → Prop) (I : Nat → World → Prop) (k : Nat) (W : World) : Exit → Act → World → Prop
  | .normal, _, W' => Turns Ob W W' ∧ I (k + 1) W'
  | _, _, _ => False

theorem range_steps {q : Nat} (hq : 6 ≤ q) {gop : Operand} {ps : Array Tmp} {assign body : Code} {Q : Exit → Act → World → Prop} {a : Act} {w : World}
    (bx gt gl m n : Nat) (A : Option Addr) (p : List Pr) (hS : St3 w gt gl bx A m n p (WT n [])) (hp : OkP n p) (hm : m ≤ 80) (hn : n ≤ 12) (hbx : bx ≠ gl) (hgA : 0 < m → ∀ b off, A = some ⟨b, off, none⟩ → b ≠ gl)
    (hgo : a.eval gop = .func (.func 157) #[] #[.pointer (some ⟨bx, 0, none⟩)]) (hps : ps.size = 2)
    (Ob : Nat → Prop) (hOb : ∀ i, Ob i → i ≠ gt ∧ i ≠ gl ∧ i ≠ bx ∧ (0 < m → ∀ off, A ≠ some ⟨i, off, none⟩) ∧ i ≠ w.heap.size ∧ i ≠ w.heap.size + 1)
    (I : Nat → World → Prop) (hI : ∀ k W W', I k W → Turns (fun i => i = gl ∨ i = w.heap.size + 1) W W' → I k W') (h0 : I 0 w)
    (Ax : Nat → Pr → Act → World → Prop) (hAx : ∀ k y a' W W', Ax k y a' W → Turns (fun i => i = w.heap.size + 1) W W' → Ax k y a' W')
    (hassign : ∀ (l k : Nat) (y : Pr) (W : World) (K : Act → World → Prop), p[k]? = some y → I k W → w.heap.size + 2 ≤ W.heap.size →
      (∀ a' W1, Turns (fun _ => False) W W1 → Ax k y a' W1 → K a' W1) →
      assign.wpIn (Fence.wide.inRound l) (q - 1 - 1) Tryz.prog (Exit.then K (fun _ _ _ => False)) { tmps := (ps.zip #[.int .i64 (k : Nat), .bool (usd n (p.take k) y)]).foldl (fun t (p, v) => t.setIfInBounds p v) a.tmps, defers := [] } W)
    (hbody : ∀ (l k : Nat) (y : Pr) (a' : Act) (W : World), p[k]? = some y → Ax k y a' W → w.heap.size + 2 ≤ W.heap.size →
      body.wpIn (Fence.wide.inRound l) (q - 1 - 1) Tryz.prog (postS Ob I k W) a' W)
    (hdone : ∀ (W : World), Lns W gl n (WT n p) → I p.length W → W.heap[w.heap.size]? = some (.deferred (some [])) → Q .normal { a with defers := { target := .collected w.heap.size, args := #[] } :: a.defers } W) :
    (Code.rangeFunc gop ps assign body).wpIn Fence.wide q Tryz.prog Q a w := by
  have hA : ∀ i, 0 < m → (∃ off, A = some ⟨i, off, none⟩) → i < w.heap.size := by
    rintro i hm0 ⟨off, e⟩
    obtain ⟨b', off', e', hl, _⟩ := hS.prs.2 hm0
    rw [e] at e'
    injection e' with e'
    injection e' with e'
    omega
  have lgt := hS.tb.1.lt
  have lgl := hS.tb.2.1.1
  have lbx := hS.box.lt
  have hK1 : ∀ i, (i = gt ∨ i = gl ∨ i = bx ∨ (0 < m ∧ ∃ off, A = some ⟨i, off, none⟩)) → ¬ (i = w.heap.size + 1) := by
    rintro i (h | h | h | ⟨h, h'⟩) e
    · omega
    · omega
    · omega
    · have := hA i h h'; omega
  have hK2 : ∀ i, (i = gt ∨ i = gl ∨ i = bx ∨ (0 < m ∧ ∃ off, A = some ⟨i, off, none⟩)) → ¬ Ob i := by
    rintro i h ho
    obtain ⟨o1, o2, o3, o4, o5, o6⟩ := hOb i ho
    rcases h with h | h | h | ⟨h, off, h'⟩
    · exact o1 h
    · exact o2 h
    · exact o3 h
    · exact o4 h off h'
  have hseq := steps_in (q - 1) (by omega) bx gt gl m n A p (WT n []) w hS (WT_lt n []) hp hm hn hbx hgA
  rw [stepsW_WT hn p [] 0 hp, runW_WT p [] hp, List.nil_append] at hseq
  refine wpIn_rangeList rfl (by omega) (gf := 157) (lb := #[.pointer (some ⟨bx, 0, none⟩)]) hgo trivial (enters_of Tryz.func157 (by kernel_rfl) rfl)
    hseq
    (fun i hi => by have hi' : i = gl := hi; omega) (fun h1 h2 => h1.trans h2)
    (fun W o' => KpT.of_turns (O := fun i => i = w.heap.size + 1) (Turns.putObj o' rfl) hK1)
    (fun W o' h => Lns.of_heap h (by simp) (World.putObj_heap_other (by omega))) (Below.refl _ _) (fun x => hps.symm ▸ rfl)
    (fun pre W => I pre.length W) (fun _ _ _ => False)
    (fun pre W W' h ht => hI _ W W' h ht) (fun _ _ _ _ h _ => h.elim) h0
    (fun pre x a' W => ∃ y, p[pre.length]? = some y ∧ Ax pre.length y a' W) (fun pre x a' W o' h => by
      obtain ⟨y, hy, h⟩ := h
      exact ⟨y, hy, hAx _ _ _ _ _ h (Turns.putObj o' rfl)⟩)
    ?assign ?body ?done ?stop
  case assign =>
    intro l pre x W K hpx hi hW hK
    obtain ⟨y, h1, rfl, h3⟩ := stp_prefix hpx
    exact hassign l pre.length y W K h1 hi hW fun a' W1 ht ha => hK a' W1 (Keeps2.of_turns ht id id (by omega)) (KpT.of_turns ht fun _ _ h => h) ⟨y, h1, ha⟩
  case body =>
    rintro l pre x a' W hpx ⟨y, hy, ha⟩ hW
    obtain ⟨y', h1, rfl, h3⟩ := stp_prefix hpx
    refine wpIn_mono (hbody l pre.length y a' W hy ha hW) ?_
    have hk2 : ∀ W', Turns Ob W W' → Keeps2 w.heap.size W W' := fun W' ht => Keeps2.of_turns ht (fun ho => (hOb _ ho).2.2.2.2.1 rfl) (fun ho => (hOb _ ho).2.2.2.2.2 rfl) (by omega)
    intro e a3 W3 hp
    cases e with
    | normal => exact ⟨hk2 _ hp.1, KpT.of_turns hp.1 hK2, by show I (pre ++ [_]).length W3; rw [h3]; exact hp.2⟩
    | ret => exact hp.elim
    | exit id => exact hp.elim
    | goto t => exact hp.elim
    | panic ch => exact hp.elim
    | outgrown => exact hp.elim
  case done =>
    intro W hF hi hD
    have hi' : I (stp n [] 0 p).length W := hi
    rw [Bm.stp_len] at hi'
    exact hdone W hF hi' hD
  case stop => intro c pre W _ h; exact h.elim

theorem fstBad_congr {n : Nat} {f g : Nat → Bool} (h : ∀ k, k < 2 ^ n → f k = g k) : fstBad n f = fstBad n g := by
  rcases hf : fstBad n f with _ | k
  · exact (Bm.fstBad_none.2 fun k hk => by rw [← h k hk]; exact Bm.fstBad_none.1 hf k hk).symm
  · obtain ⟨h1, h2, h3⟩ := Bm.fstBad_some.1 hf
    exact (Bm.fstBad_some.2 ⟨h1, by rw [← h k h1]; exact h2, fun j hj => by rw [← h j (by omega)]; exact h3 j hj⟩).symm
theorem firstS_congr {n : Nat} {f g : Nat → Bool} (h : ∀ k, k < 2 ^ n → f k = g k) : firstS n f = firstS n g := by
  unfold firstS; rw [fstBad_congr h]
theorem unK_unord (bf : Nat → Nat → Bool) (T : Nat → Nat → Bool) (n q : Nat) : unK bf T n q = unord n bf (fun i => T i q) := rfl
theorem unord_false (n : Nat) (bf : Nat → Nat → Bool) : unord n bf (fun _ => false) = false := by
  cases h : unord n bf (fun _ => false) with
  | false => rfl
  | true => obtain ⟨k, i, _, _, _, h1, _⟩ := Bm.unord_iff.1 h; cases h1
theorem unK_tab {n : Nat} (bf : Nat → Nat → Bool) (p : List Pr) {q : Nat} (hq : q < 2 ^ n) : unK bf (tabP n p) n q = unord n bf (runB p (tab n q)) := by
  rw [unK_unord]
  exact Bm.unord_congr fun i _ => by simp [tabP, hq]
theorem unK_far {n : Nat} (bf : Nat → Nat → Bool) (p : List Pr) {q : Nat} (hq : 2 ^ n ≤ q) : unK bf (tabP n p) n q = false := by
  rw [unK_unord, show (fun i => tabP n p i q) = fun _ => false from funext fun i => by simp [tabP, show ¬ q < 2 ^ n by omega]]
  exact unord_false _ _
theorem wd_none : wd (fun _ => false) = fun _ => 0 := funext fun j => Bm.wd_zero.2 fun _ _ => rfl

end Go.Proofs.YtminplfgadhnnaaGreatDoor
end

/- Walks of package bench: judged. -/
section
namespace Go.Proofs.YtminplfgadhnnaaGreatDoor
open Go.RowKit Go.Shelf
set_option linter.unusedSimpArgs false
set_option linter.unusedVariables false
open Bm (wd anN tab tabP runB rowL Pr OkP fstBad)
attribute [local go_sem] Oper.semAt_some line_new

set_option maxRecDepth 100000 in
set_option maxHeartbeats 4000000 in
theorem judged_any (n m C : Nat) (A : Option Addr) (p : List Pr) (g1 g2 : Nat) (lb1 lb2 : Array Value) (fr fw : Nat → Bool) (w : World)
    (hz : Prs w A m (cst p)) (h2 : 2 ≤ n) (h12 : n ≤ 12) (hm : m ≤ 80) (hC : m ≤ C) (hp : OkP n p) (hT : TabW w) (hf : ∀ k, 2 ^ n ≤ k → fw k = false)
    (e1 : ∀ args w, (callFunc g1 args).run Tryz.prog w = .ok (.enter g1 args) w) (e2 : ∀ args w, (callFunc g2 args).run Tryz.prog w = .ok (.enter g2 args) w)
    (k1 : ∀ (gt gl : Nat) (W : World), Below w.heap.size w W → Tb W gt gl A m n (fun i j => wd (tabP n [] i) j) → Calls Tryz.prog g1 (#[.pointer (some ⟨gt, 0, none⟩)] ++ lb1) W fun e w' => e = .returned (.agg (lnA (wd fr))) ∧ Below W.heap.size W w')
    (k2 : ∀ (gt gl : Nat) (W : World), Below w.heap.size w W → Tb W gt gl A m n (fun i j => wd (tabP n p i) j) → Calls Tryz.prog g2 (#[.pointer (some ⟨gt, 0, none⟩)] ++ lb2) W fun e w' => e = .returned (.agg (lnA (wd fw))) ∧ Below W.heap.size W w') :
    Calls Tryz.prog 120 #[.int .i64 (n : Nat), .slice A m C, .func (.func g1) #[] lb1, .func (.func g2) #[] lb2] w (RetLE (firstS n fun k => fw k && !fr k).1 (firstS n fun k => fw k && !fr k).2 w) := by
  have kN := fun (W : World) => newTable_any A m n C W h2 h12 hm hC
  have Hz := Lib.hid hz
  have HT := Lib.hid hT
  have Hf := Lib.hid hf
  have Hp := Lib.hid hp
  have K1 := Lib.hid k1
  have K2 := Lib.hid k2
  have E2 := Lib.hid e2
  have hpl : p.length = m := by have := hz.1; rwa [cst_len] at this
  have hgA : 0 < m → ∀ b off, A = some ⟨b, off, none⟩ → b < w.heap.size := by
    intro h b off e
    obtain ⟨b', off', e', hl, _⟩ := hz.2 h
    rw [e] at e'; injection e' with e'; injection e' with e'; omega
  clear hz hT hf hp k1 k2 e2
  refine (callsIn_wide (n := 8)).1 ?_
  refine callsIn_of_wp_marks Tryz.func120 rfl trivial ?_ rfl
  simp only [Tryz.ntmps120, List.size_toArray, List.length_cons, List.length_nil, Nat.reduceAdd, Nat.reduceSub, Array.replicate_succ, Array.replicate_zero, List.push_toArray, List.append_toArray, List.nil_append, List.cons_append]
  gi_wp2_with fail
  refine ⟨trivial, (callsIn_wide.2 (kN _)).mono ?_⟩
  rintro _ w1 ⟨gt, gl, rfl, hTb, hgt, hgl, hb1⟩
  have HTb : Hid (Tb w1 gt gl A m n (WT n [])) := Lib.hid hTb
  clear hTb kN
  gi_wp2_with (simp only [e1])
  refine ⟨trivial, (callsIn_wide.2 (K1.out gt gl w1 hb1 HTb.out)).mono ?_⟩
  rintro _ w2 ⟨rfl, hb2⟩
  have HTb2 := Lib.hid (HTb.out.below hb2)
  have hbw2 : Below w.heap.size w w2 := hb1.trans (hb2.mono hb1.size)
  have hlt := HTb2.out.1.lt
  have hlt2 := HTb2.out.2.1.1
  have hw2 := hbw2.size
  clear HTb hb1 hb2 K1 e1
  gi_wp2_with fail
  obtain ⟨W2, hW2⟩ : ∃ W, w2.alloc (.cells (lnA (wd fr)) 176) = W := ⟨_, rfl⟩
  have L2 : Ln W2 w2.heap.size (wd fr) := by rw [← hW2]; exact ⟨_, heap_alloc_new w2 _⟩
  have T2 : Tb W2 gt gl A m n (WT n []) := by rw [← hW2]; exact HTb2.out.below (balloc (Below.refl _ _) _)
  have hbW2 : Below w.heap.size w W2 := by rw [← hW2]; exact balloc hbw2 _
  have hs2 : w2.heap.size < W2.heap.size := by rw [← hW2]; simp
  rw [hW2]
  clear hW2 HTb2 hbw2
  refine ⟨trivial, (callsIn_wide.2 (steps_any gt W2)).mono ?_⟩
  rintro _ w3 ⟨rfl, B3, hb3⟩
  have S3 : St3 w3 gt gl W2.heap.size A m n p (WT n []) := ⟨T2.below hb3, B3, Hz.out.below (hbW2.trans (hb3.mono hbW2.size))⟩
  have L3 := L2.below hb3
  have hb03 : Below w.heap.size w w3 := hbW2.trans (hb3.mono hbW2.size)
  have hne := T2.2.2
  have hs3 := B3.lt
  clear T2 L2 hbW2 hb3
  gi_wp2_with fail
  refine range_steps (by omega) W2.heap.size gt gl m n A p S3 Hp.out hm h12 (by omega) (fun h b off e => by have := hgA h b off e; omega) rfl rfl (fun _ => False) (fun _ h => h.elim)
    (fun _ W => Cs W gt #[.slice A m m, .int .i64 (n : Nat), .slice (some ⟨gl, 0, none⟩) n n] ∧ Ln W w2.heap.size (wd fr) ∧ Below w.heap.size w W) ?hI ⟨S3.tb.1, L3, hb03⟩
    (fun _ _ _ W => Cs W gt #[.slice A m m, .int .i64 (n : Nat), .slice (some ⟨gl, 0, none⟩) n n] ∧ Ln W w2.heap.size (wd fr) ∧ Below w.heap.size w W) ?hAx ?hassign ?hbody ?hdone
  case hI =>
    rintro k W W' ⟨h1, h2, h3⟩ ht
    exact ⟨h1.turns ht (by omega), h2.turns ht (by omega), Turns.below h3 ht (fun i hi => by have hi' := hi; omega) h3.size⟩
  case hAx =>
    rintro k y a' W W' ⟨h1, h2, h3⟩ ht
    exact ⟨h1.turns ht (by omega), h2.turns ht (by omega), Turns.below h3 ht (fun i hi => by have hi' := hi; omega) h3.size⟩
  case hassign =>
    intro l k y W K hy hi hW hK
    gi_wp2_with fail
    exact hK _ _ (Turns.refl _ _) hi
  case hbody =>
    rintro l k y a' W hy hi hW
    gi_wp2_with fail
    exact ⟨Turns.refl _ _, hi⟩
  case hdone =>
    rintro W hL ⟨hC, hLn, hbw⟩ hD
    have HTb : Hid (Tb W gt gl A m n (WT n p)) := Lib.hid ⟨hC, hL, hne⟩
    have HL := Lib.hid hLn
    have HD := Lib.hid hD
    have e2 := E2.out
    clear hC hL hLn hD L3 S3 B3
    gi_wp2_with (simp only [e2])
    refine ⟨trivial, (callsIn_wide.2 (K2.out gt gl W hbw HTb.out)).mono ?_⟩
    rintro _ w5 ⟨rfl, hb5⟩
    have HL5 := Lib.hid (HL.out.below hb5)
    have HC5 := Lib.hid (HTb.out.1.keep hb5)
    have HD5 := Lib.hid ((hb5.block w3.heap.size (Array.getElem?_eq_some_iff.1 HD.out).1).trans HD.out)
    have hbw5 : Below w.heap.size w w5 := hbw.trans (hb5.mono hbw.size)
    clear HTb HL HD hb5 hbw K2 E2 e2
    gi_wp2_with fail
    obtain ⟨W6, hW6⟩ : ∃ W, w5.alloc (.cells (lnA (wd fw)) 176) = W := ⟨_, rfl⟩
    have hw35 : w3.heap.size < w5.heap.size := (Array.getElem?_eq_some_iff.1 HD5.out).1
    have hb56 : Below w5.heap.size w5 W6 := by rw [← hW6]; exact blA
    have X2 : Ln W6 w5.heap.size (wd fw) := by rw [← hW6]; exact ⟨_, heap_alloc_new w5 _⟩
    have HX := Lib.hid (And.intro (HL5.out.below hb56) (And.intro (X2.congr (u := fun q => if q < 0 then anN (wd fw q) (wd fr q) else wd fw q) (fun q _ => by simp)) (And.intro (HC5.out.keep hb56) (And.intro ((hb56.block w3.heap.size hw35).trans HD5.out) (hbw5.trans (hb56.mono hbw5.size))))))
    rw [hW6]
    clear hW6 hb56 X2 HL5 HC5 HD5
    have hw05 := hbw5.size
    clear hbw5
    refine wpIn_wide.2 ?_
    go_loopw [29] (fun s29 wx => ∃ (j : Nat) (V : World), j ≤ 64 ∧ s29 = .int .i64 (j : Nat) ∧ Hid (V = wx) ∧ Hid (Ln V w2.heap.size (wd fr) ∧ Ln V w5.heap.size (fun q => if q < j then anN (wd fw q) (wd fr q) else wd fw q) ∧ Cs V gt #[.slice A m m, .int .i64 (n : Nat), .slice (some ⟨gl, 0, none⟩) n n] ∧ V.heap[w3.heap.size]? = some (.deferred (some [])) ∧ Below w.heap.size w V)) (fun s29 _ => 64 - (intOf s29).toNat)
    case atStart => exact ⟨0, _, by omega, rfl, Lib.hid rfl, HX⟩
    case round =>
      clear HX
      obtain ⟨j, V, hj, rfl, HVx, HX⟩ := hrel
      obtain rfl := HVx.out
      clear HVx
      by_cases hjl : j < 64
      · obtain ⟨X1, X2, X3, X4, hbV⟩ := HX.out
        have c1 := X1.cell hjl
        have c2 := X2.cell hjl
        have f2 := X2.frozen
        have l2 := X2.lt
        have l1 := X1.lt
        rw [if_neg (show ¬ j < j by omega)] at c2
        have hbits : bits .andNot .u64 ((wd fw j : Nat) : Int) ((wd fr j : Nat) : Int) = ((anN (wd fw j) (wd fr j) : Nat) : Int) := u64_andNot_nat _ _ (Bm.wd_lt _ _) (Bm.wd_lt _ _)
        obtain ⟨z, hz⟩ : ∃ z, anN (wd fw j) (wd fr j) = z := ⟨_, rfl⟩
        rw [hz] at hbits
        have n1 : ¬ w2.heap.size = w5.heap.size := by omega
        have n2 : ¬ w5.heap.size = w2.heap.size := by omega
        have HN : Hid (∀ U : World, U = V.drew.setCell ⟨w5.heap.size, j, none⟩ (.int .u64 ((z : Nat) : Int)) → Ln U w2.heap.size (wd fr) ∧ Ln U w5.heap.size (fun q => if q < j + 1 then anN (wd fw q) (wd fr q) else wd fw q) ∧ Cs U gt #[.slice A m m, .int .i64 (n : Nat), .slice (some ⟨gl, 0, none⟩) n n] ∧ U.heap[w3.heap.size]? = some (.deferred (some [])) ∧ Below w.heap.size w U) := Lib.hid (by
          rintro U rfl
          refine ⟨X1.other (p := ⟨w5.heap.size, j, none⟩) n1 _, (X2.set hjl z).congr (fun i hi => ?_), X3.other (p := ⟨w5.heap.size, j, none⟩) (by show gt ≠ w5.heap.size; omega) _, ?_, bset hbV.drew (p := ⟨w5.heap.size, j, none⟩) hw05 _⟩
          · show (if i = j then z else if i < j then anN (wd fw i) (wd fr i) else wd fw i) = if i < j + 1 then anN (wd fw i) (wd fr i) else wd fw i
            by_cases e : i = j
            · subst e; rw [if_pos rfl, if_pos (by omega), hz]
            · rw [if_neg e]
              by_cases e2 : i < j
              · rw [if_pos e2, if_pos (by omega)]
              · rw [if_neg e2, if_neg (by omega)]
          · exact ((Turns.setCell (O := fun i => i = w5.heap.size) (p := ⟨w5.heap.size, j, none⟩) _ rfl).block w3.heap.size (Array.getElem?_eq_some_iff.1 X4).1 (fun e => by have e' : w3.heap.size = w5.heap.size := e; omega)).trans X4)
        generalize wd fw j = x at *
        generalize wd fr j = y at *
        clear hz X1 X2 X3 X4 hbV HX
        go_wp2_with fail
        go_still_tail 8, (by kernel_rfl)
        go_wp2_with fail
        go_roundw
        case rel => exact ⟨j + 1, _, by omega, by go_num, Lib.hid rfl, Lib.hid (HN.out _ rfl)⟩
        case measure => simp [intOf]; omega
      · obtain rfl : j = 64 := by omega
        obtain ⟨X1, X2, X3, X4, hbV⟩ := HX.out
        obtain ⟨t3, X2⟩ := X2.congr (u := wd fun k => fw k && !fr k) (fun q hq => by rw [if_pos hq]; exact Bm.wd_anN _ _ _)
        have k1 := first_any gt gl m n A (fun k => fw k && !fr k) V X3 h2 h12 (fun k hk => by rw [Hf.out k hk]; rfl) (HT.out.below hbV HT.out.1)
        have HD := Lib.hid X4
        have hwV := hbV.size
        clear X1 X3 X4 HX HT
        go_wp2_with fail
        gi_wp2_with ((refine wpListIn_load_row rfl _ _ rfl w5.heap.size (by rfl) t3 _ (0, 0) _ X2 lineT_under rfl (by rw [lineT_size, lnA_size]) ?_))
        refine ⟨trivial, (callsIn_wide.2 k1).mono ?_⟩
        rintro _ w7 ⟨A', l, rfl, hI, hl, hb7⟩
        have hbw7 : Below w.heap.size w w7 := hbV.trans (hb7.mono hwV)
        have HD7 := Lib.hid ((hb7.block w3.heap.size (Array.getElem?_eq_some_iff.1 HD.out).1).trans HD.out)
        have T7 : Turns (fun i => i = w3.heap.size) w7 (w7.putObj w3.heap.size (.deferred none)) := Turns.putObj _ rfl
        rcases hfb : fstBad n (fun k => fw k && !fr k) with _ | q
        · have hfs : firstS n (fun k => fw k && !fr k) = ([], 5) := by unfold firstS; rw [hfb]
          rw [hfs] at hI
          clear k1 HD X2 hI hb7 hbV
          gi_wp2_with fail
          refine ⟨by simp, .inl ⟨_, _, rfl, run_takeDeferred HD7.out, ?_⟩⟩
          exact ⟨.tuple #[.slice none 0 0, .int .i64 5], by simp [results, Tryz.results120, go_sem], by rw [hfs]; exact RetLE.no (Turns.below hbw7 T7 (fun i k => by have k' : i = w3.heap.size := k; omega) hbw7.size) rfl⟩
        · have hfs : firstS n (fun k => fw k && !fr k) = (rowL n q, 0) := by unfold firstS; rw [hfb]
          rw [hfs] at hI
          clear k1 HD X2 hb7 hbV
          gi_wp2_with fail
          refine ⟨by simp, .inl ⟨_, _, rfl, run_takeDeferred HD7.out, ?_⟩⟩
          have HI7 : Ints (w7.putObj w3.heap.size (.deferred none)) A' l (rowL n q) := by
            refine Ints.turns hI T7 (fun b off hl e hb => ?_)
            obtain ⟨b', off', e', _, hc⟩ := hI.2 hl
            rw [e] at e'
            injection e' with e'
            injection e' with e1 e2
            have hc0 := hc 0 hl
            have hb' : b' = w3.heap.size := by rw [← e1]; exact hb
            rw [hb'] at hc0
            simp [World.cell?, HD7.out] at hc0
          exact ⟨.tuple #[.slice A' l l, .int .i64 0], by simp [results, Tryz.results120, go_sem], by rw [hfs]; exact ⟨A', l, l, rfl, HI7, ⟨hl, Nat.le_refl _⟩, Turns.below hbw7 T7 (fun i k => by have k' : i = w3.heap.size := k; omega) hbw7.size⟩⟩

end Go.Proofs.YtminplfgadhnnaaGreatDoor
end

/- Walks of package bench: Test, Merge. -/
section
namespace Go.Proofs.YtminplfgadhnnaaGreatDoor
open Go.RowKit Go.Shelf
set_option linter.unusedSimpArgs false
set_option linter.unusedVariables false
open Bm (wd tab tabP runB Pr OkP unord fstBad bfP)

@[local go_sem] theorem st_func {P : Program} {w : World} {a : Addr} {m : Mode} (fn : Fn) (first captured : Array Value) : (store a (.func fn first captured) m).run P w = stored P w a (.func fn first captured) m := run_store P w a _ m rfl

theorem badT_eq {n m : Nat} (hm : m ≤ n) (r : Nat → Bool) : unord n (fun i k => decide (m = n) || bfP m i k) r = badT n m r := by
  unfold badT
  by_cases e : m = n
  · rw [if_pos e]; simp [e]
  · rw [if_neg e]; simp [e]

set_option maxHeartbeats 4000000 in
theorem test_ok (A : Option Addr) (n c m C : Nat) (p : List Pr) (w : World) (hz : Prs w A c (cst p)) (hc : c ≤ 80) (hC : c ≤ C) (h2 : 2 ≤ n) (h12 : n ≤ 12) (hp : OkP n p) (hm1 : 1 ≤ m) (hm : m ≤ n) (hT : TabW w) :
    Calls Tryz.prog 71 #[.int .i64 (n : Nat), .slice A c C, .int .i64 (m : Nat)] w (RetLE (firstS n (fun k => badT n m (runB p (tab n k)))).1 (firstS n (fun k => badT n m (runB p (tab n k)))).2 w) := by
  have k1 := fun (W : World) (hb' : Below w.heap.size w W) => checkP_any (n : Int) A c C (cst p) W (hz.below hb') (by omega)
  rw [chk_of h2 h12 hp (by have := hz.1; rw [cst_len] at this; omega)] at k1
  have kj := fun (W : World) (gb gn gf : Nat) (hb' : Below w.heap.size w W) (Cb : Cs W gb #[.int .i64 (m : Nat)]) (Cn : Cs W gn #[.int .i64 (n : Nat)]) (Cf : Cs W gf #[.func (.func 119) #[] #[.pointer (some ⟨gb, 0, none⟩), .pointer (some ⟨gn, 0, none⟩)]]) =>
    judged_any n c C A p 121 122 #[] #[.pointer (some ⟨gf, 0, none⟩)] (fun _ => false) (unK (fun i k => decide (m = n) || bfP m i k) (tabP n p) n) W (hz.below hb') h2 h12 hc hC hp (hT.below hb' hT.1) (fun k hk => unK_far _ _ hk)
      (enters_of Tryz.func121 (by kernel_rfl) rfl) (enters_of Tryz.func122 (by kernel_rfl) rfl)
      (fun gt gl W' hW' hTb => by rw [wd_none]; exact test2_any _ W')
      (fun gt gl W' hW' hTb => test3_any gt gl c n gf A (tabP n p) 119 _ (fun i k => decide (m = n) || bfP m i k) W' hTb h12 (test1_any n m gb gn W' (Cb.keep hW') (Cn.keep hW')) (enters_of Tryz.func119 (by kernel_rfl) rfl) (Cf.keep hW'))
  rw [firstS_congr (g := fun k => badT n m (runB p (tab n k))) (fun k hk => by rw [unK_tab _ _ hk, badT_eq hm]; simp)] at kj
  have b1 : ¬ (m : Int) < 1 := by omega
  have b2 : ¬ (n : Int) < (m : Int) := by omega
  generalize firstS n (fun k => badT n m (runB p (tab n k))) = R at *
  clear hz hp hT
  go_enter Tryz.func71, Tryz.ntmps71
  go_wp2_with fail
  refine (k1 _ blA).mono ?_
  rintro _ w1 ⟨rfl, hb1⟩
  replace B3 : Cs w1 (w.heap.size) #[.int .i64 (n : Nat)] := Cs.keep csA hb1
  replace B5 : Cs w1 (w.heap.size + 1) #[.int .i64 (m : Nat)] := Cs.keep csA hb1
  replace hbw : Below w.heap.size w w1 := blA
  replace cB3 := B3.c
  replace fB3 := B3.f
  replace lB3 := B3.lt
  replace cB5 := B5.c
  replace fB5 := B5.f
  replace lB5 := B5.lt
  clear hb1
  clear k1
  go_wp2_with fail
  refine Calls.mono (kj _ (w.heap.size + 1) w.heap.size w1.heap.size ?x1 ?x2 ?x3 ?x4) ?_
  case x1 => exact blA
  case x2 => exact csA
  case x3 => exact csA
  case x4 => exact csA
  rintro _ w2 ⟨A', l, c', rfl, hI, hl, hb2⟩
  have hb := hbw.trans ((balloc' _ _ _ hbw.size).trans (hb2.mono (by have := hbw.size; simp; omega)))
  have HI := Lib.hid hI
  clear hI hb2 kj
  go_wp2_with fail
  go_ret2
  exact ⟨A', l, c', rfl, HI.out, hl, hb⟩

set_option maxHeartbeats 4000000 in
theorem test_any (l : Int) (A : Option Addr) (c C : Nat) (zs : List (Int × Int)) (best : Int) (w : World) (hz : Prs w A c zs) (hc : c ≤ 9223372036854775807) (hC : c ≤ C) (hT : TabW w) :
    Calls Tryz.prog 71 #[.int .i64 l, .slice A c C, .int .i64 best] w (RetLE (testE l zs best).1 (testE l zs best).2 w) := by
  have k1 := fun (W : World) (hb' : Below w.heap.size w W) => checkP_any l A c C zs W (hz.below hb') hc
  by_cases h0 : chkP l zs = 0
  · obtain ⟨n, p, rfl, h2, h12, rfl, hp, hl⟩ := chk_ok h0
    by_cases hb : best < 1 ∨ (n : Int) < best
    · have e : testE n (cst p) best = ([], 3) := by unfold testE; rw [if_neg (by simpa using h0), if_pos hb]
      rw [e]
      rw [h0] at k1
      clear e hz h0 hT
      by_cases b1 : best < 1
      · clear hb
        go_enter Tryz.func71, Tryz.ntmps71
        go_wp2_with fail
        refine (k1 _ blA).mono ?_
        rintro _ w1 ⟨rfl, hb1⟩
        replace B3 : Cs w1 (w.heap.size) #[.int .i64 (n : Nat)] := Cs.keep csA hb1
        replace B5 : Cs w1 (w.heap.size + 1) #[.int .i64 best] := Cs.keep csA hb1
        replace hbw : Below w.heap.size w w1 := blA
        replace cB3 := B3.c
        replace fB3 := B3.f
        replace lB3 := B3.lt
        replace cB5 := B5.c
        replace fB5 := B5.f
        replace lB5 := B5.lt
        clear hb1
        clear k1
        go_wp2_with fail
        go_ret2
        exact RetLE.no hbw rfl
      · have b2 : (n : Int) < best := by omega
        have b3 : decide (best < 1) = false := by simpa using b1
        clear hb
        go_enter Tryz.func71, Tryz.ntmps71
        go_wp2_with fail
        refine (k1 _ blA).mono ?_
        rintro _ w1 ⟨rfl, hb1⟩
        replace B3 : Cs w1 (w.heap.size) #[.int .i64 (n : Nat)] := Cs.keep csA hb1
        replace B5 : Cs w1 (w.heap.size + 1) #[.int .i64 best] := Cs.keep csA hb1
        replace hbw : Below w.heap.size w w1 := blA
        replace cB3 := B3.c
        replace fB3 := B3.f
        replace lB3 := B3.lt
        replace cB5 := B5.c
        replace fB5 := B5.f
        replace lB5 := B5.lt
        clear hb1
        clear k1
        go_wp2_with fail
        go_ret2
        exact RetLE.no hbw rfl
    · obtain ⟨m, rfl⟩ : ∃ m : Nat, best = (m : Int) := ⟨best.toNat, by omega⟩
      have e : testE n (cst p) m = firstS n (fun k => badT n m (runB p (tab n k))) := by
        unfold testE; rw [if_neg (by simpa using h0), if_neg hb, natP_cst, Int.toNat_natCast, Int.toNat_natCast]
      rw [e]
      exact test_ok A n c m C p w hz (by have := hz.1; rw [cst_len] at this; omega) hC h2 h12 hp (by omega) (by omega) hT
  · have e : testE l zs best = ([], chkP l zs) := by unfold testE; rw [if_pos h0]
    rw [e]
    generalize chkP l zs = q at *
    have x1 : (q != 0) = true := by simpa using h0
    have x2 : (q == 0) = false := by simpa using h0
    clear e hz hT
    go_enter Tryz.func71, Tryz.ntmps71
    go_wp2_with fail
    refine (k1 _ blA).mono ?_
    rintro _ w1 ⟨rfl, hb1⟩
    replace B3 : Cs w1 (w.heap.size) #[.int .i64 l] := Cs.keep csA hb1
    replace hbw : Below w.heap.size w w1 := blA
    replace cB3 := B3.c
    replace fB3 := B3.f
    replace lB3 := B3.lt
    clear hb1
    clear k1
    go_wp2_with fail
    go_ret2
    exact RetLE.no hbw rfl

set_option maxHeartbeats 4000000 in
theorem merge_ok (A : Option Addr) (n c f C : Nat) (p : List Pr) (w : World) (hz : Prs w A c (cst p)) (hc : c ≤ 80) (hC : c ≤ C) (h2 : 2 ≤ n) (h12 : n ≤ 12) (hp : OkP n p) (hf1 : 1 ≤ f) (hf : f < n) (hT : TabW w) :
    Calls Tryz.prog 72 #[.int .i64 (n : Nat), .slice A c C, .int .i64 (f : Nat)] w (RetLE (firstS n (badM n f p)).1 (firstS n (badM n f p)).2 w) := by
  have k1 := fun (W : World) (hb' : Below w.heap.size w W) => checkP_any (n : Int) A c C (cst p) W (hz.below hb') (by omega)
  rw [chk_of h2 h12 hp (by have := hz.1; rw [cst_len] at this; omega)] at k1
  have kj := fun (W : World) (gf g1 g2 : Nat) (hb' : Below w.heap.size w W) (Cf : Cs W gf #[.int .i64 (f : Nat)]) (C1 : Cs W g1 #[.func (.func 124) #[] #[.pointer (some ⟨gf, 0, none⟩)]]) (C2 : Cs W g2 #[.func (.func 125) #[] #[]]) =>
    judged_any n c C A p 126 127 #[.pointer (some ⟨g1, 0, none⟩)] #[.pointer (some ⟨g2, 0, none⟩)] (unK (ins f) (tabP n []) n) (unK (fun _ _ => true) (tabP n p) n) W (hz.below hb') h2 h12 hc hC hp (hT.below hb' hT.1) (fun k hk => unK_far _ _ hk)
      (enters_of Tryz.func126 (by kernel_rfl) rfl) (enters_of Tryz.func127 (by kernel_rfl) rfl)
      (fun gt gl W' hW' hTb => merge3_any gt gl c n g1 A (tabP n []) 124 _ (ins f) W' hTb h12 (merge1_any n f gf W' (Cf.keep hW')) (enters_of Tryz.func124 (by kernel_rfl) rfl) (C1.keep hW'))
      (fun gt gl W' hW' hTb => merge4_any gt gl c n g2 A (tabP n p) 125 _ (fun _ _ => true) W' hTb h12 (merge2_any n W') (enters_of Tryz.func125 (by kernel_rfl) rfl) (C2.keep hW'))
  rw [firstS_congr (g := badM n f p) (fun k hk => by rw [unK_tab _ _ hk, unK_tab _ _ hk]; unfold badM; rw [Bool.and_comm]; rfl)] at kj
  have b1 : ¬ (f : Int) < 1 := by omega
  have b2 : (f : Int) < (n : Int) := by omega
  generalize firstS n (badM n f p) = R at *
  clear hz hp hT
  go_enter Tryz.func72, Tryz.ntmps72
  go_wp2_with fail
  refine (k1 _ blA).mono ?_
  rintro _ w1 ⟨rfl, hb1⟩
  replace B5 : Cs w1 (w.heap.size) #[.int .i64 (f : Nat)] := Cs.keep csA hb1
  replace hbw : Below w.heap.size w w1 := blA
  replace cB5 := B5.c
  replace fB5 := B5.f
  replace lB5 := B5.lt
  clear hb1
  clear k1
  go_wp2_with fail
  refine Calls.mono (kj _ w.heap.size w1.heap.size (w1.heap.size + 1) ?x1 ?x2 ?x3 ?x4) ?_
  case x1 => exact blA
  case x2 => exact csA
  case x3 => exact csA
  case x4 => exact csA
  rintro _ w2 ⟨A', l, c', rfl, hI, hl, hb2⟩
  have hb := hbw.trans (((balloc' _ _ _ hbw.size).trans (balloc' _ _ _ (by have := hbw.size; simp; omega))).trans (hb2.mono (by have := hbw.size; simp; omega)))
  have HI := Lib.hid hI
  clear hI hb2 kj
  go_wp2_with fail
  go_ret2
  exact ⟨A', l, c', rfl, HI.out, hl, hb⟩

set_option maxHeartbeats 4000000 in
theorem merge_any (l : Int) (A : Option Addr) (c C : Nat) (zs : List (Int × Int)) (first : Int) (w : World) (hz : Prs w A c zs) (hc : c ≤ 9223372036854775807) (hC : c ≤ C) (hT : TabW w) :
    Calls Tryz.prog 72 #[.int .i64 l, .slice A c C, .int .i64 first] w (RetLE (mergeE l zs first).1 (mergeE l zs first).2 w) := by
  have k1 := fun (W : World) (hb' : Below w.heap.size w W) => checkP_any l A c C zs W (hz.below hb') hc
  by_cases h0 : chkP l zs = 0
  · obtain ⟨n, p, rfl, h2, h12, rfl, hp, hl⟩ := chk_ok h0
    by_cases hb : first < 1 ∨ (n : Int) - 1 < first
    · have e : mergeE n (cst p) first = ([], 3) := by unfold mergeE; rw [if_neg (by simpa using h0), if_pos hb]
      rw [e]
      rw [h0] at k1
      clear e hz h0 hT
      by_cases b1 : first < 1
      · clear hb
        go_enter Tryz.func72, Tryz.ntmps72
        go_wp2_with fail
        refine (k1 _ blA).mono ?_
        rintro _ w1 ⟨rfl, hb1⟩
        replace B5 : Cs w1 (w.heap.size) #[.int .i64 first] := Cs.keep csA hb1
        replace hbw : Below w.heap.size w w1 := blA
        replace cB5 := B5.c
        replace fB5 := B5.f
        replace lB5 := B5.lt
        clear hb1
        clear k1
        go_wp2_with fail
        go_ret2
        exact RetLE.no hbw rfl
      · have b2 : (n : Int) ≤ first := by omega
        have b3 : decide (first < 1) = false := by simpa using b1
        clear hb
        go_enter Tryz.func72, Tryz.ntmps72
        go_wp2_with fail
        refine (k1 _ blA).mono ?_
        rintro _ w1 ⟨rfl, hb1⟩
        replace B5 : Cs w1 (w.heap.size) #[.int .i64 first] := Cs.keep csA hb1
        replace hbw : Below w.heap.size w w1 := blA
        replace cB5 := B5.c
        replace fB5 := B5.f
        replace lB5 := B5.lt
        clear hb1
        clear k1
        go_wp2_with fail
        go_ret2
        exact RetLE.no hbw rfl
    · obtain ⟨m, rfl⟩ : ∃ m : Nat, first = (m : Int) := ⟨first.toNat, by omega⟩
      have e : mergeE n (cst p) m = firstS n (badM n m p) := by
        unfold mergeE; rw [if_neg (by simpa using h0), if_neg hb, natP_cst, Int.toNat_natCast, Int.toNat_natCast]
      rw [e]
      exact merge_ok A n c m C p w hz (by have := hz.1; rw [cst_len] at this; omega) hC h2 h12 hp (by omega) (by omega) hT
  · have e : mergeE l zs first = ([], chkP l zs) := by unfold mergeE; rw [if_pos h0]
    rw [e]
    generalize chkP l zs = q at *
    have x1 : (q != 0) = true := by simpa using h0
    have x2 : (q == 0) = false := by simpa using h0
    clear e hz hT
    go_enter Tryz.func72, Tryz.ntmps72
    go_wp2_with fail
    refine (k1 _ blA).mono ?_
    rintro _ w1 ⟨rfl, hb1⟩
    replace hbw : Below w.heap.size w w1 := blA
    clear hb1
    clear k1
    go_wp2_with fail
    go_ret2
    exact RetLE.no hbw rfl

end Go.Proofs.YtminplfgadhnnaaGreatDoor
end
