/- Walks of package eye: the region of a threshold. -/
import Derived.Test.YtcmllkjgggcghaaED4
import Derived.Test.YtcmllkjgggcghaaEB8
namespace Go.Proofs.Ytcmllkjgggcghaa
open Go.RowKit Go.Shelf
set_option linter.unusedSimpArgs false
set_option linter.unusedVariables false
attribute [local go_sem] Oper.semAt_some

/-- the first outcomes that are above a threshold -/
def regL (zs : List Pl) (n : Nat) (t : Int × Int) : Nat → List Int
  | 0 => []
  | k + 1 => if above (ocG zs n) (ocE zs n) t k then regL zs n t k ++ [(k : Int)] else regL zs n t k

theorem regL_le (zs : List Pl) (n : Nat) (t : Int × Int) : ∀ k, (regL zs n t k).length ≤ k
  | 0 => by simp [regL]
  | k + 1 => by
    have := regL_le zs n t k
    rw [regL]; split <;> simp <;> omega

theorem oc_bd {w : World} {zs : List Pl} {n N : Nat} (hl : zs.length = n) (hg : ∀ p ∈ zs, Good p) (hok : ∀ p ∈ zs, PlOk w p) (hn : n ≤ 6) (hN : N < manyT zs) : 0 ≤ ocG zs n N ∧ ocG zs n N ≤ 64000000 ∧ 0 ≤ ocE zs n N ∧ ocE zs n N ≤ 64000000 := by
  have hN' : N < mt (fun i => (plAt zs i).gn) n := by rw [mt_all hl]; exact hN
  obtain ⟨⟨h1, h2⟩, ⟨h3, h4⟩⟩ := odd_bd hg hok (digs_fit hl hg hN') n (by omega)
  have h5 := pow20 n (by omega)
  unfold ocG ocE
  omega

theorem Held.pos {B : Nat} {A : Option Addr} {n c : Nat} (h : Held B A n c) : (n = 0 ∧ A = none ∧ c = 0) ∨ (0 < n ∧ n ≤ c ∧ ∃ g, A = some ⟨g, 0, none⟩ ∧ B ≤ g) := h

theorem Ints.turns {w w' : World} {O : Nat → Prop} {A : Option Addr} {n : Nat} {zs : List Int} (h : Ints w A n zs) (ht : Turns O w w') (hO : ∀ b off, 0 < n → A = some ⟨b, off, none⟩ → ¬ O b) : Ints w' A n zs := by
  refine ⟨h.1, fun hn => ?_⟩
  obtain ⟨b, off, rfl, hlt, hc⟩ := h.2 hn
  exact ⟨b, off, rfl, Nat.lt_of_lt_of_le hlt ht.size, fun i hi => (World.cell?_of_block (w := w) (a := ⟨b, off + i, none⟩) (ht.block b hlt (hO b off hn rfl))).trans (hc i hi)⟩

set_option maxRecDepth 100000 in
set_option maxHeartbeats 1000000 in
theorem region_any (A : Option Addr) (n c m g : Nat) (zs : List Pl) (N D : Int) (w : World) (hz : Plates w A n zs) (hn : n ≤ 6) (hg : ∀ p ∈ zs, Good p) (hB : Cs w g #[.slice A n c, .int .i64 (m : Nat)])
    (hN0 : 0 ≤ N) (hN : N ≤ 1000000000) (hD0 : 0 ≤ D) (hD : D ≤ 1000000000) :
    Calls Try.prog 49 #[.pointer (some ⟨g, 0, none⟩), .func (.func 50) #[.agg #[.int .i64 N, .int .i64 D]] #[]] w (RetInts (regL zs n (N, D) (manyT zs)) w) := by
  have hM2 := many_le hz.1 hn hg
  have Hl := Lib.hid hz.1
  have Hb := Lib.hid (fun k hk => oc_bd (N := k) hz.1 hg hz.2.2 hn hk)
  have Hz := Lib.hid hz
  have Hg := Lib.hid hg
  have HB := Lib.hid hB
  have hglt := hB.lt
  unfold RetInts
  refine (callsIn_wide (n := 8)).1 ?_
  refine callsIn_of_wp_marks Try.func49 rfl trivial ?_ rfl
  simp only [Try.ntmps49, List.size_toArray, List.length_cons, List.length_nil, Nat.reduceAdd, Nat.reduceSub, Array.replicate_succ, Array.replicate_zero, List.push_toArray, List.append_toArray, List.nil_append, List.cons_append]
  clear hz hg hB
  gi_wp2_with fail
  refine ⟨trivial, (callsIn_wide.2 (outcomes_any g _)).mono ?_⟩
  rintro _ w1 ⟨Bs, rfl, hBs, cBs, hb1⟩
  have hbw : Below w.heap.size w w1 := (by repeat (first | with_reducible exact Below.refl _ _ | with_reducible assumption | with_reducible refine balloc ?_ _ | with_reducible refine bdrewN ?_ _ | with_reducible refine Below.drew ?_ | (with_reducible refine bset ?_ ?_ _; rotate_left; focus (first | assumption | omega | (simp; done) | (simp; omega))) | with_reducible refine bstep ?_ (by assumption) | assumption))
  have B1 : Cs w1 (w.heap.size + 1) #[.slice none 0 0] := Cs.keep (by repeat (first | with_reducible assumption | (with_reducible refine Cs.new _ _ _ _ ?_; first | rfl | (simp; done)) | with_reducible refine Cs.alloc ?_ _ | with_reducible refine Cs.drewN ?_ _ | with_reducible refine Cs.drew ?_ | with_reducible refine Cs.set4 ?_ _ _ _ _ | (with_reducible refine Cs.other4 ?_ ?_ _ _ _ _; rotate_left; focus (first | assumption | omega | (simp; done) | (simp; omega))) | with_reducible refine Cs.set2 ?_ _ _ | (with_reducible refine Cs.other2 ?_ ?_ _ _; rotate_left; focus (first | assumption | omega | (simp; done) | (simp; omega))) | (with_reducible refine Cs.other ?_ ?_ _; rotate_left; focus (first | assumption | omega | (simp; done) | (simp; omega))) | with_reducible refine Cs.keep ?_ (by assumption) | assumption)) hb1
  have Bf : Cs w1 w.heap.size #[.func (.func 50) #[.agg #[.int .i64 N, .int .i64 D]] #[]] := Cs.keep (by repeat (first | with_reducible assumption | (with_reducible refine Cs.new _ _ _ _ ?_; first | rfl | (simp; done)) | with_reducible refine Cs.alloc ?_ _ | with_reducible refine Cs.drewN ?_ _ | with_reducible refine Cs.drew ?_ | with_reducible refine Cs.set4 ?_ _ _ _ _ | (with_reducible refine Cs.other4 ?_ ?_ _ _ _ _; rotate_left; focus (first | assumption | omega | (simp; done) | (simp; omega))) | with_reducible refine Cs.set2 ?_ _ _ | (with_reducible refine Cs.other2 ?_ ?_ _ _; rotate_left; focus (first | assumption | omega | (simp; done) | (simp; omega))) | (with_reducible refine Cs.other ?_ ?_ _; rotate_left; focus (first | assumption | omega | (simp; done) | (simp; omega))) | with_reducible refine Cs.keep ?_ (by assumption) | assumption)) hb1
  have Bg : Cs w1 g #[.slice A n c, .int .i64 (m : Nat)] := HB.out.keep hbw
  have hBs2 : w.heap.size + 2 ≤ Bs := by simpa using hBs
  clear hb1 hBs
  gi_wp2_with fail
  obtain ⟨I, hId⟩ : ∃ I : Nat → World → Prop, I = fun k W => ∃ A' len cc, Cs W (w.heap.size + 1) #[.slice A' len cc] ∧ Ints W A' len (regL zs n (N, D) k) ∧ Held (w1.heap.size + 3) A' len cc ∧ Cs W w.heap.size #[.func (.func 50) #[.agg #[.int .i64 N, .int .i64 D]] #[]] ∧ Below w.heap.size w W := ⟨_, rfl⟩
  have hs1 : w.heap.size ≤ w1.heap.size := hbw.size
  have hBs1 : Bs < w1.heap.size := World.block_lt_of_cell? w1 _ cBs
  have hI : ∀ k W W', I k W → Turns (fun i => i = w1.heap.size + 1 ∨ i = w1.heap.size + 2) W W' → I k W' := by
    intro k W W' h ht
    rw [hId] at h ⊢
    obtain ⟨A', len, cc, h1, h2, h3, h4, h5⟩ := h
    refine ⟨A', len, cc, h1.turns ht (by omega), h2.turns ht (fun b off hp e => ?_), h3, h4.turns ht (by omega), Turns.below h5 ht (fun i hi => by have hi' := hi; omega) (by have := h5.size; omega)⟩
    rcases h3 with ⟨h, _⟩ | ⟨_, _, g', e', hg'⟩
    · omega
    · rw [e] at e'
      injection e' with e'
      injection e' with e'
      omega
  refine range_outcomes (by omega) Bs g n c m w.heap.size A zs w Hz.out hn Hg.out hbw rfl cBs Bg rfl rfl (fun i => i = w.heap.size + 1) (fun i hi => by have hi' : i = w.heap.size + 1 := hi; have hlt1 := B1.lt; omega)
    I hI (fun _ _ _ => False) (fun _ _ _ _ h _ => h.elim) (by rw [hId]; exact ⟨none, 0, 0, B1, Ints.nil _ _, .inl ⟨rfl, rfl, rfl⟩, Bf, hbw⟩)
    (fun k a' W => ∃ b4, w1.heap.size + 3 ≤ b4 ∧ Cs W b4 #[.int .i64 (ocG zs n k), .int .i64 (ocE zs n k)] ∧ I k W ∧ a' = { tmps := #[.pointer (some ⟨g, 0, none⟩), .func (.func 50) #[.agg #[.int .i64 N, .int .i64 D]] #[], undef, .pointer (some ⟨w.heap.size, 0, none⟩), .slice none 0 0, .pointer (some ⟨w.heap.size + 1, 0, none⟩), .int .i64 (k : Nat), .pointer (some ⟨b4, 0, none⟩), .pointer (some ⟨g, 0, none⟩), .func (.func 76) #[] #[.pointer (some ⟨Bs, 0, none⟩)], .int .i64 (k : Nat), .agg #[.int .i64 (ocG zs n k), .int .i64 (ocE zs n k)], undef, undef, undef, undef, undef, undef, undef, undef, undef, undef, undef, undef, undef, undef], defers := [] }) ?hax ?assign ?body ?done ?stop
  case hax =>
    rintro k a' W W' ⟨b4, h4, B4, hi, rfl⟩ ht
    exact ⟨b4, h4, B4.turns ht (fun e => by have e' : b4 = w1.heap.size + 1 := e; omega), hI _ _ _ hi (ht.mono fun i hi => .inl hi), rfl⟩
  case assign =>
    intro l k W K hkM hi hW hK
    unfold encO
    gi_wp2_with fail
    have T : Turns (fun _ => False) W (W.alloc (.cells #[.int .i64 (ocG zs n k), .int .i64 (ocE zs n k)] 59)) := Turns.of_below (balloc (Below.refl _ _) _)
    exact hK _ _ T ⟨W.heap.size, hW, Cs.new _ _ _ _ rfl, hI _ _ _ hi (T.mono fun _ h => h.elim), rfl⟩
  case body =>
    rintro l k a' W hkM ⟨b4, h4, B4, hi, rfl⟩ hW
    rw [hId] at hi
    obtain ⟨A', len, cc, h1, h2, h3, hF, h5⟩ := hi
    obtain ⟨q1, q2, q3, q4⟩ := Hb.out k hkM
    have ko := fun W' => over_any N D (ocG zs n k) (ocE zs n k) W' hN0 hN hD0 hD q1 q2 q3 q4
    have hlen : len ≤ 4096 := by have := regL_le zs n (N, D) k; have := h2.1; omega
    have hab : above (ocG zs n) (ocE zs n) (N, D) k = decide (0 < ocE zs n k * D - ocG zs n k * N) := rfl
    have Hst : Hid (regL zs n (N, D) (k + 1) = if 0 < ocE zs n k * D - ocG zs n k * N then regL zs n (N, D) k ++ [(k : Int)] else regL zs n (N, D) k) := Lib.hid (by rw [regL, hab]; simp)
    have HI : Hid (∀ A2 len2 cc2 W2, Cs W2 (w.heap.size + 1) #[.slice A2 len2 cc2] → Ints W2 A2 len2 (regL zs n (N, D) (k + 1)) → Held (w1.heap.size + 3) A2 len2 cc2 → Cs W2 w.heap.size #[.func (.func 50) #[.agg #[.int .i64 N, .int .i64 D]] #[]] → Below w.heap.size w W2 → I (k + 1) W2) :=
      Lib.hid fun A2 len2 cc2 W2 a1 a2 a3 a4 a5 => by rw [hId]; exact ⟨A2, len2, cc2, a1, a2, a3, a4, a5⟩
    have HI2 := Lib.hid hI
    have Hdef := Lib.hid hId
    generalize ocG zs n k = oG at *
    generalize ocE zs n k = oE at *
    clear hab hI hId q1 q2 q3 q4 Bg B1 Bf
    have cB4 := B4.c
    have fB4 := B4.f
    have lB4 := B4.lt
    have ch1 := h1.c
    have fh1 := h1.f
    have lh1 := h1.lt
    have chF := hF.c
    have fhF := hF.f
    have lhF := hF.lt
    gi_wp2_with fail
    refine ⟨trivial, (CallsIn.inRound l (callsIn_wide.2 (ko W))).mono ?_⟩
    rintro _ w4 ⟨rfl, hb4⟩
    clear cB4 fB4 lB4 ch1 fh1 lh1 chF fhF lhF
    have C1 : Cs w4 (w.heap.size + 1) #[.slice A' len cc] := h1.keep hb4
    have CF : Cs w4 w.heap.size #[.func (.func 50) #[.agg #[.int .i64 N, .int .i64 D]] #[]] := hF.keep hb4
    have C2 : Ints w4 A' len (regL zs n (N, D) k) := h2.below hb4
    have C5 : Below w.heap.size w w4 := h5.trans (hb4.mono h5.size)
    have T4 : Turns (fun i => i = w.heap.size + 1) W w4 := Turns.of_below hb4
    have hs4 : W.heap.size ≤ w4.heap.size := hb4.size
    clear ko hb4 B4 h1 h2 hF h5
    by_cases hp : 0 < oE * D - oG * N
    · have Hst2 : Hid (regL zs n (N, D) (k + 1) = regL zs n (N, D) k ++ [(k : Int)]) := Lib.hid (by rw [Hst.out, if_pos hp])
      generalize regL zs n (N, D) k = L at *
      clear Hst
      have Hh := Lib.hid h3
      rcases Hh.out with ⟨rfl, rfl, rfl⟩ | ⟨hl0, hlc, g', rfl, hg'⟩
      · have hll := C2.1
        have cC1 := C1.c
        have fC1 := C1.f
        have lC1 := C1.lt
        gi_wp2_with (gi_at_builtin; refine clip_in rfl _ _ rfl (w1.heap.size + 3) (none) 0 0 L (by rfl) (C2.alloc _) h3 w4.heap.size (k : Nat) (by rfl) (by simp) (by omega) (w4.heap.size + 1) (by simp) (by omega) ?_; intro c' w6 hz6 hh6 hb6 hlt6; have C6 : Cs w6 (w.heap.size + 1) #[.slice (none) 0 0] := (C1.alloc _).keep hb6; have c6 := C6.c; have f6 := C6.f; have l6 := C6.lt)
        clear c6 f6 l6 cC1 fC1 lC1
        have CF6 : Cs w6 w.heap.size #[.func (.func 50) #[.agg #[.int .i64 N, .int .i64 D]] #[]] := (CF.alloc _).keep hb6
        have T7 : Turns (fun i => i = w.heap.size + 1) w6 (w6.setCell ⟨w.heap.size + 1, 0, none⟩ (.slice (some ⟨w4.heap.size + 1, 0, none⟩) (0 + 1) c')) := Turns.setCell _ rfl
        refine ⟨((T4.trans (Turns.of_below (balloc (Below.refl _ _) _))).trans (Turns.of_below hb6)).trans T7, HI.out _ _ _ _ (C6.set 0 _ (by simp)) ?_ hh6 (CF6.turns T7 (fun e => by have e' : w.heap.size = w.heap.size + 1 := e; omega)) (Turns.below ((balloc C5 _).trans (hb6.mono (by have := C5.size; simp; omega))) T7 (fun i e => by have e' : i = w.heap.size + 1 := e; omega) (by have := C5.size; omega))⟩
        rw [Hst2.out]
        exact hz6.turns T7 (fun b off _ e ho => by injection e with e; injection e with e; have ho' : b = w.heap.size + 1 := ho; omega)
      · have i0 : (0 : Int) ≤ (len : Int) := by omega
        have i1 : (len : Int) ≤ (cc : Int) := by omega
        have cC1 := C1.c
        have fC1 := C1.f
        have lC1 := C1.lt
        gi_wp2_with (gi_at_builtin; refine clip_in rfl _ _ rfl (w1.heap.size + 3) (some ⟨g', 0, none⟩) len cc L (by rfl) (C2.alloc _) h3 w4.heap.size (k : Nat) (by rfl) (by simp) (by omega) (w4.heap.size + 1) (by simp) (by omega) ?_; intro c' w6 hz6 hh6 hb6 hlt6; have C6 : Cs w6 (w.heap.size + 1) #[.slice (some ⟨g', 0, none⟩) len cc] := (C1.alloc _).keep hb6; have c6 := C6.c; have f6 := C6.f; have l6 := C6.lt)
        clear c6 f6 l6 cC1 fC1 lC1
        have CF6 : Cs w6 w.heap.size #[.func (.func 50) #[.agg #[.int .i64 N, .int .i64 D]] #[]] := (CF.alloc _).keep hb6
        have T7 : Turns (fun i => i = w.heap.size + 1) w6 (w6.setCell ⟨w.heap.size + 1, 0, none⟩ (.slice (some ⟨w4.heap.size + 1, 0, none⟩) (len + 1) c')) := Turns.setCell _ rfl
        refine ⟨((T4.trans (Turns.of_below (balloc (Below.refl _ _) _))).trans (Turns.of_below hb6)).trans T7, HI.out _ _ _ _ (C6.set 0 _ (by simp)) ?_ hh6 (CF6.turns T7 (fun e => by have e' : w.heap.size = w.heap.size + 1 := e; omega)) (Turns.below ((balloc C5 _).trans (hb6.mono (by have := C5.size; simp; omega))) T7 (fun i e => by have e' : i = w.heap.size + 1 := e; omega) (by have := C5.size; omega))⟩
        rw [Hst2.out]
        exact hz6.turns T7 (fun b off _ e ho => by injection e with e; injection e with e; have ho' : b = w.heap.size + 1 := ho; omega)
    · have Hst2 : Hid (regL zs n (N, D) (k + 1) = regL zs n (N, D) k) := Lib.hid (by rw [Hst.out, if_neg hp])
      have hend := HI.out A' len cc w4 C1 (by rw [Hst2.out]; exact C2) h3 CF C5
      clear Hst HI C1 CF C2 C5
      gi_wp2_with fail
      exact ⟨T4, hend⟩
  case done =>
    intro W hi hD
    rw [hId] at hi
    obtain ⟨A', len, cc, h1, h2, h3, hF, h5⟩ := hi
    clear hId hI
    have HD := Lib.hid hD
    have hlt1 := h1.lt
    clear hD
    have ch1 := h1.c
    have fh1 := h1.f
    have lh1 := h1.lt
    gi_wp2_with fail
    have T7 : Turns (fun i => i = w1.heap.size) W (W.putObj w1.heap.size (.deferred none)) := Turns.putObj _ rfl
    have h27 : Ints (W.putObj w1.heap.size (.deferred none)) A' len (regL zs n (N, D) (manyT zs)) := h2.turns T7 (fun b off hp e ho => by
      have ho' : b = w1.heap.size := ho
      rcases h3 with ⟨h, _⟩ | ⟨_, _, g', e', hg'⟩
      · omega
      · rw [e] at e'
        injection e' with e'
        injection e' with e'
        omega)
    have h57 := Turns.below h5 T7 (fun i k => by have k' : i = w1.heap.size := k; omega) (by have := h5.size; omega)
    refine ⟨by simp, .inl ⟨_, _, rfl, run_takeDeferred HD.out, ?_⟩⟩
    exact ⟨.slice A' len cc, by simp [results, Try.results49, go_sem], ⟨A', len, cc, rfl, h27, h57, fun b off hp e => by
      rcases h3 with ⟨h, _⟩ | ⟨_, _, g', e', hg'⟩
      · omega
      · rw [e] at e'
        injection e' with e'
        injection e' with e'
        omega⟩⟩
  case stop => intro c k W _ h; exact h.elim

end Go.Proofs.Ytcmllkjgggcghaa
