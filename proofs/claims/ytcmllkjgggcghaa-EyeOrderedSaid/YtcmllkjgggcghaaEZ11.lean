/- ED5 ED6 ED7 -/
import Derived.Test.YtcmllkjgggcghaaEZ10
import Derived.Test.YtcmllkjgggcghaaEZ07
import Derived.Maps.RangeWalk
import Derived.Maps.OwnSet
import Derived.Maps.OwnOps
import Derived.Maps.OwnIn
import Derived.DeepKeys4
import Derived.WideKeyEntry
import Derived.Laws.IdiomRangeMap
/- Walks of package eye: the region of a threshold. -/
section
namespace Go.Proofs.Ytcmllkjgggcghaa
open Go.RowKit Go.Shelf
set_option linter.unusedSimpArgs false
set_option linter.unusedVariables false
attribute [local go_sem] Oper.semAt_some

/-- the first outcomes that are above a threshold -/
def regL (zs : List Pl) (n : Nat) (t : Int × Int) : Nat → List Int
  | 0 => []
  | k + 1 => if above (ocG zs n) (ocE zs n) t k then regL zs n t k ++ [(k : Int)] else regL zs n t k

theorem regL_le (zs : List Pl) (n : Nat) (t : Int × Int) : ∀ k, (regL zs n t k).length ≤ k
  | 0 => by simp [regL]
  | k + 1 => by
    have := regL_le zs n t k
    rw [regL]; split <;> simp <;> omega

theorem oc_bd {w : World} {zs : List Pl} {n N : Nat} (hl : zs.length = n) (hg : ∀ p ∈ zs, Good p) (hok : ∀ p ∈ zs, PlOk w p) (hn : n ≤ 6) (hN : N < manyT zs) : 0 ≤ ocG zs n N ∧ ocG zs n N ≤ 64000000 ∧ 0 ≤ ocE zs n N ∧ ocE zs n N ≤ 64000000 := by
  have hN' : N < mt (fun i => (plAt zs i).gn) n := by rw [mt_all hl]; exact hN
  obtain ⟨⟨h1, h2⟩, ⟨h3, h4⟩⟩ := odd_bd hg hok (digs_fit hl hg hN') n (by omega)
  have h5 := pow20 n (by omega)
  unfold ocG ocE
  omega

theorem Held.pos {B : Nat} {A : Option Addr} {n c : Nat} (h : Held B A n c) : (n = 0 ∧ A = none ∧ c = 0) ∨ (0 < n ∧ n ≤ c ∧ ∃ g, A = some ⟨g, 0, none⟩ ∧ B ≤ g) := h

theorem Ints.turns {w w' : World} {O : Nat → Prop} {A : Option Addr} {n : Nat} {zs : List Int} (h : Ints w A n zs) (ht : Turns O w w') (hO : ∀ b off, 0 < n → A = some ⟨b, off, none⟩ → ¬ O b) : Ints w' A n zs := by
  refine ⟨h.1, fun hn => ?_⟩
  obtain ⟨b, off, rfl, hlt, hc⟩ := h.2 hn
  exact ⟨b, off, rfl, Nat.lt_of_lt_of_le hlt ht.size, fun i hi => (World.cell?_of_block (w := w) (a := ⟨b, off + i, none⟩) (ht.block b hlt (hO b off hn rfl))).trans (hc i hi)⟩

set_option maxRecDepth 100000 in
set_option maxHeartbeats 1000000 in
theorem region_cap (A : Option Addr) (n c m g : Nat) (zs : List Pl) (N D : Int) (w : World) (hz : Plates w A n zs) (hn : n ≤ 6) (hg : ∀ p ∈ zs, Good p) (hB : Cs w g #[.slice A n c, .int .i64 (m : Nat)])
    (hN0 : 0 ≤ N) (hN : N ≤ 1000000000) (hD0 : 0 ≤ D) (hD : D ≤ 1000000000) :
    Calls Try.prog 49 #[.pointer (some ⟨g, 0, none⟩), .func (.func 50) #[.agg #[.int .i64 N, .int .i64 D]] #[]] w (RetIntsC (regL zs n (N, D) (manyT zs)) w) := by
  have hM2 := many_le hz.1 hn hg
  have Hl := Lib.hid hz.1
  have Hb := Lib.hid (fun k hk => oc_bd (N := k) hz.1 hg hz.2.2 hn hk)
  have Hz := Lib.hid hz
  have Hg := Lib.hid hg
  have HB := Lib.hid hB
  have hglt := hB.lt
  unfold RetIntsC
  refine (callsIn_wide (n := 8)).1 ?_
  refine callsIn_of_wp_marks Try.func49 rfl trivial ?_ rfl
  simp only [Try.ntmps49, List.size_toArray, List.length_cons, List.length_nil, Nat.reduceAdd, Nat.reduceSub, Array.replicate_succ, Array.replicate_zero, List.push_toArray, List.append_toArray, List.nil_append, List.cons_append]
  clear hz hg hB
  gi_wp2_with fail
  refine ⟨trivial, (callsIn_wide.2 (outcomes_any g _)).mono ?_⟩
  rintro _ w1 ⟨Bs, rfl, hBs, cBs, hb1⟩
  have hbw : Below w.heap.size w w1 := blA
  have B1 : Cs w1 (w.heap.size + 1) #[.slice none 0 0] := Cs.keep csA hb1
  have Bf : Cs w1 w.heap.size #[.func (.func 50) #[.agg #[.int .i64 N, .int .i64 D]] #[]] := Cs.keep csA hb1
  have Bg : Cs w1 g #[.slice A n c, .int .i64 (m : Nat)] := HB.out.keep hbw
  have hBs2 : w.heap.size + 2 ≤ Bs := by simpa using hBs
  clear hb1 hBs
  gi_wp2_with fail
  obtain ⟨I, hId⟩ : ∃ I : Nat → World → Prop, I = fun k W => ∃ A' len cc, Cs W (w.heap.size + 1) #[.slice A' len cc] ∧ Ints W A' len (regL zs n (N, D) k) ∧ Held (w1.heap.size + 3) A' len cc ∧ Cs W w.heap.size #[.func (.func 50) #[.agg #[.int .i64 N, .int .i64 D]] #[]] ∧ Below w.heap.size w W := ⟨_, rfl⟩
  have hs1 : w.heap.size ≤ w1.heap.size := hbw.size
  have hBs1 : Bs < w1.heap.size := World.block_lt_of_cell? w1 _ cBs
  have hI : ∀ k W W', I k W → Turns (fun i => i = w1.heap.size + 1 ∨ i = w1.heap.size + 2) W W' → I k W' := by
    intro k W W' h ht
    rw [hId] at h ⊢
    obtain ⟨A', len, cc, h1, h2, h3, h4, h5⟩ := h
    refine ⟨A', len, cc, h1.turns ht (by omega), h2.turns ht (fun b off hp e => ?_), h3, h4.turns ht (by omega), Turns.below h5 ht (fun i hi => by have hi' := hi; omega) (by have := h5.size; omega)⟩
    rcases h3 with ⟨h, _⟩ | ⟨_, _, g', e', hg'⟩
    · omega
    · rw [e] at e'
      injection e' with e'
      injection e' with e'
      omega
  refine range_outcomes (by omega) Bs g n c m w.heap.size A zs w Hz.out hn Hg.out hbw rfl cBs Bg rfl rfl (fun i => i = w.heap.size + 1) (fun i hi => by have hi' : i = w.heap.size + 1 := hi; have hlt1 := B1.lt; omega)
    I hI (fun _ _ _ => False) (fun _ _ _ _ h _ => h.elim) (by rw [hId]; exact ⟨none, 0, 0, B1, Ints.nil _ _, .inl ⟨rfl, rfl, rfl⟩, Bf, hbw⟩)
    (fun k a' W => ∃ b4, w1.heap.size + 3 ≤ b4 ∧ Cs W b4 #[.int .i64 (ocG zs n k), .int .i64 (ocE zs n k)] ∧ I k W ∧ a' = { tmps := #[.pointer (some ⟨g, 0, none⟩), .func (.func 50) #[.agg #[.int .i64 N, .int .i64 D]] #[], undef, .pointer (some ⟨w.heap.size, 0, none⟩), .slice none 0 0, .pointer (some ⟨w.heap.size + 1, 0, none⟩), .int .i64 (k : Nat), .pointer (some ⟨b4, 0, none⟩), .pointer (some ⟨g, 0, none⟩), .func (.func 76) #[] #[.pointer (some ⟨Bs, 0, none⟩)], .int .i64 (k : Nat), .agg #[.int .i64 (ocG zs n k), .int .i64 (ocE zs n k)], undef, undef, undef, undef, undef, undef, undef, undef, undef, undef, undef, undef, undef, undef], defers := [] }) ?hax ?assign ?body ?done ?stop
  case hax =>
    rintro k a' W W' ⟨b4, h4, B4, hi, rfl⟩ ht
    exact ⟨b4, h4, B4.turns ht (fun e => by have e' : b4 = w1.heap.size + 1 := e; omega), hI _ _ _ hi (ht.mono fun i hi => .inl hi), rfl⟩
  case assign =>
    intro l k W K hkM hi hW hK
    unfold encO
    gi_wp2_with fail
    have T : Turns (fun _ => False) W (W.alloc (.cells #[.int .i64 (ocG zs n k), .int .i64 (ocE zs n k)] 59)) := Turns.of_below (balloc (Below.refl _ _) _)
    exact hK _ _ T ⟨W.heap.size, hW, Cs.new _ _ _ _ rfl, hI _ _ _ hi (T.mono fun _ h => h.elim), rfl⟩
  case body =>
    rintro l k a' W hkM ⟨b4, h4, B4, hi, rfl⟩ hW
    rw [hId] at hi
    obtain ⟨A', len, cc, h1, h2, h3, hF, h5⟩ := hi
    obtain ⟨q1, q2, q3, q4⟩ := Hb.out k hkM
    have ko := fun W' => over_any N D (ocG zs n k) (ocE zs n k) W' hN0 hN hD0 hD q1 q2 q3 q4
    have hlen : len ≤ 4096 := by have := regL_le zs n (N, D) k; have := h2.1; omega
    have hab : above (ocG zs n) (ocE zs n) (N, D) k = decide (0 < ocE zs n k * D - ocG zs n k * N) := rfl
    have Hst : Hid (regL zs n (N, D) (k + 1) = if 0 < ocE zs n k * D - ocG zs n k * N then regL zs n (N, D) k ++ [(k : Int)] else regL zs n (N, D) k) := Lib.hid (by rw [regL, hab]; simp)
    have HI : Hid (∀ A2 len2 cc2 W2, Cs W2 (w.heap.size + 1) #[.slice A2 len2 cc2] → Ints W2 A2 len2 (regL zs n (N, D) (k + 1)) → Held (w1.heap.size + 3) A2 len2 cc2 → Cs W2 w.heap.size #[.func (.func 50) #[.agg #[.int .i64 N, .int .i64 D]] #[]] → Below w.heap.size w W2 → I (k + 1) W2) :=
      Lib.hid fun A2 len2 cc2 W2 a1 a2 a3 a4 a5 => by rw [hId]; exact ⟨A2, len2, cc2, a1, a2, a3, a4, a5⟩
    have HI2 := Lib.hid hI
    have Hdef := Lib.hid hId
    generalize ocG zs n k = oG at *
    generalize ocE zs n k = oE at *
    clear hab hI hId q1 q2 q3 q4 Bg B1 Bf
    have cB4 := B4.c
    have fB4 := B4.f
    have lB4 := B4.lt
    have ch1 := h1.c
    have fh1 := h1.f
    have lh1 := h1.lt
    have chF := hF.c
    have fhF := hF.f
    have lhF := hF.lt
    gi_wp2_with fail
    refine ⟨trivial, (CallsIn.inRound l (callsIn_wide.2 (ko W))).mono ?_⟩
    rintro _ w4 ⟨rfl, hb4⟩
    clear cB4 fB4 lB4 ch1 fh1 lh1 chF fhF lhF
    have C1 : Cs w4 (w.heap.size + 1) #[.slice A' len cc] := h1.keep hb4
    have CF : Cs w4 w.heap.size #[.func (.func 50) #[.agg #[.int .i64 N, .int .i64 D]] #[]] := hF.keep hb4
    have C2 : Ints w4 A' len (regL zs n (N, D) k) := h2.below hb4
    have C5 : Below w.heap.size w w4 := h5.trans (hb4.mono h5.size)
    have T4 : Turns (fun i => i = w.heap.size + 1) W w4 := Turns.of_below hb4
    have hs4 : W.heap.size ≤ w4.heap.size := hb4.size
    clear ko hb4 B4 h1 h2 hF h5
    by_cases hp : 0 < oE * D - oG * N
    · have Hst2 : Hid (regL zs n (N, D) (k + 1) = regL zs n (N, D) k ++ [(k : Int)]) := Lib.hid (by rw [Hst.out, if_pos hp])
      generalize regL zs n (N, D) k = L at *
      clear Hst
      have Hh := Lib.hid h3
      rcases Hh.out with ⟨rfl, rfl, rfl⟩ | ⟨hl0, hlc, g', rfl, hg'⟩
      · have hll := C2.1
        have cC1 := C1.c
        have fC1 := C1.f
        have lC1 := C1.lt
        gi_wp2_with (gi_at_builtin; refine clip_in rfl _ _ rfl (w1.heap.size + 3) (none) 0 0 L (by rfl) (C2.alloc _) h3 w4.heap.size (k : Nat) (by rfl) (by simp) (by omega) (w4.heap.size + 1) (by simp) (by omega) ?_; intro c' w6 hz6 hh6 hb6 hlt6; have C6 : Cs w6 (w.heap.size + 1) #[.slice (none) 0 0] := (C1.alloc _).keep hb6; have c6 := C6.c; have f6 := C6.f; have l6 := C6.lt)
        clear c6 f6 l6 cC1 fC1 lC1
        have CF6 : Cs w6 w.heap.size #[.func (.func 50) #[.agg #[.int .i64 N, .int .i64 D]] #[]] := (CF.alloc _).keep hb6
        have T7 : Turns (fun i => i = w.heap.size + 1) w6 (w6.setCell ⟨w.heap.size + 1, 0, none⟩ (.slice (some ⟨w4.heap.size + 1, 0, none⟩) (0 + 1) c')) := Turns.setCell _ rfl
        refine ⟨((T4.trans (Turns.of_below (balloc (Below.refl _ _) _))).trans (Turns.of_below hb6)).trans T7, HI.out _ _ _ _ (C6.set 0 _ (by simp)) ?_ hh6 (CF6.turns T7 (fun e => by have e' : w.heap.size = w.heap.size + 1 := e; omega)) (Turns.below ((balloc C5 _).trans (hb6.mono (by have := C5.size; simp; omega))) T7 (fun i e => by have e' : i = w.heap.size + 1 := e; omega) (by have := C5.size; omega))⟩
        rw [Hst2.out]
        exact hz6.turns T7 (fun b off _ e ho => by injection e with e; injection e with e; have ho' : b = w.heap.size + 1 := ho; omega)
      · have i0 : (0 : Int) ≤ (len : Int) := by omega
        have i1 : (len : Int) ≤ (cc : Int) := by omega
        have cC1 := C1.c
        have fC1 := C1.f
        have lC1 := C1.lt
        gi_wp2_with (gi_at_builtin; refine clip_in rfl _ _ rfl (w1.heap.size + 3) (some ⟨g', 0, none⟩) len cc L (by rfl) (C2.alloc _) h3 w4.heap.size (k : Nat) (by rfl) (by simp) (by omega) (w4.heap.size + 1) (by simp) (by omega) ?_; intro c' w6 hz6 hh6 hb6 hlt6; have C6 : Cs w6 (w.heap.size + 1) #[.slice (some ⟨g', 0, none⟩) len cc] := (C1.alloc _).keep hb6; have c6 := C6.c; have f6 := C6.f; have l6 := C6.lt)
        clear c6 f6 l6 cC1 fC1 lC1
        have CF6 : Cs w6 w.heap.size #[.func (.func 50) #[.agg #[.int .i64 N, .int .i64 D]] #[]] := (CF.alloc _).keep hb6
        have T7 : Turns (fun i => i = w.heap.size + 1) w6 (w6.setCell ⟨w.heap.size + 1, 0, none⟩ (.slice (some ⟨w4.heap.size + 1, 0, none⟩) (len + 1) c')) := Turns.setCell _ rfl
        refine ⟨((T4.trans (Turns.of_below (balloc (Below.refl _ _) _))).trans (Turns.of_below hb6)).trans T7, HI.out _ _ _ _ (C6.set 0 _ (by simp)) ?_ hh6 (CF6.turns T7 (fun e => by have e' : w.heap.size = w.heap.size + 1 := e; omega)) (Turns.below ((balloc C5 _).trans (hb6.mono (by have := C5.size; simp; omega))) T7 (fun i e => by have e' : i = w.heap.size + 1 := e; omega) (by have := C5.size; omega))⟩
        rw [Hst2.out]
        exact hz6.turns T7 (fun b off _ e ho => by injection e with e; injection e with e; have ho' : b = w.heap.size + 1 := ho; omega)
    · have Hst2 : Hid (regL zs n (N, D) (k + 1) = regL zs n (N, D) k) := Lib.hid (by rw [Hst.out, if_neg hp])
      have hend := HI.out A' len cc w4 C1 (by rw [Hst2.out]; exact C2) h3 CF C5
      clear Hst HI C1 CF C2 C5
      gi_wp2_with fail
      exact ⟨T4, hend⟩
  case done =>
    intro W hi hD
    rw [hId] at hi
    obtain ⟨A', len, cc, h1, h2, h3, hF, h5⟩ := hi
    clear hId hI
    have HD := Lib.hid hD
    have hlt1 := h1.lt
    clear hD
    have ch1 := h1.c
    have fh1 := h1.f
    have lh1 := h1.lt
    gi_wp2_with fail
    have T7 : Turns (fun i => i = w1.heap.size) W (W.putObj w1.heap.size (.deferred none)) := Turns.putObj _ rfl
    have h27 : Ints (W.putObj w1.heap.size (.deferred none)) A' len (regL zs n (N, D) (manyT zs)) := h2.turns T7 (fun b off hp e ho => by
      have ho' : b = w1.heap.size := ho
      rcases h3 with ⟨h, _⟩ | ⟨_, _, g', e', hg'⟩
      · omega
      · rw [e] at e'
        injection e' with e'
        injection e' with e'
        omega)
    have h57 := Turns.below h5 T7 (fun i k => by have k' : i = w1.heap.size := k; omega) (by have := h5.size; omega)
    refine ⟨by simp, .inl ⟨_, _, rfl, run_takeDeferred HD.out, ?_⟩⟩
    exact ⟨.slice A' len cc, by simp [results, Try.results49, go_sem], ⟨A', len, cc, rfl, h27, h57, fun b off hp e => by
      rcases h3 with ⟨h, _⟩ | ⟨_, _, g', e', hg'⟩
      · omega
      · rw [e] at e'
        injection e' with e'
        injection e' with e'
        omega, by rcases h3 with ⟨h, _, h'⟩ | ⟨_, h, _⟩ <;> omega⟩⟩
  case stop => intro c k W _ h; exact h.elim

theorem region_any (A : Option Addr) (n c m g : Nat) (zs : List Pl) (N D : Int) (w : World) (hz : Plates w A n zs) (hn : n ≤ 6) (hg : ∀ p ∈ zs, Good p) (hB : Cs w g #[.slice A n c, .int .i64 (m : Nat)])
    (hN0 : 0 ≤ N) (hN : N ≤ 1000000000) (hD0 : 0 ≤ D) (hD : D ≤ 1000000000) :
    Calls Try.prog 49 #[.pointer (some ⟨g, 0, none⟩), .func (.func 50) #[.agg #[.int .i64 N, .int .i64 D]] #[]] w (RetInts (regL zs n (N, D) (manyT zs)) w) :=
  (region_cap A n c m g zs N D w hz hn hg hB hN0 hN hD0 hD).mono fun _ _ h => h.weak

end Go.Proofs.Ytcmllkjgggcghaa
end

/- Walks of package eye: Region. -/
section
namespace Go.Proofs.Ytcmllkjgggcghaa
open Go.RowKit Go.Shelf
set_option linter.unusedSimpArgs false
set_option linter.unusedVariables false

/-- a list and an error that are handed back -/
def RetLE (r : List Int × Int) (w : World) (e : Ending) (w' : World) : Prop :=
  ∃ A n c, e = .returned (.tuple #[.slice A n c, .int .i64 r.2]) ∧ Ints w' A n r.1 ∧ Below w.heap.size w w'

/-- what Region answers -/
def regionP (zs : List Pl) (n : Nat) (N D : Int) : List Int × Int :=
  if testE zs ≠ 0 then ([], testE zs) else if isTh N D then (regL zs n (N, D) (manyT zs), 0) else ([], 2)

theorem isTh_bd {n d : Int} (h : isTh n d = true) : 0 ≤ n ∧ n ≤ 1000000000 ∧ 1 ≤ d ∧ d ≤ 1000000000 ∧ Int.gcd n d = 1 := by simpa [isTh] using h

set_option maxHeartbeats 1000000 in
theorem regionE_any (A : Option Addr) (n c : Nat) (zs : List Pl) (N D : Int) (w : World) (hz : Plates w A n zs) (hn : n ≤ 9223372036854775807) :
    Calls Try.prog 15 #[.slice A n c, .agg #[.int .i64 N, .int .i64 D]] w (RetLE (regionP zs n N D) w) := by
  by_cases ht : testE zs = 0
  · obtain ⟨t1, t2, hg⟩ := testE_ok ht
    have hl := hz.1
    have kn := fun (W : World) (hb : Below w.heap.size w W) => newTest_ok A n c zs W (hz.below hb) hn ht
    have kv := fun W => valid_any N D W
    by_cases hv : isTh N D = true
    · obtain ⟨v1, v2, v3, v4, _⟩ := isTh_bd hv
      have kr := fun (W : World) (g : Nat) (hb : Below w.heap.size w W) (hB : Cs W g #[.slice A n c, .int .i64 (manyT zs : Nat)]) => region_any A n c (manyT zs) g zs N D W (hz.below hb) (by omega) hg hB v1 v2 (by omega) v4
      have hR : regionP zs n N D = (regL zs n (N, D) (manyT zs), 0) := by simp [regionP, ht, hv]
      rw [hR]
      rw [hv] at kv
      clear hR ht hv hg v1 v2 v3 v4
      unfold RetLE
      go_enter Try.func15, Try.ntmps15
      go_wp2_with fail
      refine (kn _ blA).mono ?_
      rintro _ w1 ⟨g, rfl, hgw, Bg, hb1⟩
      replace B0 : Cs w1 (w.heap.size) #[.int .i64 N, .int .i64 D] := Cs.keep csA hb1
      replace hbw : Below w.heap.size w w1 := blA
      replace cB0 := B0.c
      replace fB0 := B0.f
      replace lB0 := B0.lt
      clear hb1
      go_wp2_with fail
      refine (kv _).mono ?_
      rintro _ w2 ⟨rfl, hb2⟩
      have Bg2 : Cs w2 g #[.slice A n c, .int .i64 (manyT zs : Nat)] := Cs.keep csA hb2
      try clear cB0 fB0 lB0
      try clear B0
      replace B1 : Cs w2 (w1.heap.size) #[.int .i64 N, .int .i64 D] := Cs.keep csA hb2
      replace hbw : Below w.heap.size w w2 := blA
      replace cB1 := B1.c
      replace fB1 := B1.f
      replace lB1 := B1.lt
      clear hb2
      go_wp2_with fail
      refine (kr _ _ blA Bg2).mono ?_
      rintro _ w3 ⟨A3, n3, c3, rfl, h3, hb3, _⟩
      try clear cB0 fB0 lB0
      try clear B0
      try clear cB1 fB1 lB1
      try clear B1
      replace hbw : Below w.heap.size w w3 := blA
      clear hb3
      clear kn kv kr
      go_wp2_with fail
      go_ret2
      exact ⟨A3, n3, c3, rfl, h3, hbw⟩
    · have hv' : isTh N D = false := by simpa using hv
      have hR : regionP zs n N D = ([], 2) := by simp [regionP, ht, hv']
      rw [hR]
      rw [hv'] at kv
      clear hR ht hv hv' hg
      unfold RetLE
      go_enter Try.func15, Try.ntmps15
      go_wp2_with fail
      refine (kn _ blA).mono ?_
      rintro _ w1 ⟨g, rfl, hgw, Bg, hb1⟩
      try clear cB1 fB1 lB1
      try clear B1
      replace B0 : Cs w1 (w.heap.size) #[.int .i64 N, .int .i64 D] := Cs.keep csA hb1
      replace hbw : Below w.heap.size w w1 := blA
      replace cB0 := B0.c
      replace fB0 := B0.f
      replace lB0 := B0.lt
      clear hb1
      go_wp2_with fail
      refine (kv _).mono ?_
      rintro _ w2 ⟨rfl, hb2⟩
      try clear cB0 fB0 lB0
      try clear B0
      try clear cB1 fB1 lB1
      try clear B1
      replace hbw : Below w.heap.size w w2 := blA
      clear hb2
      clear kn kv
      go_wp2_with fail
      go_ret2
      exact ⟨none, 0, 0, rfl, Ints.nil _ _, hbw⟩
  · have kn := fun (W : World) (hb : Below w.heap.size w W) => newTest_bad A n c zs W (hz.below hb) hn ht
    have hR : regionP zs n N D = ([], testE zs) := by simp [regionP, ht]
    rw [hR]
    have h0 : (testE zs == 0) = false := by simp [ht]
    have h1 : (testE zs != 0) = true := by simp [ht]
    generalize testE zs = e at *
    clear hR ht
    unfold RetLE
    go_enter Try.func15, Try.ntmps15
    go_wp2_with fail
    refine (kn _ blA).mono ?_
    rintro _ w1 ⟨rfl, hb1⟩
    try clear cB0 fB0 lB0
    try clear B0
    try clear cB1 fB1 lB1
    try clear B1
    replace hbw : Below w.heap.size w w1 := blA
    clear hb1
    clear kn
    go_wp2_with fail
    go_ret2
    exact ⟨none, 0, 0, rfl, Ints.nil _ _, hbw⟩

end Go.Proofs.Ytcmllkjgggcghaa
end

/- Walks of package eye: a map from fractions to numbers. -/
section
namespace Go.Proofs.Ytcmllkjgggcghaa
open Go.RowKit Go.Shelf Go.ChangeMaps Go.MapKept
open Go.WideElems (Fit rd rg pl rd_val elemAt entry_then_store)
set_option linter.unusedSimpArgs false
set_option linter.unusedVariables false

theorem rk_laid : laidOutB Try.prog = true := by kernel_rfl
theorem rk_row : (25 : TypeId) < Try.prog.types.size := of_decide_eq_true (by kernel_rfl)
theorem rk_under : Try.prog.underlying 25 = some (.struct #[⟨"Num", 2, 0, false, "", "", 0⟩, ⟨"Den", 2, 1, false, "", "", 8⟩]) := by kernel_rfl
theorem i64_under : Try.prog.underlying 2 = some (.int .i64) := by kernel_rfl
theorem mp_under : Try.prog.underlying 90 = some (.map 25 2) := by kernel_rfl
theorem rk_wide : (match Try.prog.underlying 25 with | some (.array _ _) | some (.struct _) => true | _ => false) = true := by rw [rk_under]
theorem rk_kt : Try.prog.keyTypeAt 2 25 = true := by kernel_rfl
set_option maxRecDepth 100000 in
theorem rk_klaw : WideMaps.KeyLaw Try.prog 25 := deep_law_laid (P := Try.prog) (m := 2) (k := 25) rk_laid (by omega) rk_row rk_kt rk_wide
theorem rk_size : ∃ m, Try.prog.types.size = m + 1 := by
  cases h : Try.prog.types.size with
  | zero => have := rk_row; rw [h] at this; exact absurd this (Nat.not_lt_zero _)
  | succ m => exact ⟨m, rfl⟩
theorem rk_law : Maps.Keyed Try.prog 25 := Maps.Keyed.of_law rk_klaw
theorem rk_zero (w : World) : (zeroValue 2).run Try.prog w = .ok (.int .i64 0) w := by kernel_rfl
theorem rk_keyT : Try.prog.keyType 25 = true := by kernel_rfl
theorem rk_cells : Try.prog.cellsOf 25 = 2 := by kernel_rfl
theorem i64_cells : Try.prog.cellsOf 2 = 1 := by kernel_rfl

/-- what a fraction reads as, as a key -/
def kR (r : Int × Int) : Lit := .string (keyBytes [.int .i64 r.1, .int .i64 r.2])
/-- a fraction as a value -/
def rV (r : Int × Int) : Value := .agg #[.int .i64 r.1, .int .i64 r.2]
/-- both numbers are such numbers -/
def W2 (r : Int × Int) : Prop := (Lit.int .i64 r.1).wf = true ∧ (Lit.int .i64 r.2).wf = true

theorem rk_mk {r : Int × Int} (h : W2 r) : keyOf Try.prog 25 (rV r) = some (kR r) := by
  obtain ⟨m, hm⟩ := rk_size
  have h1 := h.1
  have h2 := h.2
  unfold keyOf rV kR
  simp only [rk_under]
  rw [if_pos (by simp [rk_keyT, Value.formed, rk_under, rk_cells]), hm]
  unfold Program.keyLits
  simp only [rk_under, Value.cells]
  rw [if_pos (by rw [rk_cells]; exact ⟨rfl, by simp⟩)]
  simp [i64_cells, Program.keyLits, i64_under, h1, h2]

theorem len_two {α : Type} : ∀ {l : List α}, l.length = 2 → ∃ a b, l = [a, b]
  | [a, b], _ => ⟨a, b, rfl⟩
  | [], h => by simp at h
  | [_], h => by simp at h
  | _ :: _ :: _ :: _, h => by simp at h

theorem rk_inv {v : Value} {l : Lit} (h : keyOf Try.prog 25 v = some l) : ∃ r, v = rV r ∧ W2 r ∧ l = kR r := by
  obtain ⟨xs, L, rfl, hL, rfl⟩ := keyOf_top (P := Try.prog) (k := 25) (by rw [rk_under]) h
  obtain ⟨m, hm⟩ := rk_size
  rw [hm] at hL
  unfold Program.keyLits at hL
  simp only [rk_under] at hL
  split at hL
  · rename_i hc
    rw [rk_cells] at hc
    obtain ⟨xs⟩ := xs
    obtain ⟨a, b, rfl⟩ := len_two (show xs.length = 2 from hc.1)
    simp only [i64_cells, List.mapM_cons, List.mapM_nil, List.drop_zero, List.take_succ_cons, List.take_zero, List.drop_succ_cons, bind, Option.map_eq_some_iff, Option.bind_eq_some_iff, pure, Option.some.injEq] at hL
    obtain ⟨LL, ⟨l1, h1, l2, ⟨l3, h3, l4, rfl, rfl⟩, rfl⟩, rfl⟩ := hL
    obtain ⟨x, e1, rfl⟩ := keyLits_int' i64_under h1
    obtain ⟨y, e2, rfl⟩ := keyLits_int' i64_under h3
    simp only [List.cons.injEq, and_true] at e1 e2
    subst e1 e2
    refine ⟨(x, y), rfl, ⟨?_, ?_⟩, by simp [kR]⟩
    · unfold Program.keyLits at h1
      simp only [i64_under] at h1
      split at h1
      · rename_i h; exact h.2
      · cases h1
    · unfold Program.keyLits at h3
      simp only [i64_under] at h3
      split at h3
      · rename_i h; exact h.2
      · cases h3
  · cases hL

theorem kR_inj {r s : Int × Int} (hr : W2 r) (hs : W2 s) (h : kR r = kR s) : r = s := by
  have h1 := rk_mk hr
  have h2 := rk_mk hs
  rw [h] at h1
  have := rk_law.inj h1 h2
  unfold rV at this
  simp at this
  exact Prod.ext this.1 this.2

theorem kR_key {r : Int × Int} (hr : W2 r) : WideAt.IsKeyLit (kR r) := rk_law.key (rk_mk hr)

/-- block b of w is a map with the fractions of lf, at which it has the numbers of F -/
def Grp (w : World) (b n sz : Nat) (lf : Int × Int → Bool) (F : Int × Int → Int) : Prop :=
  ∃ D : DataW Unit, w.ownsMap Try.prog 25 (plainElem Try.prog 2) b n D ∧ Maps.size D = sz ∧ (∀ r, W2 r → Maps.has D (kR r) = lf r) ∧ (∀ r, W2 r → lf r = true → ∀ z, D.atKey (kR r) z = .lit (.int .i64 (F r))) ∧ ∀ r, lf r = true → W2 r

theorem Grp.made (w : World) (F : Int × Int → Int) : Grp (w.alloc (.map #[] 0)) w.heap.size 0 0 (fun _ => false) F :=
  ⟨.map [], World.ownsMap_made _ _ _ _, rfl, fun _ _ => rfl, fun _ _ h => by (cases h), fun _ h => by cases h⟩
theorem Grp.kept {w w' : World} {b n sz : Nat} {lf : Int × Int → Bool} {F : Int × Int → Int} {row : Option Nat} (h : Grp w b n sz lf F) (hg : w.grownBy w' row) (hne : some b ≠ row) : Grp w' b n sz lf F := by
  obtain ⟨D, h1, h2⟩ := h
  exact ⟨D, h1.kept hg hne, h2⟩
theorem Grp.lt {w : World} {b n sz : Nat} {lf : Int × Int → Bool} {F : Int × Int → Int} (h : Grp w b n sz lf F) : b < w.heap.size := by
  obtain ⟨D, h1, _⟩ := h
  exact h1.lt
theorem Grp.of_heap {w w' : World} {b n sz : Nat} {lf : Int × Int → Bool} {F : Int × Int → Int} (h : Grp w b n sz lf F) (hb : w'.heap[b]? = w.heap[b]?) : Grp w' b n sz lf F := by
  obtain ⟨D, ⟨es, clock, h1, h2⟩, h3⟩ := h
  exact ⟨D, ⟨es, clock, hb.trans h1, h2⟩, h3⟩
theorem Grp.mono {w : World} {b n n' sz : Nat} {lf : Int × Int → Bool} {F : Int × Int → Int} (h : Grp w b n sz lf F) (hn : n ≤ n') : Grp w b n' sz lf F := by
  obtain ⟨D, h1, h2⟩ := h
  exact ⟨D, h1.mono hn, h2⟩

/-- what a look-up gives -/
def gv (lf : Int × Int → Bool) (F : Int × Int → Int) (r : Int × Int) : Int := if lf r then F r else 0

theorem Grp.look {w : World} {b n sz : Nat} {lf : Int × Int → Bool} {F : Int × Int → Int} (h : Grp w b n sz lf F) {r : Int × Int} (hr : W2 r) :
    (Instr.lookup 90 (.map (some b)) (rV r) false).run Try.prog w = .ok (.int .i64 (gv lf F r)) w := by
  obtain ⟨D, h1, h2, h3, h4, h5⟩ := h
  obtain ⟨c, hrun, hat, _⟩ := h1.lookup_int rk_law mp_under i64_under (rk_zero _) (rk_mk hr)
  have hc : c = gv lf F r := by
    unfold gv
    by_cases hl : lf r = true
    · rw [if_pos hl]
      rw [h4 r hr hl] at hat
      simp at hat
      exact hat.symm
    · rw [if_neg hl]
      have hn : Maps.has D (kR r) = false := by rw [h3 r hr]; simpa using hl
      rw [Maps.atKey_of_not_has hn] at hat
      simp at hat
      exact hat.symm
  rw [hrun, hc]

theorem Grp.put {w : World} {b n sz : Nat} {lf : Int × Int → Bool} {F : Int × Int → Int} (h : Grp w b n sz lf F) {r : Int × Int} (hr : W2 r) (hn : n ≤ 100000) (v : Int) (hv : (Lit.int .i64 v).wf = true) :
    ∃ w', (Instr.mapUpdate 90 (.map (some b)) (rV r) (.int .i64 v)).run Try.prog w = .ok () w' ∧
      Grp w' b (n + 1) (if lf r then sz else sz + 1) (fun x => decide (x = r) || lf x) (fun x => if x = r then v else F x) ∧ w.grownBy w' (some b) := by
  obtain ⟨D, h1, h2, h3, h4, h5⟩ := h
  obtain ⟨w', hrun, hown, hg⟩ := h1.update rk_law mp_under (by unfold maxLen; omega) (rk_mk hr) (plainElem_int i64_under hv)
  have ht := h1.tidy rk_law
  refine ⟨w', hrun, ⟨_, hown, ?_, ?_, ?_, ?_⟩, hg⟩
  · rw [Maps.size_put ht, h3 r hr, h2]
  · intro x hx
    by_cases e : x = r
    · subst e
      rw [Maps.has_put_same ht.isMap (kR_key hx)]; simp
    · rw [Maps.has_put_other (fun k => e (kR_inj hx hr k)), h3 x hx]; simp [e]
  · intro x hx hl z
    by_cases e : x = r
    · subst e
      rw [Maps.atKey_put_same ht.isMap (kR_key hx)]; simp
    · rw [Maps.atKey_put_other (fun k => e (kR_inj hx hr k))]
      show D.atKey (kR x) z = .lit (.int .i64 (if x = r then v else F x))
      rw [if_neg e]
      exact h4 x hx (by simpa [e] using hl) z
  · intro x hl
    by_cases e : x = r
    · rw [e]; exact hr
    · exact h5 x (by simpa [e] using hl)

end Go.Proofs.Ytcmllkjgggcghaa
end
