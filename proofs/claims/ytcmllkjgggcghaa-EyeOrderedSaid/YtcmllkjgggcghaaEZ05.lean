/- EB1 EB2 -/
import Derived.Test.YtcmllkjgggcghaaEZ02
import Derived.Deep.RegionHeld3
import Derived.Deep.RegionLaw
import Derived.BigGuard
/- Walks of package eye: plates in slices; CheckTest. -/
section
namespace Go.Proofs.Ytcmllkjgggcghaa
open Go.RowKit Go.Shelf
set_option linter.unusedSimpArgs false
set_option linter.unusedVariables false

/-- a plate, with where its lists lie -/
structure Pl where
  gA : Option Addr
  gn : Nat
  gc : Nat
  gs : List Int
  eA : Option Addr
  en : Nat
  ec : Nat
  es : List Int

/-- a plate as a value -/
def plV (p : Pl) : Value := .agg #[.slice p.gA p.gn p.gc, .slice p.eA p.en p.ec]

/-- a plate's lists read -/
def PlOk (w : World) (p : Pl) : Prop := Ints w p.gA p.gn p.gs ∧ Ints w p.eA p.en p.es ∧ p.gn ≤ 9223372036854775807 ∧ p.en ≤ 9223372036854775807
theorem PlOk.below {w w' : World} {p : Pl} (h : PlOk w p) (hb : Below w.heap.size w w') : PlOk w' p := ⟨h.1.below hb, h.2.1.below hb, h.2.2⟩

/-- a slice value that reads as a list of plates -/
def Plates (w : World) (A : Option Addr) (n : Nat) (zs : List Pl) : Prop :=
  zs.length = n ∧ (0 < n → ∃ b off, A = some ⟨b, off, none⟩ ∧ b < w.heap.size ∧ ∀ i p, zs[i]? = some p →
    w.cell? ⟨b, off + i * 2, none⟩ = some (.slice p.gA p.gn p.gc) ∧ w.cell? ⟨b, off + i * 2 + 1, none⟩ = some (.slice p.eA p.en p.ec)) ∧ ∀ p ∈ zs, PlOk w p

theorem Plates.below {w w' : World} {A : Option Addr} {n : Nat} {zs : List Pl} (h : Plates w A n zs) (hb : Below w.heap.size w w') : Plates w' A n zs := by
  refine ⟨h.1, fun hn => ?_, fun p hp => (h.2.2 p hp).below hb⟩
  obtain ⟨b, off, rfl, hlt, hc⟩ := h.2.1 hn
  exact ⟨b, off, rfl, Nat.lt_of_lt_of_le hlt hb.size, fun i p hp => ⟨(hb.cell (p := ⟨b, _, none⟩) hlt).trans (hc i p hp).1, (hb.cell (p := ⟨b, _, none⟩) hlt).trans (hc i p hp).2⟩⟩

/-- what is needed of one plate, in a later world -/
theorem Plates.at_ {w wr : World} {A : Option Addr} {n k : Nat} {zs : List Pl} (h : Plates w A n zs) (hb : Below w.heap.size w wr) (hk : k < n) :
    ∃ b off p, A = some ⟨b, off, none⟩ ∧ zs[k]? = some p ∧ wr.cell? ⟨b, off + k * 2, none⟩ = some (.slice p.gA p.gn p.gc) ∧ wr.cell? ⟨b, off + k * 2 + 1, none⟩ = some (.slice p.eA p.en p.ec) := by
  obtain ⟨b, off, rfl, hlt, hc⟩ := h.2.1 (by omega)
  have hl : k < zs.length := by rw [h.1]; exact hk
  obtain ⟨c0, c1⟩ := hc k zs[k] (List.getElem?_eq_getElem hl)
  exact ⟨b, off, zs[k], rfl, List.getElem?_eq_getElem hl, (hb.cell (p := ⟨b, _, none⟩) hlt).trans c0, (hb.cell (p := ⟨b, _, none⟩) hlt).trans c1⟩

/-- what a predicate on plates that is handed on gives, whatever has been made since -/
def PredPlates (P : Program) (g : Nat) (lb : Array Value) (p : Pl → Bool) (zs : List Pl) (w : World) : Prop :=
  ∀ x, x ∈ zs → ∀ W, Below w.heap.size w W → Calls P g (#[plV x] ++ lb) W fun e W' => e = .returned (.bool (p x)) ∧ Below w.heap.size w W'

set_option maxHeartbeats 400000 in
theorem indexPlates_any (A : Option Addr) (n c g : Nat) (zs : List Pl) (lb : Array Value) (p : Pl → Bool) (w : World) (eg : ∀ args w, (callFunc g args).run Try.prog w = .ok (.enter g args) w)
    (hz : Plates w A n zs) (hn : n ≤ 9223372036854775807) (hp : PredPlates Try.prog g lb p zs w) :
    Calls Try.prog 83 #[.slice A n c, .func (.func g) #[] lb] w fun e w' => e = .returned (.int .i64 (Um.idx p zs)) ∧ Below w.heap.size w w' := by
  have Hz := Lib.hid hz
  have Hp := Lib.hid hp
  clear hp hz
  go_enter Try.func83, Try.ntmps83
  go_wp2
  go_loopw [5, 8] (fun _ i wr => ∃ k : Nat, k ≤ n ∧ i = .int .i64 k ∧ Hid (∀ i y, i < k → zs[i]? = some y → p y = false) ∧ Below w.heap.size w wr) (fun _ i _ => n - (intOf i).toNat)
  case atStart => exact ⟨0, Nat.zero_le _, rfl, fun i y hi => by omega, Below.refl _ _⟩
  case round =>
    obtain ⟨k, hk, rfl, hpre, hbl⟩ := hrel
    by_cases hlt : k < n
    · obtain ⟨b, off, x, rfl, hget, c0, c1⟩ := Hz.out.at_ hbl hlt
      have Hget := Lib.hid hget
      have hcall := Hp.out x (List.mem_of_getElem? hget) wr hbl
      unfold plV at hcall
      clear hget
      cases hq : p x with
      | true =>
        rw [hq] at hcall
        have Hq := Lib.hid hq
        clear hq
        go_wp2_with (go_at_fn g; refine hcall.mono ?_; rintro e w' ⟨rfl, hb'⟩)
        go_ret
        exact ⟨ret_int (Um.idx_at p k zs x hpre.out Hget.out Hq.out).symm, hb'⟩
      | false =>
        rw [hq] at hcall
        have Hq := Lib.hid hq
        clear hq
        go_wp2_with (go_at_fn g; refine hcall.mono ?_; rintro e w' ⟨rfl, hb'⟩)
        go_roundw
        case rel =>
          refine ⟨k + 1, by omega, by go_num, fun i v hi hy => ?_, hb'⟩
          by_cases hik : i < k
          · exact hpre.out i v hik hy
          · have : i = k := by omega
            subst this
            have := Hget.out
            rw [hy] at this
            injection this with this
            rw [this]; exact Hq.out
        case measure => simp [intOf]; omega
    · go_wp2
      go_ret
      refine ⟨ret_int (Um.idx_none p zs (fun y hy => ?_)).symm, hbl⟩
      obtain ⟨i, hi, hiy⟩ := List.mem_iff_getElem.1 hy
      exact hpre.out i y (by have := Hz.out.1; omega) (by rw [List.getElem?_eq_getElem hi, hiy])

set_option maxHeartbeats 400000 in
theorem containsPlates_any (A : Option Addr) (n c g : Nat) (zs : List Pl) (lb : Array Value) (p : Pl → Bool) (w : World) (eg : ∀ args w, (callFunc g args).run Try.prog w = .ok (.enter g args) w)
    (hz : Plates w A n zs) (hn : n ≤ 9223372036854775807) (hp : PredPlates Try.prog g lb p zs w) :
    Calls Try.prog 69 #[.slice A n c, .func (.func g) #[] lb] w fun e w' => e = .returned (.bool (zs.any p)) ∧ Below w.heap.size w w' := by
  have h1 := indexPlates_any A n c g zs lb p w eg hz hn hp
  have h2 := Um.idx_any p zs
  have H2 := Lib.hid h2
  clear h2 hz hp eg
  generalize zs.any p = r at *
  generalize Um.idx p zs = ix at *
  go_enter Try.func69, Try.ntmps69
  go_wp2_with (go_at_call 83; refine h1.mono ?_; rintro e w' ⟨rfl, hb'⟩)
  go_ret
  exact ⟨ret_bool H2.out, hb'⟩

/-- all numbers are from lo to hi -/
def okn (lo hi : Int) (l : List Int) : Bool := l.all fun x => !out lo hi x
/-- a plate has too few or too many answers -/
def fewP (p : Pl) : Bool := decide (p.gn < 2) || decide (4 < p.gn)
/-- a plate's lists are not of one length -/
def neP (p : Pl) : Bool := decide (p.en ≠ p.gn)
/-- a plate's parts are not right -/
def badP (p : Pl) : Bool := !okn 0 20 p.gs || !okn 0 20 p.es || !okn 1 20 [p.gs.sum] || decide (p.gs.sum ≠ p.es.sum)

set_option maxHeartbeats 400000 in
theorem fewC_any (p : Pl) (w : World) : Calls Try.prog 70 #[plV p] w fun e w' => e = .returned (.bool (fewP p)) ∧ Below w.heap.size w w' := by
  unfold plV
  generalize hb : fewP p = b
  have HB := Lib.hid hb
  clear hb
  obtain ⟨gA, gn, gc, gs, eA, en, ec, es⟩ := p
  dsimp only
  by_cases h1 : gn < 2
  · have h1i : (gn : Int) < 2 := by omega
    have hf : Hid (true = b) := Lib.hid (by rw [← HB.out]; unfold fewP; rw [decide_eq_true h1]; rfl)
    go_enter Try.func70, Try.ntmps70
    go_wp2_with fail
    go_ret
    exact ⟨ret_bool hf.out, blA⟩
  · have h1i : ¬ (gn : Int) < 2 := by omega
    have hf : Hid (decide ((4 : Int) < (gn : Int)) = b) := Lib.hid (by rw [← HB.out]; unfold fewP; rw [decide_eq_false h1]; simp; omega)
    go_enter Try.func70, Try.ntmps70
    go_wp2_with fail
    go_ret
    exact ⟨ret_bool (by first | exact hf.out | (rw [← hf.out]; simp)), blA⟩

set_option maxHeartbeats 400000 in
theorem neC_any (p : Pl) (w : World) : Calls Try.prog 71 #[plV p] w fun e w' => e = .returned (.bool (neP p)) ∧ Below w.heap.size w w' := by
  unfold plV
  generalize hb : neP p = b
  have HB := Lib.hid hb
  clear hb
  obtain ⟨gA, gn, gc, gs, eA, en, ec, es⟩ := p
  dsimp only
  by_cases h1 : en = gn
  · have hf : Hid (false = b) := Lib.hid (by rw [← HB.out]; unfold neP; simp [h1])
    have g1 : ((en : Int) != (gn : Int)) = false := by simp [h1]
    have g2 : (en : Int) = (gn : Int) := by omega
    go_enter Try.func71, Try.ntmps71
    go_wp2_with fail
    go_ret
    exact ⟨ret_bool hf.out, blA⟩
  · have hf : Hid (true = b) := Lib.hid (by rw [← HB.out]; unfold neP; simp [h1])
    have g1 : ((en : Int) != (gn : Int)) = true := by simp; omega
    have g2 : ¬ (en : Int) = (gn : Int) := by omega
    go_enter Try.func71, Try.ntmps71
    go_wp2_with fail
    go_ret
    exact ⟨ret_bool hf.out, blA⟩

end Go.Proofs.Ytcmllkjgggcghaa
end

/- Walks of package eye: CheckTest. -/
section
namespace Go.Proofs.Ytcmllkjgggcghaa
open Go.RowKit Go.Shelf
set_option linter.unusedSimpArgs false
set_option linter.unusedVariables false

theorem okn_bd : ∀ l : List Int, okn 0 20 l = true → (∀ x ∈ l, 0 ≤ x) ∧ l.sum ≤ 20 * (l.length : Int)
  | [], _ => by simp
  | x :: l, h => by
    unfold okn at h
    rw [List.all_cons, Bool.and_eq_true] at h
    have hx : 0 ≤ x ∧ x ≤ 20 := by have := h.1; simp [out] at this; omega
    obtain ⟨h1, h2⟩ := okn_bd l h.2
    refine ⟨fun y hy => ?_, ?_⟩
    · rcases List.mem_cons.1 hy with rfl | hy
      · exact hx.1
      · exact h1 y hy
    · simp only [List.sum_cons, List.length_cons]; omega

set_option maxRecDepth 10000 in
set_option maxHeartbeats 8000000 in
theorem badC_any (p : Pl) (w : World) (hp : PlOk w p) (hg : p.gn ≤ 4) (he : p.en ≤ 4) : Calls Try.prog 67 #[plV p] w fun e w' => e = .returned (.bool (badP p)) ∧ Below w.heap.size w w' := by
  unfold plV
  generalize hb : badP p = b
  have HB := Lib.hid hb
  clear hb
  obtain ⟨gA, gn, gc, gs, eA, en, ec, es⟩ := p
  obtain ⟨hG, hE, _, _⟩ := hp
  dsimp only at hg he hG hE ⊢
  have kw1 := fun (W : World) (hb : Below w.heap.size w W) => within_any 0 20 gA gn gc gs W (hG.below hb) (by omega)
  have kw2 := fun (W : World) (hb : Below w.heap.size w W) => within_any 0 20 eA en ec es W (hE.below hb) (by omega)
  have hgl := hG.1
  have hel := hE.1
  have HB2 : Hid (b = (!okn 0 20 gs || !okn 0 20 es || !okn 1 20 [gs.sum] || decide (gs.sum ≠ es.sum))) := Lib.hid HB.out.symm
  clear HB
  cases h1 : okn 0 20 gs with
  | false =>
    have e1 : (gs.all fun x => !out 0 20 x) = false := h1
    rw [e1] at kw1
    have hf : Hid (true = b) := Lib.hid (by rw [HB2.out, h1]; rfl)
    clear HB2 h1 e1 kw2 hG hE
    go_enter Try.func67, Try.ntmps67
    have B0 : Cs (w.alloc (.cells #[.slice gA gn gc, .slice eA en ec] 73)) w.heap.size #[.slice gA gn gc, .slice eA en ec] := csA
    have hbw : Below w.heap.size w (w.alloc (.cells #[.slice gA gn gc, .slice eA en ec] 73)) := blA
    go_wp2_with fail
    first | (go_region_with (first | (go_at_call 68; with_reducible refine (kw1 _ blA).mono ?_; rintro _ w1 ⟨rfl, hb1⟩; have B0 : Cs w1 w.heap.size #[.slice gA gn gc, .slice eA en ec] := Cs.keep csA hb1; have hbw : Below w.heap.size w w1 := blA; have cB0 := B0.c; have fB0 := B0.f; have lB0 := B0.lt; clear hb1))) | fail "region"
    all_goals (
      go_wp2_with fail
      go_ret
      exact ⟨ret_bool hf.out, blA⟩)
  | true =>
    have e1 : (gs.all fun x => !out 0 20 x) = true := h1
    rw [e1] at kw1
    obtain ⟨g1, g2⟩ := okn_bd gs h1
    cases h2 : okn 0 20 es with
    | false =>
      have e2 : (es.all fun x => !out 0 20 x) = false := h2
      rw [e2] at kw2
      have hf : Hid (true = b) := Lib.hid (by rw [HB2.out, h1, h2]; rfl)
      clear HB2 h1 e1 h2 e2 hG hE g1 g2
      go_enter Try.func67, Try.ntmps67
      have B0 : Cs (w.alloc (.cells #[.slice gA gn gc, .slice eA en ec] 73)) w.heap.size #[.slice gA gn gc, .slice eA en ec] := csA
      have hbw : Below w.heap.size w (w.alloc (.cells #[.slice gA gn gc, .slice eA en ec] 73)) := blA
      go_wp2_with fail
      first | (go_region_with (first | (go_at_call 68; with_reducible refine (kw1 _ blA).mono ?_; rintro _ w1 ⟨rfl, hb1⟩; have B0 : Cs w1 w.heap.size #[.slice gA gn gc, .slice eA en ec] := Cs.keep csA hb1; have hbw : Below w.heap.size w w1 := blA; have cB0 := B0.c; have fB0 := B0.f; have lB0 := B0.lt; clear hb1) | (go_at_call 68; with_reducible refine (kw2 _ blA).mono ?_; rintro _ w1 ⟨rfl, hb1⟩; have B0 : Cs w1 w.heap.size #[.slice gA gn gc, .slice eA en ec] := Cs.keep csA hb1; have hbw : Below w.heap.size w w1 := blA; have cB0 := B0.c; have fB0 := B0.f; have lB0 := B0.lt; clear hb1))) | fail "region"
      all_goals (
        go_wp2_with fail
        go_ret
        exact ⟨ret_bool hf.out, blA⟩)
    | true =>
      have e2 : (es.all fun x => !out 0 20 x) = true := h2
      rw [e2] at kw2
      obtain ⟨g3, g4⟩ := okn_bd es h2
      have kt1 := fun (W : World) (hb : Below w.heap.size w W) => total_any gA gn gc gs W (hG.below hb) (by omega) g1 (by omega) _ rfl
      have kt2 := fun (W : World) (hb : Below w.heap.size w W) => total_any eA en ec es W (hE.below hb) (by omega) g3 (by omega) _ rfl
      have kw3 := fun A c W hz => within_any 1 20 A 1 c [gs.sum] W hz (by omega)
      cases h3 : okn 1 20 [gs.sum] with
      | false =>
        have e3 : ([gs.sum].all fun x => !out 1 20 x) = false := h3
        rw [e3] at kw3
        have hf : Hid (true = b) := Lib.hid (by rw [HB2.out, h1, h2, h3]; rfl)
        clear HB2 h1 e1 h2 e2 h3 e3 hG hE g1 g2 g3 g4 kt2
        generalize gs.sum = s at *
        go_enter Try.func67, Try.ntmps67
        have B0 : Cs (w.alloc (.cells #[.slice gA gn gc, .slice eA en ec] 73)) w.heap.size #[.slice gA gn gc, .slice eA en ec] := csA
        have hbw : Below w.heap.size w (w.alloc (.cells #[.slice gA gn gc, .slice eA en ec] 73)) := blA
        go_wp2_with fail
        first | (go_region_with (first | (go_at_call 68; with_reducible refine (kw1 _ blA).mono ?_; rintro _ w1 ⟨rfl, hb1⟩; have B0 : Cs w1 w.heap.size #[.slice gA gn gc, .slice eA en ec] := Cs.keep csA hb1; have hbw : Below w.heap.size w w1 := blA; have cB0 := B0.c; have fB0 := B0.f; have lB0 := B0.lt; clear hb1) | (go_at_call 68; with_reducible refine (kw2 _ blA).mono ?_; rintro _ w1 ⟨rfl, hb1⟩; have B0 : Cs w1 w.heap.size #[.slice gA gn gc, .slice eA en ec] := Cs.keep csA hb1; have hbw : Below w.heap.size w w1 := blA; have cB0 := B0.c; have fB0 := B0.f; have lB0 := B0.lt; clear hb1) | (go_at_call 68; with_reducible refine (kw3 _ _ _ (Ints.new1 _ _ _ _ (by first | rfl | simp))).mono ?_; rintro _ w1 ⟨rfl, hb1⟩; have B0 : Cs w1 w.heap.size #[.slice gA gn gc, .slice eA en ec] := Cs.keep csA hb1; have hbw : Below w.heap.size w w1 := blA; have cB0 := B0.c; have fB0 := B0.f; have lB0 := B0.lt; clear hb1) | (go_at_call 60; with_reducible refine (kt1 _ blA).mono ?_; rintro _ w1 ⟨rfl, hb1⟩; have B0 : Cs w1 w.heap.size #[.slice gA gn gc, .slice eA en ec] := Cs.keep csA hb1; have hbw : Below w.heap.size w w1 := blA; have cB0 := B0.c; have fB0 := B0.f; have lB0 := B0.lt; clear hb1))) | fail "region"
        all_goals (
          go_wp2_with fail
          go_ret
          exact ⟨ret_bool hf.out, blA⟩)
      | true =>
        have e3 : ([gs.sum].all fun x => !out 1 20 x) = true := h3
        rw [e3] at kw3
        have hf : Hid ((gs.sum != es.sum) = b) := Lib.hid (by rw [HB2.out, h1, h2, h3]; by_cases e : gs.sum = es.sum <;> simp [e])
        clear HB2 h1 e1 h2 e2 h3 e3 hG hE g1 g2 g3 g4
        generalize gs.sum = s at *
        generalize es.sum = t at *
        go_enter Try.func67, Try.ntmps67
        have B0 : Cs (w.alloc (.cells #[.slice gA gn gc, .slice eA en ec] 73)) w.heap.size #[.slice gA gn gc, .slice eA en ec] := csA
        have hbw : Below w.heap.size w (w.alloc (.cells #[.slice gA gn gc, .slice eA en ec] 73)) := blA
        go_wp2_with fail
        first | (go_region_with (first | (go_at_call 68; with_reducible refine (kw1 _ blA).mono ?_; rintro _ w1 ⟨rfl, hb1⟩; have B0 : Cs w1 w.heap.size #[.slice gA gn gc, .slice eA en ec] := Cs.keep csA hb1; have hbw : Below w.heap.size w w1 := blA; have cB0 := B0.c; have fB0 := B0.f; have lB0 := B0.lt; clear hb1) | (go_at_call 68; with_reducible refine (kw2 _ blA).mono ?_; rintro _ w1 ⟨rfl, hb1⟩; have B0 : Cs w1 w.heap.size #[.slice gA gn gc, .slice eA en ec] := Cs.keep csA hb1; have hbw : Below w.heap.size w w1 := blA; have cB0 := B0.c; have fB0 := B0.f; have lB0 := B0.lt; clear hb1) | (go_at_call 68; with_reducible refine (kw3 _ _ _ (Ints.new1 _ _ _ _ (by first | rfl | simp))).mono ?_; rintro _ w1 ⟨rfl, hb1⟩; have B0 : Cs w1 w.heap.size #[.slice gA gn gc, .slice eA en ec] := Cs.keep csA hb1; have hbw : Below w.heap.size w w1 := blA; have cB0 := B0.c; have fB0 := B0.f; have lB0 := B0.lt; clear hb1) | (go_at_call 60; with_reducible refine (kt1 _ blA).mono ?_; rintro _ w1 ⟨rfl, hb1⟩; have B0 : Cs w1 w.heap.size #[.slice gA gn gc, .slice eA en ec] := Cs.keep csA hb1; have hbw : Below w.heap.size w w1 := blA; have cB0 := B0.c; have fB0 := B0.f; have lB0 := B0.lt; clear hb1) | (go_at_call 60; with_reducible refine (kt2 _ blA).mono ?_; rintro _ w1 ⟨rfl, hb1⟩; have B0 : Cs w1 w.heap.size #[.slice gA gn gc, .slice eA en ec] := Cs.keep csA hb1; have hbw : Below w.heap.size w w1 := blA; have cB0 := B0.c; have fB0 := B0.f; have lB0 := B0.lt; clear hb1))) | fail "region"
        all_goals (
          go_wp2_with fail
          go_ret
          exact ⟨ret_bool (by first | exact hf.out | (rw [← hf.out]; simp)), blA⟩)

end Go.Proofs.Ytcmllkjgggcghaa
end
