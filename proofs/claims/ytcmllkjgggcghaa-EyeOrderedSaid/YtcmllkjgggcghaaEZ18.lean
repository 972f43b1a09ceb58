/- ELB ETie ETie2 -/
import Derived.Test.YtcmllkjgggcghaaEZ07
import Derived.Test.YtcmllkjgggcghaaEZ08
import Derived.Test.YtcmllkjgggcghaaEZ10
import Derived.Test.YtcmllkjgggcghaaRows
import Derived.Test.YtcmllkjgggcghaaEZ11
import Derived.ProofKit
import Derived.OpenShut
import Derived.Deep.DeepHandedRow
import Derived.Deep.Slices
import Derived.Test.YtcmllkjgggcghaaEZ05
/- Walks of the law package of layer 10: which tests are too great for a statement. -/
section
namespace Go.Proofs.Ytcmllkjgggcghaa
open Go.RowKit Go.Shelf
set_option linter.unusedSimpArgs false
set_option linter.unusedVariables false

/-- some truth value is handed back -/
def RetSome (w : World) (e : Ending) (w' : World) : Prop := ∃ b : Bool, e = .returned (.bool b) ∧ Below w.heap.size w w'

set_option maxHeartbeats 1000000 in
theorem great_any (A : Option Addr) (n c : Nat) (zs : List Pl) (most : Int) (w : World) (hz : Plates w A n zs) (hn : n ≤ 9223372036854775807) :
    Calls Try.prog 13 #[.slice A n c, .int .i64 most] w (RetSome w) := by
  have k1 := fun (W : World) (hb : Below w.heap.size w W) => rcheckTest_any A n c zs W (hz.below hb) hn
  have hl := hz.1
  have Hz := Lib.hid hz
  unfold RetSome
  by_cases h10 : 10 < n
  · have h10I : (10 : Int) < (n : Int) := by omega
    clear hz k1
    go_enter Try.func13, Try.ntmps13
    go_wp2_with fail
    go_ret
    exact ⟨true, rfl, blA⟩
  · have h10I : ¬ (10 : Int) < (n : Int) := by omega
    by_cases ht : testE zs = 0
    · obtain ⟨t1, t2, hg⟩ := testE_ok ht
      have hn6 : n ≤ 6 := by omega
      have km := fun (W : World) (hb : Below w.heap.size w W) => many_same A n c zs W (hz.below hb) hn6 hg (manyT zs) rfl
      rw [ht] at k1
      have Hg := Lib.hid hg
      clear hz ht t1 t2 hg
      go_enter Try.func13, Try.ntmps13
      go_wp2_with fail
      go_loopw [5] (fun s5 wx => ∃ (k : Nat), k ≤ n ∧ s5 = .int .i64 (k : Nat) ∧ wx = w) (fun s5 _ => n - (intOf s5).toNat)
      case atStart => exact ⟨0, Nat.zero_le _, rfl, rfl⟩
      case round =>
        obtain ⟨k, hk, rfl, rfl⟩ := hrel
        by_cases hlt : k < n
        · have hltI : (k : Int) < (n : Int) := by omega
          have i0 : (0 : Int) ≤ (k : Int) := by omega
          obtain ⟨b, off, p, rfl, hget, c0, c1⟩ := Hz.out.at_ (Below.refl _ _) hlt
          have hmem := List.mem_of_getElem? hget
          have g4 := (Hg.out p hmem).g4
          have gen := (Hg.out p hmem).en
          have g1 : ¬ (8 : Int) < (p.gn : Int) := by omega
          have g2 : ¬ (8 : Int) < (p.en : Int) := by omega
          go_wp2_with fail
          go_roundw
          case rel => exact ⟨k + 1, by omega, by go_num, by trivial⟩
          case measure => simp [intOf]; omega
        · obtain rfl : k = n := by omega
          go_wp2_with fail
          refine (k1 _ (Below.refl _ _)).mono ?_
          rintro _ w1 ⟨rfl, hb1⟩
          go_wp2_with fail
          refine (km _ hb1).mono ?_
          rintro _ w2 ⟨rfl, rfl⟩
          go_wp2_with fail
          go_ret
          exact ⟨_, rfl, hb1⟩
    · have h0 : (testE zs == 0) = false := by simp [ht]
      generalize testE zs = e at *
      clear hz ht
      go_enter Try.func13, Try.ntmps13
      go_wp2_with fail
      go_loopw [5] (fun s5 wx => ∃ (k : Nat), k ≤ n ∧ s5 = .int .i64 (k : Nat) ∧ wx = w) (fun s5 _ => n - (intOf s5).toNat)
      case atStart => exact ⟨0, Nat.zero_le _, rfl, rfl⟩
      case round =>
        obtain ⟨k, hk, rfl, rfl⟩ := hrel
        by_cases hlt : k < n
        · have hltI : (k : Int) < (n : Int) := by omega
          have i0 : (0 : Int) ≤ (k : Int) := by omega
          obtain ⟨b, off, p, rfl, hget, c0, c1⟩ := Hz.out.at_ (Below.refl _ _) hlt
          by_cases g1 : (8 : Int) < (p.gn : Int)
          · go_wp2_with fail
            go_ret
            exact ⟨true, rfl, blA⟩
          · by_cases g2 : (8 : Int) < (p.en : Int)
            · go_wp2_with fail
              go_ret
              (refine ⟨?_, Below.refl _ _⟩; first | rfl | (simp; done))
            · go_wp2_with fail
              go_roundw
              case rel => exact ⟨k + 1, by omega, by go_num, by trivial⟩
              case measure => simp [intOf]; omega
        · obtain rfl : k = n := by omega
          go_wp2_with fail
          refine (k1 _ (Below.refl _ _)).mono ?_
          rintro _ w1 ⟨rfl, hb1⟩
          go_wp2_with fail
          go_ret
          exact ⟨_, rfl, hb1⟩

end Go.Proofs.Ytcmllkjgggcghaa
end

/- What every statement of layer 10 leans on: how arguments read, how they read again behind a call. -/
section
namespace Go.Proofs.Ytcmllkjgggcghaa
open Go.ChangeShapes Go.WideShapes Go.ChangeAt Go.RowKit
set_option linter.unusedSimpArgs false
set_option linter.unusedVariables false

theorem own : ownKnob Try.prog.godebug = none := by kernel_rfl
theorem cellsI : Try.prog.cellsOf 3 = 1 := by kernel_rfl
/-- a world for the witness -/
noncomputable def startWorld (os : Os) : World := World.holding Try.prog os ⟨#[], #[], []⟩

section
variable {H : Type} {enc : TypeId × Value → H} {P : Program}

theorem trodAll_stays (hl : laidOutB P = true) {W W' : World} {sp : Nat → Bool} : ∀ {ts : List TypeId} {vs : List Value} {ds : List (DataW H)} {ps : List MemPlace}, (∀ t ∈ ts, P.readableRec t = true ∧ t < P.types.size) →
    DataW.TrodAll enc P W 0 (fun _ => true) true ts vs ds ps → (∀ p ∈ ps, W.sameAt W' p) → (∀ p ∈ ps, sp p.block = true) → DataW.TrodAll enc P W' 0 sp true ts vs ds ps
  | [], [], [], ps, _, h, _, _ => h
  | t :: ts, v :: vs, d :: ds, ps, hr, h, hs, hp => by
    obtain ⟨p, q, h1, h2, rfl⟩ := h
    exact ⟨p, q, WideElems.Trod_stays hl (hr t (by simp)).1 (hr t (by simp)).2 h1 (fun x hx => hs x (by simp [hx])) (fun x hx => hp x (by simp [hx])),
      trodAll_stays hl (fun u hu => hr u (by simp [hu])) h2 (fun x hx => hs x (by simp [hx])) (fun x hx => hp x (by simp [hx])), rfl⟩
  | [], _ :: _, _, _, _, h, _, _ => by simp [DataW.TrodAll] at h
  | [], [], _ :: _, _, _, h, _, _ => by simp [DataW.TrodAll] at h
  | _ :: _, [], _, _, _, h, _, _ => by simp [DataW.TrodAll] at h
  | _ :: _, _ :: _, [], _, _, h, _, _ => by simp [DataW.TrodAll] at h

/-- the call answers true, and has touched nothing that was there -/
theorem law_done (hl : laidOutB P = true) {f : Func} {s : ChangeSpec} {apart fresh handsOn again : Bool} {W W' : World} {args : Array Value} {ds gs : List (DataW H)} {before : List MemPlace} {tb : TypeId} (hv : s.vars = [])
    (hts : ∀ t ∈ f.params.toList, P.readableRec t = true ∧ t < P.types.size) (hres : f.resultTypes = #[tb]) (hub : P.underlying tb = some .bool)
    (hW : DataW.Whole enc P f.params.toList s.vars apart W args.toList ds gs before)
    (h1 : gs = [] → (s.fn H (ds ++ gs)).results = [.lit (.bool true)]) (h2 : gs = [] → (s.fn H (ds ++ gs)).args = ds) (h3 : gs = [] → (s.fn H (ds ++ gs)).vars = []) (hb : Below W.heap.size W W') :
    s.post enc P f apart fresh handsOn again W args (.bool true) W' := by
  have hlt : ∀ p ∈ before, p.block < W.heap.size := fun p hp => hW.lt p hp
  have hold : ∀ p ∈ before, (fun b => decide (b < W.heap.size)) p.block = true := fun p hp => by simpa using hlt p hp
  have hW0 := hW
  obtain ⟨pa, pv, hA, hV, hps, hz, hn⟩ := hW
  rw [hv] at hV
  obtain ⟨rfl, rfl⟩ := trodVars_none hV
  simp only [List.append_nil] at hps
  subst hps
  have e1 := h1 rfl
  have e2 := h2 rfl
  have e3 := h3 rfl
  have hres2 : ∀ (b : Nat) (sp : Nat → Bool) (hd : Bool), DataW.TrodAll enc P W' b sp hd f.resultTypes.toList ((Value.bool true).resultList f.resultTypes.size) (s.fn H (ds ++ [])).results [] := by
    intro b sp hd
    rw [e1, hres]
    exact trodAll_cons_mk (shut_bool hub _) trodAll_mk0
  have hargs : ∀ sp : Nat → Bool, (∀ p ∈ before, sp p.block = true) → DataW.TrodAll enc P W' 0 sp true f.params.toList args.toList (s.fn H (ds ++ [])).args before := by
    intro sp hsp
    rw [e2]
    exact trodAll_stays hl hts hA (fun x hx => hb.same (hlt x hx)) hsp
  have hvars : ∀ sp : Nat → Bool, DataW.TrodVars enc P W' sp s.vars (s.fn H (ds ++ [])).vars [] := by
    intro sp
    rw [e3, hv]; rfl
  refine ⟨ds, [], before, [], before, [], hW0, hres2 _ _ _, hargs _ hold, hvars _, World.keptBut_mono (fun p hp => ⟨hp, by simp [show p ∈ before from hp]⟩) (hb.frame (· ∈ before)), fun _ => ?_⟩
  refine ⟨?_, _, _, ([] ++ before) ++ [], ⟨[] ++ before, [], trodAll_append (hargs _ (fun _ _ => rfl)) (hres2 _ _ _), hvars _, rfl, ?_, ?_⟩, ?_⟩
  · exact ok_one hres rfl (okWide_bool_mk hub _)
  · intro b off hp
    have hin : MemPlace.cell b off ∈ before := by simpa using hp
    rw [hb.frozen (hlt _ hin)]
    exact hz b off hin
  · intro ha
    have := hn ha
    simpa using this
  · intro p hp _
    simpa using hp

variable {W : World} {r : Reach} {b0 base : Nat} {sp : Nat → Bool} {held : Bool} {fuel : Nat} {v : Value} {d : DataW H} {p : List MemPlace} {cs : List Value} {x : DataW H × List MemPlace}

theorem trodAll_five {t0 t1 t2 t3 t4 : TypeId} {w : World} {spare : Nat → Bool} {args : Array Value} {ds : List (DataW H)} {ps : List MemPlace} (h : DataW.TrodAll enc P w base spare held [t0, t1, t2, t3, t4] args.toList ds ps) :
    ∃ v0 v1 v2 v3 v4 d0 d1 d2 d3 d4 p0 p1 p2 p3 p4, args = #[v0, v1, v2, v3, v4] ∧ ds = [d0, d1, d2, d3, d4] ∧ ps = p0 ++ (p1 ++ (p2 ++ (p3 ++ (p4 ++ [])))) ∧ DataW.Trod enc P w base spare held t0 v0 d0 p0 ∧ DataW.Trod enc P w base spare held t1 v1 d1 p1 ∧ DataW.Trod enc P w base spare held t2 v2 d2 p2 ∧ DataW.Trod enc P w base spare held t3 v3 d3 p3 ∧ DataW.Trod enc P w base spare held t4 v4 d4 p4 := by
  obtain ⟨v0, vs0, d0, ds0, p0, q0, e0, rfl, rfl, h0, h⟩ := trodAll_cons h
  obtain ⟨v1, vs1, d1, ds1, p1, q1, rfl, rfl, rfl, h1, h⟩ := trodAll_cons h
  obtain ⟨v2, vs2, d2, ds2, p2, q2, rfl, rfl, rfl, h2, h⟩ := trodAll_cons h
  obtain ⟨v3, vs3, d3, ds3, p3, q3, rfl, rfl, rfl, h3, h⟩ := trodAll_cons h
  obtain ⟨v4, vs4, d4, ds4, p4, q4, rfl, rfl, rfl, h4, h⟩ := trodAll_cons h
  obtain ⟨rfl, rfl, rfl⟩ := trodAll_nil h
  exact ⟨v0, v1, v2, v3, v4, d0, d1, d2, d3, d4, p0, p1, p2, p3, p4, by cases args; simp_all, rfl, rfl, h0, h1, h2, h3, h4⟩

theorem trod_pair {T E : TypeId} {f0 f1 : Field} {k : IntKind} (hu : Try.prog.underlying T = some (.struct #[f0, f1])) (hc : Try.prog.cellsOf T = 2) (hE : Try.prog.underlying E = some (.int k)) (hcE : Try.prog.cellsOf E = 1) (e0 : f0.type = E) (e1 : f1.type = E) (o0 : f0.offset = 0) (o1 : f1.offset = 1)
    (h : DataW.trod enc Try.prog W base sp held fuel T cs = some x) : ∃ a b : Int, cs = [.int k a, .int k b] ∧ (Lit.int k a).wf = true ∧ (Lit.int k b).wf = true := by
  obtain ⟨y0, y1, n, _, hl, h0, h1⟩ := trod_struct2 hu h
  rw [hc] at hl
  rw [e0, o0, hcE] at h0
  rw [e1, o1, hcE] at h1
  obtain ⟨c0, c1, rfl⟩ := len_two hl
  simp only [List.drop_zero, List.drop_succ_cons, List.take_succ_cons, List.take_zero] at h0 h1
  obtain ⟨a, q0, _, w0⟩ := DataW.trod_int hE h0
  obtain ⟨b, q1, _, w1⟩ := DataW.trod_int hE h1
  simp only [List.cons.injEq, and_true] at q0 q1
  exact ⟨a, b, by rw [q0, q1], w0, w1⟩

set_option maxRecDepth 100000 in
theorem arg_rat (hv : Value.okWide Try.prog W r b0 25 v) (h : DataW.Trod enc Try.prog W base sp held 25 v d p) : ∃ a b : Int, v = .agg #[.int .i64 a, .int .i64 b] ∧ (Lit.int .i64 a).wf = true ∧ (Lit.int .i64 b).wf = true := by
  obtain ⟨cs, rfl, _⟩ := okWide_struct Try.underlying25 hv
  obtain ⟨fuel, hf⟩ := h
  obtain ⟨a, b, e, w⟩ := trod_pair (E := 2) Try.underlying25 (by kernel_rfl) Try.underlying2 (by kernel_rfl) rfl rfl rfl rfl hf
  exact ⟨a, b, by rw [show cs = #[.int .i64 a, .int .i64 b] from Array.ext' (by simpa [Value.cells] using e)], w⟩
set_option maxRecDepth 100000 in
theorem arg_plan (hv : Value.okWide Try.prog W r b0 38 v) (h : DataW.Trod enc Try.prog W base sp held 38 v d p) : ∃ a b : Int, v = .agg #[.int .i64 a, .int .i64 b] ∧ (Lit.int .i64 a).wf = true ∧ (Lit.int .i64 b).wf = true := by
  obtain ⟨cs, rfl, _⟩ := okWide_struct Try.underlying38 hv
  obtain ⟨fuel, hf⟩ := h
  obtain ⟨a, b, e, w⟩ := trod_pair (E := 3) Try.underlying38 (by kernel_rfl) Try.underlying3 (by kernel_rfl) rfl rfl rfl rfl hf
  exact ⟨a, b, by rw [show cs = #[.int .i64 a, .int .i64 b] from Array.ext' (by simpa [Value.cells] using e)], w⟩

end
end Go.Proofs.Ytcmllkjgggcghaa
end

/- How lists of numbers, and lists of plates, read as arguments. -/
section
namespace Go.Proofs.Ytcmllkjgggcghaa
open Go.ChangeShapes Go.WideShapes Go.ChangeAt Go.RowKit
set_option linter.unusedSimpArgs false
set_option linter.unusedVariables false

section
variable {H : Type} {enc : TypeId × Value → H}
variable {W : World} {r : Reach} {b0 base : Nat} {sp : Nat → Bool} {held : Bool} {fuel : Nat} {v : Value} {d : DataW H} {p : List MemPlace} {cs : List Value} {x : DataW H × List MemPlace}

instance : Inhabited Pl := ⟨⟨none, 0, 0, [], none, 0, 0, []⟩⟩
theorem cell_lt {w : World} {b o : Nat} {u : Value} (h : w.cell? ⟨b, o, none⟩ = some u) : b < w.heap.size := by
  rcases Nat.lt_or_ge b w.heap.size with h1 | h1
  · exact h1
  · simp [World.cell?, Array.getElem?_eq_none h1] at h

theorem trod_list {T E : TypeId} (hT : Try.prog.underlying T = some (.slice E)) (hE : Try.prog.underlying E = some (.int .i64)) (hc : Try.prog.cellsOf E = 1) (hf : DataW.trod enc Try.prog W base sp held fuel T cs = some x) :
    ∃ (A : Option Addr) (n cap : Nat) (zs : List Int), cs = [.slice A n cap] ∧ Ints W A n zs ∧ n ≤ 9223372036854775807 := by
  rcases open_ints hT hE hc hf with ⟨hcs, _⟩ | ⟨a, len', cap', zs, hcs, _, hl, hm, hz, _, hcell, _⟩
  · exact ⟨none, 0, 0, [], hcs, ⟨rfl, fun h => absurd h (by omega)⟩, by omega⟩
  · unfold maxLen at hm
    have hlen : len' ≤ zs.length := by rw [hz]; split <;> omega
    refine ⟨some a, len', cap', zs.take len', hcs, ⟨by simp; omega, fun hn => ?_⟩, by omega⟩
    obtain ⟨b, off, rfl, hc⟩ := ints_at hcell (by omega)
    refine ⟨b, off, rfl, cell_lt (hc 0 (by omega)), fun i hi => ?_⟩
    rw [hc i (by omega)]
    simp [List.getD_eq_getElem?_getD, List.getElem?_take_of_lt hi]

set_option maxRecDepth 100000 in
theorem arg_ints (hv : Value.okWide Try.prog W r b0 23 v) (h : DataW.Trod enc Try.prog W base sp held 23 v d p) :
    ∃ (A : Option Addr) (n cap : Nat) (zs : List Int), v = .slice A n cap ∧ Ints W A n zs ∧ n ≤ 9223372036854775807 := by
  obtain ⟨A, len, cap, rfl⟩ := okWide_slice Try.underlying23 hv
  obtain ⟨fuel, hf⟩ := h
  obtain ⟨A', n', cap', zs, e, h1, h2⟩ := trod_list Try.underlying23 Try.underlying3 (by kernel_rfl) hf
  simp [Value.cells] at e
  obtain ⟨rfl, rfl, rfl⟩ := e
  exact ⟨A, len, cap, zs, rfl, h1, h2⟩

theorem cells2 {w : World} {a : Addr} {x y : Value} (h : w.cells? base a 2 = some [x, y]) : w.cell? (a.add 0) = some x ∧ w.cell? (a.add 1) = some y := by
  unfold World.cells? at h
  split at h
  · simp [List.range, List.range.loop] at h
    cases h0 : w.cell? (a.add 0) with
    | none => simp [h0] at h
    | some x0 =>
      cases h1 : w.cell? (a.add 1) with
      | none => simp [h0, h1] at h
      | some x1 =>
        simp [h0, h1] at h
        obtain ⟨rfl, rfl⟩ := h
        exact ⟨rfl, rfl⟩
  · cases h

theorem cellsL : Try.prog.cellsOf 71 = 1 := by kernel_rfl
theorem cellsPl : Try.prog.cellsOf 73 = 2 := by kernel_rfl
set_option maxRecDepth 100000 in
theorem trod_plate (h : DataW.trod enc Try.prog W base sp held fuel 73 cs = some x) : ∃ q : Pl, cs = [.slice q.gA q.gn q.gc, .slice q.eA q.en q.ec] ∧ PlOk W q := by
  obtain ⟨y0, y1, n, _, hl, h0, h1⟩ := trod_struct2 Try.underlying73 h
  rw [cellsPl] at hl
  obtain ⟨c0, c1, rfl⟩ := len_two hl
  simp only [List.drop_zero, List.drop_succ_cons, cellsL, List.take_succ_cons, List.take_zero] at h0 h1
  obtain ⟨gA, gn, gc, gs, e0, i0, b0⟩ := trod_list Try.underlying71 Try.underlying2 (by kernel_rfl) h0
  obtain ⟨eA, en, ec, es, e1, i1, b1⟩ := trod_list Try.underlying71 Try.underlying2 (by kernel_rfl) h1
  simp only [List.cons.injEq, and_true] at e0 e1
  exact ⟨⟨gA, gn, gc, gs, eA, en, ec, es⟩, by rw [e0, e1], i0, i1, b0, b1⟩

set_option maxRecDepth 100000 in
theorem arg_plates (hv : Value.okWide Try.prog W r b0 22 v) (h : DataW.Trod enc Try.prog W base sp held 22 v d p) :
    ∃ (A : Option Addr) (n cap : Nat) (zs : List Pl), v = .slice A n cap ∧ Plates W A n zs ∧ n ≤ 9223372036854775807 := by
  obtain ⟨A, len, cap, rfl⟩ := okWide_slice Try.underlying22 hv
  obtain ⟨fuel, hf⟩ := h
  rcases Go.Deep.open_slice Try.underlying22 hf with ⟨hcs, _⟩ | ⟨a, len', cap', m, k, D, Pp, hcs, _, hl, hm, hmm, _, hel⟩
  · simp [Value.cells] at hcs
    obtain ⟨rfl, rfl, rfl⟩ := hcs
    exact ⟨none, 0, 0, [], rfl, ⟨rfl, fun h => absurd h (by omega), fun q hq => by cases hq⟩, by omega⟩
  · simp [Value.cells] at hcs
    obtain ⟨rfl, rfl, rfl⟩ := hcs
    unfold maxLen at hm
    have hlen : len ≤ m := by rw [hmm]; split <;> omega
    rw [cellsPl] at hel
    have hq : ∀ i, i < m → ∃ q : Pl, W.cell? ((a.add (i * 2)).add 0) = some (.slice q.gA q.gn q.gc) ∧ W.cell? ((a.add (i * 2)).add 1) = some (.slice q.eA q.en q.ec) ∧ PlOk W q := by
      intro i hi
      obtain ⟨cs', h1, h2⟩ := hel i hi
      obtain ⟨q, rfl, hok⟩ := trod_plate h2
      obtain ⟨c0, c1⟩ := cells2 h1
      exact ⟨q, c0, c1, hok⟩
    obtain ⟨f, hf'⟩ := Go.Deep.choose_lt hq
    refine ⟨some a, len, cap, (List.range len).map f, rfl, ⟨by simp, fun hn => ?_, fun q hq => ?_⟩, by omega⟩
    · obtain ⟨b, off, spot⟩ := a
      have hspot : spot = none := by
        have := (hf' 0 (by omega)).1
        simpa [Addr.add] using World.cell?_spot this
      subst hspot
      have plain : ∀ i j, ((⟨b, off, none⟩ : Addr).add i).add j = ⟨b, off + i + j, none⟩ := by
        intro i j
        rw [Go.Deep.add_add, Go.WideShapes.add_plain, Nat.add_assoc]
      refine ⟨b, off, rfl, ?_, fun i q hi => ?_⟩
      · have := (hf' 0 (by omega)).1
        rw [plain] at this
        exact cell_lt this
      · have hil : i < len := by have := (List.getElem?_eq_some_iff.1 hi).1; simpa using this
        have hget : f i = q := by
          rw [List.getElem?_map, List.getElem?_range hil] at hi
          simpa using hi
        have h1 := (hf' i (by omega)).1
        have h2 := (hf' i (by omega)).2.1
        rw [plain, hget] at h1 h2
        exact ⟨h1, h2⟩
    · obtain ⟨i, hi, rfl⟩ := List.mem_map.1 hq
      exact (hf' i (by have := List.mem_range.1 hi; omega)).2.2

end
end Go.Proofs.Ytcmllkjgggcghaa
end
