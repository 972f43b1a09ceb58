/- BTie TA2 TA3 TT3 -/
import Derived.Test.YtminplfgadhnnaaGreatDoorCards
import Derived.Test.YtminplfgadhnnaaGreatDoorTie
import Derived.Test.YtminplfgadhnnaaGreatDoorSC10
import Derived.ProofKit
import Derived.OpenShut
import Derived.Deep.DeepHandedRow
import Derived.Deep.Slices
import Derived.Lib.LaidTab
import Derived.Test.YtminplfgadhnnaaGreatDoorSC15
import Derived.Test.YtminplfgadhnnaaGreatDoorSC11
import Derived.Test.YtminplfgadhnnaaGreatDoorSC07
/- What every statement of layer 2 leans on: how arguments read, how they read again behind a call, what the listed variable holds. -/
section
namespace Go.Proofs.YtminplfgadhnnaaGreatDoor
open Go.ChangeShapes Go.WideShapes Go.ChangeAt Go.RowKit
set_option linter.unusedSimpArgs false
set_option linter.unusedVariables false

theorem own : ownKnob Tryz.prog.godebug = none := by kernel_rfl
theorem laidOut : laidOutB Tryz.prog = true := by kernel_rfl
section
variable {H : Type} {enc : TypeId × Value → H} {P : Program}

theorem trodAll_stays (hl : laidOutB P = true) {W W' : World} {sp : Nat → Bool} : ∀ {ts : List TypeId} {vs : List Value} {ds : List (DataW H)} {ps : List MemPlace}, (∀ t ∈ ts, P.readableRec t = true ∧ t < P.types.size) →
    DataW.TrodAll enc P W 0 (fun _ => true) true ts vs ds ps → (∀ p ∈ ps, W.sameAt W' p) → (∀ p ∈ ps, sp p.block = true) → DataW.TrodAll enc P W' 0 sp true ts vs ds ps
  | [], [], [], ps, _, h, _, _ => h
  | t :: ts, v :: vs, d :: ds, ps, hr, h, hs, hp => by
    obtain ⟨p, q, h1, h2, rfl⟩ := h
    exact ⟨p, q, WideElems.Trod_stays hl (hr t (by simp)).1 (hr t (by simp)).2 h1 (fun x hx => hs x (by simp [hx])) (fun x hx => hp x (by simp [hx])),
      trodAll_stays hl (fun u hu => hr u (by simp [hu])) h2 (fun x hx => hs x (by simp [hx])) (fun x hx => hp x (by simp [hx])), rfl⟩
  | [], _ :: _, _, _, _, h, _, _ => by simp [DataW.TrodAll] at h
  | [], [], _ :: _, _, _, h, _, _ => by simp [DataW.TrodAll] at h
  | _ :: _, [], _, _, _, h, _, _ => by simp [DataW.TrodAll] at h
  | _ :: _, _ :: _, [], _, _, h, _, _ => by simp [DataW.TrodAll] at h

/-- the call answers true, and has touched nothing that was there -/
theorem law_done (hl : laidOutB P = true) {f : Func} {s : ChangeSpec} {apart fresh handsOn again : Bool} {W W' : World} {args : Array Value} {ds gs : List (DataW H)} {before : List MemPlace} {tb : TypeId} (hv : s.vars = [])
    (hts : ∀ t ∈ f.params.toList, P.readableRec t = true ∧ t < P.types.size) (hres : f.resultTypes = #[tb]) (hub : P.underlying tb = some .bool)
    (hW : DataW.Whole enc P f.params.toList s.vars apart W args.toList ds gs before)
    (h1 : gs = [] → (s.fn H (ds ++ gs)).results = [.lit (.bool true)]) (h2 : gs = [] → (s.fn H (ds ++ gs)).args = ds) (h3 : gs = [] → (s.fn H (ds ++ gs)).vars = []) (hb : Below W.heap.size W W') :
    s.post enc P f apart fresh handsOn again W args (.bool true) W' := by
  have hlt : ∀ p ∈ before, p.block < W.heap.size := fun p hp => hW.lt p hp
  have hold : ∀ p ∈ before, (fun b => decide (b < W.heap.size)) p.block = true := fun p hp => by simpa using hlt p hp
  have hW0 := hW
  obtain ⟨pa, pv, hA, hV, hps, hz, hn⟩ := hW
  rw [hv] at hV
  obtain ⟨rfl, rfl⟩ := trodVars_none hV
  simp only [List.append_nil] at hps
  subst hps
  have e1 := h1 rfl
  have e2 := h2 rfl
  have e3 := h3 rfl
  have hres2 : ∀ (b : Nat) (sp : Nat → Bool) (hd : Bool), DataW.TrodAll enc P W' b sp hd f.resultTypes.toList ((Value.bool true).resultList f.resultTypes.size) (s.fn H (ds ++ [])).results [] := by
    intro b sp hd
    rw [e1, hres]
    exact trodAll_cons_mk (shut_bool hub _) trodAll_mk0
  have hargs : ∀ sp : Nat → Bool, (∀ p ∈ before, sp p.block = true) → DataW.TrodAll enc P W' 0 sp true f.params.toList args.toList (s.fn H (ds ++ [])).args before := by
    intro sp hsp
    rw [e2]
    exact trodAll_stays hl hts hA (fun x hx => hb.same (hlt x hx)) hsp
  have hvars : ∀ sp : Nat → Bool, DataW.TrodVars enc P W' sp s.vars (s.fn H (ds ++ [])).vars [] := by
    intro sp
    rw [e3, hv]; rfl
  refine ⟨ds, [], before, [], before, [], hW0, hres2 _ _ _, hargs _ hold, hvars _, World.keptBut_mono (fun p hp => ⟨hp, by simp [show p ∈ before from hp]⟩) (hb.frame (· ∈ before)), fun _ => ?_⟩
  refine ⟨?_, _, _, ([] ++ before) ++ [], ⟨[] ++ before, [], trodAll_append (hargs _ (fun _ _ => rfl)) (hres2 _ _ _), hvars _, rfl, ?_, ?_⟩, ?_⟩
  · exact ok_one hres rfl (okWide_bool_mk hub _)
  · intro b off hp
    have hin : MemPlace.cell b off ∈ before := by simpa using hp
    rw [hb.frozen (hlt _ hin)]
    exact hz b off hin
  · intro ha
    have := hn ha
    simpa using this
  · intro p hp _
    simpa using hp

variable {W : World} {r : Reach} {b0 base : Nat} {sp : Nat → Bool} {held : Bool} {fuel : Nat} {v : Value} {d : DataW H} {p : List MemPlace} {cs : List Value} {x : DataW H × List MemPlace}

theorem cell_lt {w : World} {b o : Nat} {u : Value} (h : w.cell? ⟨b, o, none⟩ = some u) : b < w.heap.size := by
  rcases Nat.lt_or_ge b w.heap.size with h1 | h1
  · exact h1
  · simp [World.cell?, Array.getElem?_eq_none h1] at h
theorem len_two' {α : Type} {l : List α} (h : l.length = 2) : ∃ a b, l = [a, b] := by
  match l, h with
  | [a, b], _ => exact ⟨a, b, rfl⟩
theorem trod_pair {T E : TypeId} {f0 f1 : Field} {k : IntKind} (hu : Tryz.prog.underlying T = some (.struct #[f0, f1])) (hc : Tryz.prog.cellsOf T = 2) (hE : Tryz.prog.underlying E = some (.int k)) (hcE : Tryz.prog.cellsOf E = 1) (e0 : f0.type = E) (e1 : f1.type = E) (o0 : f0.offset = 0) (o1 : f1.offset = 1)
    (h : DataW.trod enc Tryz.prog W base sp held fuel T cs = some x) : ∃ a b : Int, cs = [.int k a, .int k b] ∧ (Lit.int k a).wf = true ∧ (Lit.int k b).wf = true := by
  obtain ⟨y0, y1, n, _, hl, h0, h1⟩ := trod_struct2 hu h
  rw [hc] at hl
  rw [e0, o0, hcE] at h0
  rw [e1, o1, hcE] at h1
  obtain ⟨c0, c1, rfl⟩ := len_two' hl
  simp only [List.drop_zero, List.drop_succ_cons, List.take_succ_cons, List.take_zero] at h0 h1
  obtain ⟨a, q0, _, w0⟩ := DataW.trod_int hE h0
  obtain ⟨b, q1, _, w1⟩ := DataW.trod_int hE h1
  simp only [List.cons.injEq, and_true] at q0 q1
  exact ⟨a, b, by rw [q0, q1], w0, w1⟩

theorem trodAll_four_ {t0 t1 t2 t3 : TypeId} {w : World} {base : Nat} {held : Bool} {spare : Nat → Bool} {args : Array Value} {ds : List (DataW H)} {ps : List MemPlace} (h : DataW.TrodAll enc P w base spare held [t0, t1, t2, t3] args.toList ds ps) :
    ∃ v0 v1 v2 v3 d0 d1 d2 d3 p0 p1 p2 p3, args = #[v0, v1, v2, v3] ∧ ds = [d0, d1, d2, d3] ∧ ps = p0 ++ (p1 ++ (p2 ++ (p3 ++ []))) ∧ DataW.Trod enc P w base spare held t0 v0 d0 p0 ∧ DataW.Trod enc P w base spare held t1 v1 d1 p1 ∧ DataW.Trod enc P w base spare held t2 v2 d2 p2 ∧ DataW.Trod enc P w base spare held t3 v3 d3 p3 := by
  obtain ⟨v0, vs0, d0, ds0, p0, q0, e0, rfl, rfl, h0, h⟩ := trodAll_cons h
  obtain ⟨v1, vs1, d1, ds1, p1, q1, rfl, rfl, rfl, h1, h⟩ := trodAll_cons h
  obtain ⟨v2, vs2, d2, ds2, p2, q2, rfl, rfl, rfl, h2, h⟩ := trodAll_cons h
  obtain ⟨v3, vs3, d3, ds3, p3, q3, rfl, rfl, rfl, h3, h⟩ := trodAll_cons h
  obtain ⟨rfl, rfl, rfl⟩ := trodAll_nil h
  exact ⟨v0, v1, v2, v3, d0, d1, d2, d3, p0, p1, p2, p3, by cases args; simp_all, rfl, rfl, h0, h1, h2, h3⟩
theorem cells2 {w : World} {a : Addr} {x y : Value} (h : w.cells? base a 2 = some [x, y]) : w.cell? (a.add 0) = some x ∧ w.cell? (a.add 1) = some y := by
  unfold World.cells? at h
  split at h
  · simp [List.range, List.range.loop] at h
    cases h0 : w.cell? (a.add 0) with
    | none => simp [h0] at h
    | some x0 =>
      cases h1 : w.cell? (a.add 1) with
      | none => simp [h0, h1] at h
      | some x1 =>
        simp [h0, h1] at h
        obtain ⟨rfl, rfl⟩ := h
        exact ⟨rfl, rfl⟩
  · cases h

end
end Go.Proofs.YtminplfgadhnnaaGreatDoor
end

/- How lamps, bytes and pairs read as arguments. -/
section
namespace Go.Proofs.YtminplfgadhnnaaGreatDoor
open Go.ChangeShapes Go.WideShapes Go.ChangeAt Go.RowKit
set_option linter.unusedSimpArgs false
set_option linter.unusedVariables false

section
variable {H : Type} {enc : TypeId × Value → H}
variable {W : World} {r : Reach} {b0 base : Nat} {sp : Nat → Bool} {held : Bool} {fuel : Nat} {v : Value} {d : DataW H} {p : List MemPlace} {cs : List Value} {x : DataW H × List MemPlace}

theorem cellsTBool : Tryz.prog.cellsOf 4 = 1 := by kernel_rfl
theorem cellsTRange : Tryz.prog.cellsOf 32 = 2 := by kernel_rfl
set_option maxRecDepth 100000 in
theorem sl_ints (h : DataW.trod enc Tryz.prog W base sp held fuel 22 cs = some x) :
    ∃ (A : Option Addr) (n cap : Nat) (zs : List Int), cs = [.slice A n cap] ∧ Ints W A n zs ∧ n ≤ 9223372036854775807 ∧ n ≤ cap := by
  rcases open_ints Tryz.underlying22 Tryz.underlying2 cellsTopI64 h with ⟨hcs, _⟩ | ⟨a, len, cap, zs, hcs, _, hl, hm, hz, _, hcell, _⟩
  · exact ⟨none, 0, 0, [], hcs, ⟨rfl, fun h => absurd h (by omega)⟩, by omega, by omega⟩
  · unfold maxLen at hm
    have hlen : len ≤ zs.length := by rw [hz]; split <;> omega
    refine ⟨some a, len, cap, zs.take len, hcs, ⟨by simp; omega, fun hn => ?_⟩, by omega, hl⟩
    obtain ⟨b, off, rfl, hc⟩ := ints_at hcell (by omega)
    refine ⟨b, off, rfl, cell_lt (hc 0 (by omega)), fun i hi => ?_⟩
    rw [hc i (by omega)]
    simp [List.getD_eq_getElem?_getD, List.getElem?_take_of_lt hi]
set_option maxRecDepth 100000 in
theorem sl_u8s (h : DataW.trod enc Tryz.prog W base sp held fuel 27 cs = some x) :
    ∃ (A : Option Addr) (n cap : Nat) (zs : List Int), cs = [.slice A n cap] ∧ U8s W A n zs ∧ n ≤ 9223372036854775807 ∧ n ≤ cap := by
  rcases open_ints Tryz.underlying27 Tryz.underlying5 cellsTopU8 h with ⟨hcs, _⟩ | ⟨a, len, cap, zs, hcs, _, hl, hm, hz, _, hcell, hwf⟩
  · exact ⟨none, 0, 0, [], hcs, ⟨rfl, fun h => absurd h (by omega)⟩, by omega, by omega⟩
  · unfold maxLen at hm
    have hlen : len ≤ zs.length := by rw [hz]; split <;> omega
    refine ⟨some a, len, cap, zs.take len, hcs, ⟨by simp; omega, fun hn => ?_⟩, by omega, hl⟩
    obtain ⟨b, off, rfl, hc⟩ := ints_at hcell (by omega)
    refine ⟨b, off, rfl, cell_lt (hc 0 (by omega)), fun i hi => ?_⟩
    have e : (zs.take len).getD i 0 = zs.getD i 0 := by simp [List.getD_eq_getElem?_getD, List.getElem?_take_of_lt hi]
    have hb := bounds_u8 (hwf (zs.getD i 0) (by rw [List.getD_eq_getElem?_getD, List.getElem?_eq_getElem (by omega)]; exact List.getElem_mem _))
    rw [e]
    exact ⟨hc i (by omega), hb.1, hb.2⟩
set_option maxRecDepth 100000 in
theorem sl_bools (h : DataW.trod enc Tryz.prog W base sp held fuel 24 cs = some x) :
    ∃ (A : Option Addr) (n cap : Nat) (zs : List Bool), cs = [.slice A n cap] ∧ Bls W A n zs ∧ n ≤ 9223372036854775807 ∧ n ≤ cap := by
  rcases Go.Deep.open_slice1 Tryz.underlying24 cellsTBool h with ⟨hcs, _⟩ | ⟨a, len, cap, m, n, V, D, Pl, hcs, _, hl, hm, hmm, _, hel⟩
  · exact ⟨none, 0, 0, [], hcs, ⟨rfl, fun h => absurd h (by omega)⟩, by omega, by omega⟩
  · unfold maxLen at hm
    have hlen : len ≤ m := by rw [hmm]; split <;> omega
    have hq : ∀ i, i < m → ∃ y : Bool, W.cell? (a.add i) = some (.bool y) := fun i hi => by
      obtain ⟨h1, h2⟩ := hel i hi
      obtain ⟨y, e, _⟩ := DataW.trod_bool Tryz.underlying4 h2
      exact ⟨y, by rw [h1]; simpa using e⟩
    obtain ⟨f, hf⟩ := Go.Deep.choose_lt hq
    refine ⟨some a, len, cap, (List.range len).map f, hcs, ⟨by simp, fun hn => ?_⟩, by omega, hl⟩
    obtain ⟨b, off, spot⟩ := a
    have hspot : spot = none := by
      have := hf 0 (by omega)
      simpa [Addr.add] using World.cell?_spot this
    subst hspot
    refine ⟨b, off, rfl, ?_, fun i hi => ?_⟩
    · have := hf 0 (by omega)
      rw [Go.WideShapes.add_plain] at this
      exact cell_lt this
    · have := hf i (by omega)
      rw [Go.WideShapes.add_plain] at this
      rw [this]
      simp [List.getD_eq_getElem?_getD, hi]
set_option maxRecDepth 100000 in
theorem sl_ranges (h : DataW.trod enc Tryz.prog W base sp held fuel 23 cs = some x) :
    ∃ (A : Option Addr) (n cap : Nat) (zs : List (Int × Int)), cs = [.slice A n cap] ∧ Prs W A n zs ∧ n ≤ 9223372036854775807 ∧ n ≤ cap := by
  rcases Go.Deep.open_slice Tryz.underlying23 h with ⟨hcs, _⟩ | ⟨a, len, cap, m, k, D, Pl, hcs, _, hl, hm, hmm, _, hel⟩
  · exact ⟨none, 0, 0, [], hcs, ⟨rfl, fun h => absurd h (by omega)⟩, by omega, by omega⟩
  · unfold maxLen at hm
    have hlen : len ≤ m := by rw [hmm]; split <;> omega
    rw [cellsTRange] at hel
    have hq : ∀ i, i < m → ∃ x : Int × Int, W.cell? ((a.add (i * 2)).add 0) = some (.int .i64 x.1) ∧ W.cell? ((a.add (i * 2)).add 1) = some (.int .i64 x.2) := by
      intro i hi
      obtain ⟨cs', h1, h2⟩ := hel i hi
      obtain ⟨x, y, rfl, _⟩ := trod_pair Tryz.underlying32 cellsTRange Tryz.underlying2 cellsTopI64 rfl rfl rfl rfl h2
      exact ⟨(x, y), cells2 h1⟩
    obtain ⟨f, hf'⟩ := Go.Deep.choose_lt hq
    refine ⟨some a, len, cap, (List.range len).map f, hcs, ⟨by simp, fun hn => ?_⟩, by omega, hl⟩
    obtain ⟨b, off, spot⟩ := a
    have hspot : spot = none := by
      have := (hf' 0 (by omega)).1
      simpa [Addr.add] using World.cell?_spot this
    subst hspot
    have plain : ∀ i j, ((⟨b, off, none⟩ : Addr).add i).add j = ⟨b, off + i + j, none⟩ := by
      intro i j
      rw [Go.Deep.add_add, Go.WideShapes.add_plain, Nat.add_assoc]
    refine ⟨b, off, rfl, ?_, fun i x y hi => ?_⟩
    · have := (hf' 0 (by omega)).1
      rw [plain] at this
      exact cell_lt this
    · have hil : i < len := by have := (List.getElem?_eq_some_iff.1 hi).1; simpa using this
      have hget : f i = (x, y) := by
        rw [List.getElem?_map, List.getElem?_range hil] at hi
        simpa using hi
      have := hf' i (by omega)
      rw [plain, plain, hget] at this
      exact this
theorem trod4 {P : Program} {t : TypeId} {f0 f1 f2 f3 : Field} (ht : P.underlying t = some (.struct #[f0, f1, f2, f3])) (h : DataW.trod enc P W base sp held fuel t cs = some x) :
    ∃ y0 y1 y2 y3 n, cs.length = P.cellsOf t ∧ DataW.trod enc P W base sp held n f0.type ((cs.drop f0.offset).take (P.cellsOf f0.type)) = some y0 ∧ DataW.trod enc P W base sp held n f1.type ((cs.drop f1.offset).take (P.cellsOf f1.type)) = some y1 ∧
      DataW.trod enc P W base sp held n f2.type ((cs.drop f2.offset).take (P.cellsOf f2.type)) = some y2 ∧ DataW.trod enc P W base sp held n f3.type ((cs.drop f3.offset).take (P.cellsOf f3.type)) = some y3 := by
  obtain ⟨xs, n, _, _, hl, hlen, hf⟩ := DataW.trod_struct ht h
  match xs, hlen with
  | [y0, y1, y2, y3], _ => exact ⟨y0, y1, y2, y3, n, hl, by simpa using hf 0 f0 rfl, by simpa using hf 1 f1 rfl, by simpa using hf 2 f2 rfl, by simpa using hf 3 f3 rfl⟩
theorem tlist4 {α : Type} {l : List α} (h : l.length = 4) : ∃ a b c d, l = [a, b, c, d] := by
  match l, h with
  | [a, b, c, d], _ => exact ⟨a, b, c, d, rfl⟩
set_option maxRecDepth 100000 in
theorem arg_lamp (hv : Value.okWide Tryz.prog W r b0 26 v) (h : DataW.Trod enc Tryz.prog W base sp held 26 v d p) :
    ∃ (A1 : Option Addr) (n1 c1 : Nat) (A2 : Option Addr) (n2 c2 : Nat) (A3 : Option Addr) (n3 c3 : Nat) (A4 : Option Addr) (n4 c4 : Nat) (an : List Int) (ls : List (Int × Int)) (fs : List Bool) (ws : List Int), v = .agg #[.slice A1 n1 c1, .slice A2 n2 c2, .slice A3 n3 c3, .slice A4 n4 c4] ∧ Lmp W A1 n1 c1 A2 n2 c2 A3 n3 c3 A4 n4 c4 an ls fs ws := by
  obtain ⟨cs, rfl, _⟩ := okWide_struct Tryz.underlying26 hv
  obtain ⟨fuel, hf⟩ := h
  obtain ⟨y0, y1, y2, y3, n, hl, g0, g1, g2, g3⟩ := trod4 Tryz.underlying26 hf
  rw [show Tryz.prog.cellsOf 26 = 4 by kernel_rfl] at hl
  obtain ⟨e0, e1, e2, e3, hcs⟩ := tlist4 hl
  rw [hcs] at g0 g1 g2 g3
  simp only [show Tryz.prog.cellsOf 22 = 1 by kernel_rfl, show Tryz.prog.cellsOf 23 = 1 by kernel_rfl, show Tryz.prog.cellsOf 24 = 1 by kernel_rfl, List.drop_zero, List.drop_succ_cons, List.take_succ_cons, List.take_zero] at g0 g1 g2 g3
  obtain ⟨A1, n1, c1, an, q0, h0, m0, m0'⟩ := sl_ints g0
  obtain ⟨A2, n2, c2, ls, q1, h1, m1, m1'⟩ := sl_ranges g1
  obtain ⟨A3, n3, c3, fs, q2, h2, m2, m2'⟩ := sl_bools g2
  obtain ⟨A4, n4, c4, ws, q3, h3, m3, m3'⟩ := sl_ints g3
  simp only [List.cons.injEq, and_true] at q0 q1 q2 q3
  refine ⟨A1, n1, c1, A2, n2, c2, A3, n3, c3, A4, n4, c4, an, ls, fs, ws, ?_, h0, h1, h2, h3, ⟨m0, m0'⟩, ⟨m1, m1'⟩, ⟨m2, m2'⟩, ⟨m3, m3'⟩⟩
  congr 1
  refine Array.ext' ?_
  have : cs.toList = [e0, e1, e2, e3] := by simpa [Value.cells] using hcs
  rw [this, q0, q1, q2, q3]
set_option maxRecDepth 100000 in
theorem arg_u8s (hv : Value.okWide Tryz.prog W r b0 27 v) (h : DataW.Trod enc Tryz.prog W base sp held 27 v d p) :
    ∃ (A : Option Addr) (n cap : Nat) (zs : List Int), v = .slice A n cap ∧ U8s W A n zs ∧ n ≤ 9223372036854775807 := by
  obtain ⟨A, len, cap, rfl⟩ := okWide_slice Tryz.underlying27 hv
  obtain ⟨fuel, hf⟩ := h
  obtain ⟨A', n', c', zs, q, h0, m0, _⟩ := sl_u8s hf
  simp [Value.cells] at q
  obtain ⟨rfl, rfl, rfl⟩ := q
  exact ⟨_, _, _, zs, rfl, h0, m0⟩
end
end Go.Proofs.YtminplfgadhnnaaGreatDoor
end

/- How the decrees' spans read as arguments. -/
section
namespace Go.Proofs.YtminplfgadhnnaaGreatDoor
open Go.ChangeShapes Go.WideShapes Go.ChangeAt Go.RowKit
set_option linter.unusedSimpArgs false
set_option linter.unusedVariables false


section
variable {H : Type} {enc : TypeId × Value → H}
variable {W : World} {r : Reach} {b0 base : Nat} {sp : Nat → Bool} {held : Bool} {fuel : Nat} {v : Value} {d : DataW H} {p : List MemPlace} {cs : List Value} {x : DataW H × List MemPlace}
theorem list2T {α : Type} {l : List α} (h : l.length = 2) : ∃ a b, l = [a, b] := by
  match l, h with
  | [a, b], _ => exact ⟨a, b, rfl⟩
theorem list4T {α : Type} {l : List α} (h : l.length = 4) : ∃ a b c d, l = [a, b, c, d] := by
  match l, h with
  | [a, b, c, d], _ => exact ⟨a, b, c, d, rfl⟩

theorem trod_ratT (h : DataW.trod enc Tryz.prog W base sp held fuel 41 cs = some x) : ∃ a b : Int, cs = [.int .i64 a, .int .i64 b] ∧ (-9223372036854775808 ≤ a ∧ a ≤ 9223372036854775807) ∧ (-9223372036854775808 ≤ b ∧ b ≤ 9223372036854775807) := by
  obtain ⟨y0, y1, n, _, hl, h0, h1⟩ := trod_struct2 Tryz.underlying41 h
  rw [show Tryz.prog.cellsOf 41 = 2 by kernel_rfl] at hl
  obtain ⟨c0, c1, rfl⟩ := list2T hl
  simp only [List.drop_zero, List.drop_succ_cons, cellsTopI64, List.take_succ_cons, List.take_zero] at h0 h1
  obtain ⟨a, e0, _, w0⟩ := DataW.trod_int Tryz.underlying2 h0
  obtain ⟨b, e1, _, w1⟩ := DataW.trod_int Tryz.underlying2 h1
  simp only [List.cons.injEq, and_true] at e0 e1
  exact ⟨a, b, by rw [e0, e1], bounds_i64 w0, bounds_i64 w1⟩

theorem trod_twoT (T : TypeId) (f0 f1 : Field) (hu : Tryz.prog.underlying T = some (.struct #[f0, f1])) (hc : Tryz.prog.cellsOf T = 4) (e0 : f0.type = 41) (e1 : f1.type = 41) (o0 : f0.offset = 0) (o1 : f1.offset = 2)
    (h : DataW.trod enc Tryz.prog W base sp held fuel T cs = some x) : ∃ a b c e : Int, cs = [.int .i64 a, .int .i64 b, .int .i64 c, .int .i64 e] := by
  obtain ⟨y0, y1, n, _, hl, h0, h1⟩ := trod_struct2 hu h
  rw [hc] at hl
  rw [e0, o0] at h0
  rw [e1, o1] at h1
  obtain ⟨c0, c1, c2, c3, rfl⟩ := list4T hl
  rw [show Tryz.prog.cellsOf 41 = 2 by kernel_rfl] at h0 h1
  obtain ⟨a, b, q0, _⟩ := trod_ratT h0
  obtain ⟨c, e, q1, _⟩ := trod_ratT h1
  simp only [List.drop_zero, List.drop_succ_cons, List.take_succ_cons, List.take_zero, List.cons.injEq, and_true] at q0 q1
  exact ⟨a, b, c, e, by rw [q0.1, q0.2, q1.1, q1.2]⟩

theorem trod_spanT (h : DataW.trod enc Tryz.prog W base sp held fuel 43 cs = some x) : ∃ a b c e : Int, cs = [.int .i64 a, .int .i64 b, .int .i64 c, .int .i64 e] :=
  trod_twoT _ _ _ Tryz.underlying43 (by kernel_rfl) rfl rfl rfl rfl h
theorem cellsSpanT : Tryz.prog.cellsOf 43 = 4 := by kernel_rfl

theorem cells4T {w : World} {a : Addr} {x y z u : Value} (h : w.cells? base a 4 = some [x, y, z, u]) : w.cell? (a.add 0) = some x ∧ w.cell? (a.add 1) = some y ∧ w.cell? (a.add 2) = some z ∧ w.cell? (a.add 3) = some u := by
  unfold World.cells? at h
  split at h
  · simp [List.range, List.range.loop] at h
    cases h0 : w.cell? (a.add 0) with
    | none => simp [h0] at h
    | some x0 =>
      cases h1 : w.cell? (a.add 1) with
      | none => simp [h0, h1] at h
      | some x1 =>
        cases h2 : w.cell? (a.add 2) with
        | none => simp [h0, h1, h2] at h
        | some x2 =>
          cases h3 : w.cell? (a.add 3) with
          | none => simp [h0, h1, h2, h3] at h
          | some x3 =>
            simp [h0, h1, h2, h3] at h
            obtain ⟨rfl, rfl, rfl, rfl⟩ := h
            exact ⟨rfl, rfl, rfl, rfl⟩
  · cases h

set_option maxRecDepth 100000 in
theorem arg_spans (hv : Value.okWide Tryz.prog W r b0 28 v) (h : DataW.Trod enc Tryz.prog W base sp held 28 v d p) :
    ∃ (A : Option Addr) (n cap : Nat) (zs : List Um.S4), v = .slice A n cap ∧ Spans W A n zs ∧ n ≤ 9223372036854775807 := by
  obtain ⟨A, len, cap, rfl⟩ := okWide_slice Tryz.underlying28 hv
  obtain ⟨fuel, hf⟩ := h
  rcases Go.Deep.open_slice Tryz.underlying28 hf with ⟨hcs, _⟩ | ⟨a, len', cap', m, k, D, Pl, hcs, _, hl, hm, hmm, _, hel⟩
  · simp [Value.cells] at hcs
    obtain ⟨rfl, rfl, rfl⟩ := hcs
    exact ⟨none, 0, 0, [], rfl, ⟨rfl, fun h => absurd h (by omega)⟩, by omega⟩
  · simp [Value.cells] at hcs
    obtain ⟨rfl, rfl, rfl⟩ := hcs
    unfold maxLen at hm
    have hlen : len ≤ m := by rw [hmm]; split <;> omega
    rw [cellsSpanT] at hel
    have hq : ∀ i, i < m → ∃ x : Um.S4, W.cell? ((a.add (i * 4)).add 0) = some (.int .i64 x.1) ∧ W.cell? ((a.add (i * 4)).add 1) = some (.int .i64 x.2.1) ∧ W.cell? ((a.add (i * 4)).add 2) = some (.int .i64 x.2.2.1) ∧ W.cell? ((a.add (i * 4)).add 3) = some (.int .i64 x.2.2.2) := by
      intro i hi
      obtain ⟨cs', h1, h2⟩ := hel i hi
      obtain ⟨x, y, z, u, rfl⟩ := trod_spanT h2
      exact ⟨(x, y, z, u), cells4T h1⟩
    obtain ⟨f, hf'⟩ := Go.Deep.choose_lt hq
    refine ⟨some a, len, cap, (List.range len).map f, rfl, ⟨by simp, fun hn => ?_⟩, by omega⟩
    obtain ⟨b, off, spot⟩ := a
    have hspot : spot = none := by
      have := (hf' 0 (by omega)).1
      simpa [Addr.add] using World.cell?_spot this
    subst hspot
    have plain : ∀ i j, ((⟨b, off, none⟩ : Addr).add i).add j = ⟨b, off + i + j, none⟩ := by
      intro i j
      rw [Go.Deep.add_add, Go.WideShapes.add_plain, Nat.add_assoc]
    refine ⟨b, off, rfl, ?_, fun i hi => ?_⟩
    · have := (hf' 0 (by omega)).1
      rw [plain] at this
      exact cell_lt this
    · have hget : ((List.range len).map f).getD i (0, 0, 0, 0) = f i := by
        rw [List.getD_eq_getElem?_getD, List.getElem?_map, List.getElem?_range hi]; rfl
      have := hf' i (by omega)
      rw [plain, plain, plain, plain] at this
      rw [hget]
      exact this

end
end Go.Proofs.YtminplfgadhnnaaGreatDoor
end

/- TopCarriedFlux: the call answers true, whatever the input, and every argument reads as it did. Conditions: none of its own; the listed variables are tied to the program's text by the given tie. -/
section
namespace Go.Proofs.YtminplfgadhnnaaGreatDoor
open Go.ChangeShapes Go.WideShapes Go.ChangeAt Go.RowKit
set_option linter.unusedVariables false

theorem topCarriedFlux_laid : Rows.topCarriedFluxRow.laid = topLaid := by kernel_rfl
theorem topCarriedFlux_params : (Tryz.f3.params.toList.all fun t => Tryz.prog.readableRec t && decide (t < Tryz.prog.types.size)) = true := by kernel_rfl

set_option maxRecDepth 100000 in
/-- the walk, for each argument that there is and each world that holds the listed variables -/
theorem topCarriedFlux_contract (H : Type) (enc : TypeId × Value → H) (W : World) (base : Nat) (args : Array Value) (ds gs : List (DataW H)) (before : List MemPlace)
    (hval : ∀ (j : Nat) t v, Tryz.f3.params[j]? = some t → args[j]? = some v → Value.okWide Tryz.prog W .any base t v)
    (hW : DataW.Whole enc Tryz.prog Tryz.f3.params.toList Rows.topCarriedFluxSpec.vars false W args.toList ds gs before) (hL : laidMetH Tryz.prog Rows.topCarriedFluxRow.laid W) :
    Calls Tryz.prog 3 args W fun e W' => ∃ v, e = .returned v ∧ Rows.topCarriedFluxSpec.post enc Tryz.prog Tryz.f3 false true false false W args v W' := by
  have hW' := hW
  obtain ⟨p, q, hA0, hV, hps, hfz, hnd⟩ := hW
  have hA : DataW.TrodAll enc Tryz.prog W 0 (fun _ => true) true Tryz.f3.params.toList args.toList ds p := hA0
  rw [Tryz.params3] at hA hval
  obtain ⟨v0, v1, v2, v3, d0, d1, d2, d3, p0, p1, p2, p3, rfl, rfl, rfl, h0, h1, h2, h3⟩ := trodAll_four_ hA
  have hLL : laidMet Tryz.prog topLaid W := by rw [← topCarriedFlux_laid]; exact hL
  have hG := topGlob hLL
  have hf := topFirst hLL
  obtain ⟨L1, m1, c1, L2, m2, c2, L3, m3, c3, L4, m4, c4, an, ls, fs, ws, rfl, hl0⟩ := arg_lamp (hval 0 26 v0 rfl rfl) h0
  obtain ⟨A1, n1, cap1, zs1, rfl, hz1, hn1⟩ := arg_u8s (hval 1 27 v1 rfl rfl) h1
  obtain ⟨A2, n2, cap2, zs2, rfl, hz2, hn2⟩ := arg_spans (hval 2 28 v2 rfl rfl) h2
  obtain ⟨A3, n3, cap3, zs3, rfl, hz3, hn3⟩ := arg_u8s (hval 3 27 v3 rfl rfl) h3
  clear hA0
  refine (carriedFlux_any _ _ _ _ _ _ _ _ _ _ _ _ _ _ _ _ A1 A2 A3 n1 cap1 n2 cap2 n3 cap3 zs1 zs3 zs2 W hl0 hz1 hz2 hz3 hn1 hn2 hn3 hf hG).mono fun e W' ⟨he, hb⟩ => ?_
  subst he
  exact ⟨_, rfl, law_done laidOut rfl (fun t ht => by have := List.all_eq_true.1 topCarriedFlux_params t ht; simpa using this) (by kernel_rfl) Tryz.underlying4 hW' (fun h => by subst h; rfl) (fun h => by subst h; rfl) (fun h => by subst h; rfl) hb⟩

theorem topCarriedFlux_laid_met (os : Os) : laidMet Tryz.prog Rows.topCarriedFluxRow.laid ((topWorld os).forCall (fun _ _ => 0) ⟨#[], #[.agg #[.slice none 0 0, .slice none 0 0, .slice none 0 0, .slice none 0 0], .slice none 0 0, .slice none 0 0, .slice none 0 0], []⟩).memory :=
  laidMet_of_run' 8 (by kernel_rfl) (by kernel_rfl)
theorem topCarriedFlux_reads (os : Os) {H : Type} (enc : TypeId × Value → H) : ∃ places, DataW.whole enc Tryz.prog ((topWorld os).forCall (fun _ _ => 0) ⟨#[], #[.agg #[.slice none 0 0, .slice none 0 0, .slice none 0 0, .slice none 0 0], .slice none 0 0, .slice none 0 0, .slice none 0 0], []⟩).memory Tryz.f3.params.toList Rows.topCarriedFluxSpec.vars false (#[.agg #[.slice none 0 0, .slice none 0 0, .slice none 0 0, .slice none 0 0], .slice none 0 0, .slice none 0 0, .slice none 0 0] : Array Value).toList 8 = some ([.agg [.nil, .nil, .nil, .nil], .nil, .nil, .nil], [], places) :=
  ⟨[], by kernel_rfl⟩

set_option maxRecDepth 100000 in
theorem topCarriedFlux_lifted (os : Os) (started : os.Started) (H : Type) (enc : TypeId × Value → H) (F : Stop.Interp) :
    ReturnsInHanded {} Tryz.checked os 3 .any ((OpenSpec.ofChange Rows.topCarriedFluxSpec).preRow enc Tryz.prog Tryz.f3 Rows.topCarriedFluxRow.domain false Rows.topCarriedFluxRow.laid) (((OpenSpec.ofChange Rows.topCarriedFluxSpec).at F).post enc Tryz.prog Tryz.f3 false true false false) := by
  obtain ⟨places, hx⟩ := topCarriedFlux_reads os enc
  refine returnsInHanded_of_row (C := Tryz.checked) (s := OpenSpec.ofChange Rows.topCarriedFluxSpec) own started (by kernel_rfl) Tryz.func3
    (witness_row_at (enc := enc) (C := Tryz.checked) false (topWorld os) #[.agg #[.slice none 0 0, .slice none 0 0, .slice none 0 0, .slice none 0 0], .slice none 0 0, .slice none 0 0, .slice none 0 0] rfl (by kernel_rfl) (by kernel_rfl) (by kernel_rfl)
      (OpenSpec.preRow_of_cond 8 hx (by kernel_rfl) (fun k hk => by cases hk) (by kernel_rfl) (topCarriedFlux_laid_met os))) ?_
  intro W base args ds gs before hval hW _ _ _ hL _ _
  exact topCarriedFlux_contract H enc W base args ds gs before hval hW hL

theorem topCarriedFlux_said : Rows.TopCarriedFluxSaid :=
  OpenClaim.holds_of_cond 3 Tryz.f3 rfl rfl rfl rfl rfl rfl rfl ⟨rfl, rfl, rfl, rfl, rfl⟩ rfl rfl rfl rfl rfl (by kernel_rfl) Tryz.func3 (by kernel_rfl)
    (of_decide_eq_true (by kernel_rfl)) (by unfold Func.isWrapper; first | (rw [if_pos (by decide +kernel)]; kernel_rfl) | (rw [if_neg (by decide +kernel)]; exact ⟨rfl, rfl⟩))
    (fun os started H enc _ F => by rw [OpenClaim.pre_eq_preRow]; exact topCarriedFlux_lifted os started H enc F)

theorem topCarriedFlux_plain (f : FuncId) (fn : Func) (hf : Tryz.pinned.checked.prog.funcNamed Rows.topCarriedFluxRow.func = some f) (hfn : Tryz.pinned.checked.prog.funcs[f]? = some fn) :
    false = Tryz.pinned.checked.prog.looks [] ∧ ∀ (j : Nat) t, fn.params[j]? = some t → Tryz.pinned.checked.prog.wantsStandIn t = false := by
  obtain rfl : f = 3 := Option.some.inj ((show Tryz.prog.funcNamed Rows.topCarriedFluxRow.func = some 3 by kernel_rfl).symm.trans hf) |>.symm
  obtain rfl : fn = Tryz.f3 := (Option.some.inj (Tryz.func3.symm.trans hfn)).symm
  refine ⟨by kernel_rfl, fun j t ht => ?_⟩
  have hall : (Tryz.f3.params.toList.all fun u => !Tryz.prog.wantsStandIn u) = true := by kernel_rfl
  have hm : t ∈ Tryz.f3.params.toList := by simpa using Array.mem_of_getElem? ht
  exact (show Tryz.prog.wantsStandIn t = false by simpa using List.all_eq_true.1 hall t hm)

/-- TopCarriedFlux, the card -/
theorem topCarriedFlux_card : Rows.TopCarriedFluxCardSaid :=
  Claim7.holds_tied_plain_at .later [] _ _ _ _ topCarriedFlux_said (fun _ h => by cases h) (by kernel_rfl) (fun _ h => by cases h) topCarriedFlux_row_tie rfl ⟨rfl, rfl⟩ (by kernel_rfl) rfl topCarriedFlux_plain (by kernel_rfl)
#print axioms topCarriedFlux_card
end Go.Proofs.YtminplfgadhnnaaGreatDoor
end
