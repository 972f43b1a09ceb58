/- BTie TA1 -/
import Derived.Test.YtlbjnkopbabcnaaGreatDoorCards
import Derived.Test.YtlbjnkopbabcnaaGreatDoorTie
import Derived.Test.YtlbjnkopbabcnaaGreatDoorYB04
import Derived.ProofKit
import Derived.OpenShut
import Derived.Deep.DeepHandedRow
import Derived.Deep.Slices
import Derived.Lib.LaidTab
import Derived.Test.YtlbjnkopbabcnaaGreatDoorYV05
import Derived.LaidSub
/- What every statement of layer 2 leans on: how arguments read, how they read again behind a call, what the listed variable holds. -/
section
namespace Go.Proofs.YtlbjnkopbabcnaaGreatDoor
open Go.ChangeShapes Go.WideShapes Go.ChangeAt Go.RowKit
set_option linter.unusedSimpArgs false
set_option linter.unusedVariables false

theorem own : ownKnob Tryz.prog.godebug = none := by kernel_rfl
theorem laidOut : laidOutB Tryz.prog = true := by kernel_rfl
section
variable {H : Type} {enc : TypeId × Value → H} {P : Program}

theorem trodAll_stays (hl : laidOutB P = true) {W W' : World} {sp : Nat → Bool} : ∀ {ts : List TypeId} {vs : List Value} {ds : List (DataW H)} {ps : List MemPlace}, (∀ t ∈ ts, P.readableRec t = true ∧ t < P.types.size) →
    DataW.TrodAll enc P W 0 (fun _ => true) true ts vs ds ps → (∀ p ∈ ps, W.sameAt W' p) → (∀ p ∈ ps, sp p.block = true) → DataW.TrodAll enc P W' 0 sp true ts vs ds ps
  | [], [], [], ps, _, h, _, _ => h
  | t :: ts, v :: vs, d :: ds, ps, hr, h, hs, hp => by
    obtain ⟨p, q, h1, h2, rfl⟩ := h
    exact ⟨p, q, WideElems.Trod_stays hl (hr t (by simp)).1 (hr t (by simp)).2 h1 (fun x hx => hs x (by simp [hx])) (fun x hx => hp x (by simp [hx])),
      trodAll_stays hl (fun u hu => hr u (by simp [hu])) h2 (fun x hx => hs x (by simp [hx])) (fun x hx => hp x (by simp [hx])), rfl⟩
  | [], _ :: _, _, _, _, h, _, _ => by simp [DataW.TrodAll] at h
  | [], [], _ :: _, _, _, h, _, _ => by simp [DataW.TrodAll] at h
  | _ :: _, [], _, _, _, h, _, _ => by simp [DataW.TrodAll] at h
  | _ :: _, _ :: _, [], _, _, h, _, _ => by simp [DataW.TrodAll] at h

/-- the call answers true, and has touched nothing that was there -/
theorem law_done (hl : laidOutB P = true) {f : Func} {s : ChangeSpec} {apart fresh handsOn again : Bool} {W W' : World} {args : Array Value} {ds gs : List (DataW H)} {before : List MemPlace} {tb : TypeId} (hv : s.vars = [])
    (hts : ∀ t ∈ f.params.toList, P.readableRec t = true ∧ t < P.types.size) (hres : f.resultTypes = #[tb]) (hub : P.underlying tb = some .bool)
    (hW : DataW.Whole enc P f.params.toList s.vars apart W args.toList ds gs before)
    (h1 : gs = [] → (s.fn H (ds ++ gs)).results = [.lit (.bool true)]) (h2 : gs = [] → (s.fn H (ds ++ gs)).args = ds) (h3 : gs = [] → (s.fn H (ds ++ gs)).vars = []) (hb : Below W.heap.size W W') :
    s.post enc P f apart fresh handsOn again W args (.bool true) W' := by
  have hlt : ∀ p ∈ before, p.block < W.heap.size := fun p hp => hW.lt p hp
  have hold : ∀ p ∈ before, (fun b => decide (b < W.heap.size)) p.block = true := fun p hp => by simpa using hlt p hp
  have hW0 := hW
  obtain ⟨pa, pv, hA, hV, hps, hz, hn⟩ := hW
  rw [hv] at hV
  obtain ⟨rfl, rfl⟩ := trodVars_none hV
  simp only [List.append_nil] at hps
  subst hps
  have e1 := h1 rfl
  have e2 := h2 rfl
  have e3 := h3 rfl
  have hres2 : ∀ (b : Nat) (sp : Nat → Bool) (hd : Bool), DataW.TrodAll enc P W' b sp hd f.resultTypes.toList ((Value.bool true).resultList f.resultTypes.size) (s.fn H (ds ++ [])).results [] := by
    intro b sp hd
    rw [e1, hres]
    exact trodAll_cons_mk (shut_bool hub _) trodAll_mk0
  have hargs : ∀ sp : Nat → Bool, (∀ p ∈ before, sp p.block = true) → DataW.TrodAll enc P W' 0 sp true f.params.toList args.toList (s.fn H (ds ++ [])).args before := by
    intro sp hsp
    rw [e2]
    exact trodAll_stays hl hts hA (fun x hx => hb.same (hlt x hx)) hsp
  have hvars : ∀ sp : Nat → Bool, DataW.TrodVars enc P W' sp s.vars (s.fn H (ds ++ [])).vars [] := by
    intro sp
    rw [e3, hv]; rfl
  refine ⟨ds, [], before, [], before, [], hW0, hres2 _ _ _, hargs _ hold, hvars _, World.keptBut_mono (fun p hp => ⟨hp, by simp [show p ∈ before from hp]⟩) (hb.frame (· ∈ before)), fun _ => ?_⟩
  refine ⟨?_, _, _, ([] ++ before) ++ [], ⟨[] ++ before, [], trodAll_append (hargs _ (fun _ _ => rfl)) (hres2 _ _ _), hvars _, rfl, ?_, ?_⟩, ?_⟩
  · exact ok_one hres rfl (okWide_bool_mk hub _)
  · intro b off hp
    have hin : MemPlace.cell b off ∈ before := by simpa using hp
    rw [hb.frozen (hlt _ hin)]
    exact hz b off hin
  · intro ha
    have := hn ha
    simpa using this
  · intro p hp _
    simpa using hp

variable {W : World} {r : Reach} {b0 base : Nat} {sp : Nat → Bool} {held : Bool} {fuel : Nat} {v : Value} {d : DataW H} {p : List MemPlace} {cs : List Value} {x : DataW H × List MemPlace}

theorem cell_lt {w : World} {b o : Nat} {u : Value} (h : w.cell? ⟨b, o, none⟩ = some u) : b < w.heap.size := by
  rcases Nat.lt_or_ge b w.heap.size with h1 | h1
  · exact h1
  · simp [World.cell?, Array.getElem?_eq_none h1] at h
theorem len_two' {α : Type} {l : List α} (h : l.length = 2) : ∃ a b, l = [a, b] := by
  match l, h with
  | [a, b], _ => exact ⟨a, b, rfl⟩
theorem trodAll_five {t0 t1 t2 t3 t4 : TypeId} {w : World} {spare : Nat → Bool} {args : Array Value} {ds : List (DataW H)} {ps : List MemPlace} (h : DataW.TrodAll enc P w base spare held [t0, t1, t2, t3, t4] args.toList ds ps) :
    ∃ v0 v1 v2 v3 v4 d0 d1 d2 d3 d4 p0 p1 p2 p3 p4, args = #[v0, v1, v2, v3, v4] ∧ ds = [d0, d1, d2, d3, d4] ∧ ps = p0 ++ (p1 ++ (p2 ++ (p3 ++ (p4 ++ [])))) ∧ DataW.Trod enc P w base spare held t0 v0 d0 p0 ∧ DataW.Trod enc P w base spare held t1 v1 d1 p1 ∧ DataW.Trod enc P w base spare held t2 v2 d2 p2 ∧ DataW.Trod enc P w base spare held t3 v3 d3 p3 ∧ DataW.Trod enc P w base spare held t4 v4 d4 p4 := by
  obtain ⟨v0, vs0, d0, ds0, p0, q0, e0, rfl, rfl, h0, h⟩ := trodAll_cons h
  obtain ⟨v1, vs1, d1, ds1, p1, q1, rfl, rfl, rfl, h1, h⟩ := trodAll_cons h
  obtain ⟨v2, vs2, d2, ds2, p2, q2, rfl, rfl, rfl, h2, h⟩ := trodAll_cons h
  obtain ⟨v3, vs3, d3, ds3, p3, q3, rfl, rfl, rfl, h3, h⟩ := trodAll_cons h
  obtain ⟨v4, vs4, d4, ds4, p4, q4, rfl, rfl, rfl, h4, h⟩ := trodAll_cons h
  obtain ⟨rfl, rfl, rfl⟩ := trodAll_nil h
  exact ⟨v0, v1, v2, v3, v4, d0, d1, d2, d3, d4, p0, p1, p2, p3, p4, by cases args; simp_all, rfl, rfl, h0, h1, h2, h3, h4⟩

theorem trod_pair {T E : TypeId} {f0 f1 : Field} {k : IntKind} (hu : Tryz.prog.underlying T = some (.struct #[f0, f1])) (hc : Tryz.prog.cellsOf T = 2) (hE : Tryz.prog.underlying E = some (.int k)) (hcE : Tryz.prog.cellsOf E = 1) (e0 : f0.type = E) (e1 : f1.type = E) (o0 : f0.offset = 0) (o1 : f1.offset = 1)
    (h : DataW.trod enc Tryz.prog W base sp held fuel T cs = some x) : ∃ a b : Int, cs = [.int k a, .int k b] ∧ (Lit.int k a).wf = true ∧ (Lit.int k b).wf = true := by
  obtain ⟨y0, y1, n, _, hl, h0, h1⟩ := trod_struct2 hu h
  rw [hc] at hl
  rw [e0, o0, hcE] at h0
  rw [e1, o1, hcE] at h1
  obtain ⟨c0, c1, rfl⟩ := len_two' hl
  simp only [List.drop_zero, List.drop_succ_cons, List.take_succ_cons, List.take_zero] at h0 h1
  obtain ⟨a, q0, _, w0⟩ := DataW.trod_int hE h0
  obtain ⟨b, q1, _, w1⟩ := DataW.trod_int hE h1
  simp only [List.cons.injEq, and_true] at q0 q1
  exact ⟨a, b, by rw [q0, q1], w0, w1⟩

theorem trodAll_four_ {t0 t1 t2 t3 : TypeId} {w : World} {base : Nat} {held : Bool} {spare : Nat → Bool} {args : Array Value} {ds : List (DataW H)} {ps : List MemPlace} (h : DataW.TrodAll enc P w base spare held [t0, t1, t2, t3] args.toList ds ps) :
    ∃ v0 v1 v2 v3 d0 d1 d2 d3 p0 p1 p2 p3, args = #[v0, v1, v2, v3] ∧ ds = [d0, d1, d2, d3] ∧ ps = p0 ++ (p1 ++ (p2 ++ (p3 ++ []))) ∧ DataW.Trod enc P w base spare held t0 v0 d0 p0 ∧ DataW.Trod enc P w base spare held t1 v1 d1 p1 ∧ DataW.Trod enc P w base spare held t2 v2 d2 p2 ∧ DataW.Trod enc P w base spare held t3 v3 d3 p3 := by
  obtain ⟨v0, vs0, d0, ds0, p0, q0, e0, rfl, rfl, h0, h⟩ := trodAll_cons h
  obtain ⟨v1, vs1, d1, ds1, p1, q1, rfl, rfl, rfl, h1, h⟩ := trodAll_cons h
  obtain ⟨v2, vs2, d2, ds2, p2, q2, rfl, rfl, rfl, h2, h⟩ := trodAll_cons h
  obtain ⟨v3, vs3, d3, ds3, p3, q3, rfl, rfl, rfl, h3, h⟩ := trodAll_cons h
  obtain ⟨rfl, rfl, rfl⟩ := trodAll_nil h
  exact ⟨v0, v1, v2, v3, d0, d1, d2, d3, p0, p1, p2, p3, by cases args; simp_all, rfl, rfl, h0, h1, h2, h3⟩
theorem cells2 {w : World} {a : Addr} {x y : Value} (h : w.cells? base a 2 = some [x, y]) : w.cell? (a.add 0) = some x ∧ w.cell? (a.add 1) = some y := by
  unfold World.cells? at h
  split at h
  · simp [List.range, List.range.loop] at h
    cases h0 : w.cell? (a.add 0) with
    | none => simp [h0] at h
    | some x0 =>
      cases h1 : w.cell? (a.add 1) with
      | none => simp [h0, h1] at h
      | some x1 =>
        simp [h0, h1] at h
        obtain ⟨rfl, rfl⟩ := h
        exact ⟨rfl, rfl⟩
  · cases h

end
end Go.Proofs.YtlbjnkopbabcnaaGreatDoor
end

/- What every statement of the top of three stages leans on: what the two listed variables hold. -/
section
namespace Go.Proofs.YtlbjnkopbabcnaaGreatDoor
open Go.ChangeShapes Go.WideShapes Go.ChangeAt Go.RowKit
set_option linter.unusedSimpArgs false
set_option linter.unusedVariables false

def topZ : List Int := [0, 1, 56, 2, 57, 49, 28, 3, 61, 58, 42, 50, 38, 29, 17, 4, 62, 47, 59, 36, 45, 43, 51, 22, 53, 39, 33, 30, 24, 18, 12, 5, 63, 55, 48, 27, 60, 41, 37, 16, 46, 35, 44, 21, 52, 32, 23, 11, 54, 26, 40, 15, 34, 20, 31, 10, 25, 14, 19, 9, 13, 8, 7, 6]
def topTab : String := "math/bits.deBruijn64tab"
def topFst : String := "lampblack/unit.first"
theorem gTopTab : Tryz.prog.globalNamed topTab = some 1 := by kernel_rfl
theorem gTopTabType : (Tryz.prog.globals[1]?).map (·.type) = some 449 := by kernel_rfl
theorem gTopFst : Tryz.prog.globalNamed topFst = some 0 := by kernel_rfl
theorem gTopFstType : (Tryz.prog.globals[0]?).map (·.type) = some 211 := by kernel_rfl
theorem cellsTopTab : Tryz.prog.cellsOf 449 = 64 := by kernel_rfl
theorem cellsTopFst : Tryz.prog.cellsOf 211 = 4 := by kernel_rfl
theorem cellsTopU8 : Tryz.prog.cellsOf 5 = 1 := by kernel_rfl
theorem cellsTopI64 : Tryz.prog.cellsOf 2 = 1 := by kernel_rfl

def topLaid : List (String × DataW Unit) := [(topTab, Lib.tabData .u8 topZ), (topFst, Lib.tabData .i64 [1, 0, 0, 1])]
theorem topLaid_keep : (topLaid.filter fun x => x.1 == topFst) = [(topFst, Lib.tabData .i64 [1, 0, 0, 1])] := by kernel_rfl
theorem topTabIs {W : World} (h : laidMet Tryz.prog topLaid W) : Lib.TabIs Tryz.prog W topTab .u8 topZ :=
  Lib.tabIs_of_head (rest := [(topFst, Lib.tabData .i64 [1, 0, 0, 1])]) gTopTab gTopTabType Tryz.underlying449 Tryz.underlying5 cellsTopU8 cellsTopTab h
theorem topFstIs {W : World} (h : laidMet Tryz.prog topLaid W) : Lib.TabIs Tryz.prog W topFst .i64 [1, 0, 0, 1] := by
  have h2 := h.filter fun x => x.1 == topFst
  rw [topLaid_keep] at h2
  exact Lib.tabIs_of_head (rest := []) gTopFst gTopFstType Tryz.underlying211 Tryz.underlying2 cellsTopI64 cellsTopFst h2
/-- the list gives what the world must hold -/
theorem topGlob {W : World} (h : laidMet Tryz.prog topLaid W) : GlobW W := by
  have h1 := topTabIs h
  have h2 := topFstIs h
  intro k g p hg hp j hj
  match k with
  | 0 =>
    injection hg with hg; injection hp with hp
    subst hg hp
    have := World.var?_cell gTopFst h2 j
    rw [this, List.getElem?_toArray]
  | 1 =>
    injection hg with hg; injection hp with hp
    subst hg hp
    have := World.var?_cell gTopTab h1 j
    rw [this, List.getElem?_toArray]
    rfl
  | k + 2 => cases hg
theorem topFirst {W : World} (h : laidMet Tryz.prog topLaid W) : 0 < W.heap.size ∧ ∀ i, W.cell? ⟨0, i, none⟩ = (#[.int .i64 1, .int .i64 0, .int .i64 0, .int .i64 1] : Array Value)[i]? := by
  have hc : ∀ i, W.cell? ⟨0, i, none⟩ = (#[.int .i64 1, .int .i64 0, .int .i64 0, .int .i64 1] : Array Value)[i]? := fun i => by
    have := World.var?_cell gTopFst (topFstIs h) i
    rw [this]
    rfl
  refine ⟨?_, hc⟩
  rcases Nat.lt_or_ge 0 W.heap.size with h1 | h1
  · exact h1
  · exfalso
    have := hc 0
    simp [World.cell?, Array.getElem?_eq_none h1] at this

/-- a world for the witness: the variables hold what their initialisers lay -/
noncomputable def topWorld0 (os : Os) : World :=
  { World.holding Tryz.prog os ⟨#[], #[], []⟩ with heap := (World.holding Tryz.prog os ⟨#[], #[], []⟩).heap.modify 0 fun
      | .cells _ t frozen => .cells #[.int .i64 1, .int .i64 0, .int .i64 0, .int .i64 1] t frozen
      | o => o }
noncomputable def topWorld (os : Os) : World :=
  { topWorld0 os with heap := (topWorld0 os).heap.modify 1 fun
      | .cells _ t frozen => .cells (topZ.map fun z => Value.int .u8 z).toArray t frozen
      | o => o }
end Go.Proofs.YtlbjnkopbabcnaaGreatDoor
end
