/- ED8 ED9 -/
import Derived.Test.YtcmllkjgggcghaaEZ11
import Derived.OrdersHeld
import Derived.OrdersIn
import Derived.RangeFuncCalls
import Derived.Deep.RegionHeld
import Derived.WalkMore
import Derived.Deep.RegionHeld3
/- Walks of package eye: a map from fractions to numbers: its laws at the operations. -/
section
namespace Go.Proofs.Ytcmllkjgggcghaa
open Go.RowKit Go.Shelf Go.ChangeMaps Go.MapKept
open Go.WideElems (Fit rd rg pl rd_val elemAt entry_then_store)
set_option linter.unusedSimpArgs false
set_option linter.unusedVariables false

variable {w : World} {b n sz : Nat} {lf : Int × Int → Bool} {F : Int × Int → Int}

def mapSize (w : World) (b : Nat) : Nat := match w.heap[b]? with | some (.map es _) => es.size | _ => 0

theorem Grp.size_eq (h : Grp w b n sz lf F) : mapSize w b = sz := by
  obtain ⟨D, ⟨es, clock, h1, _, _, rfl⟩, h2, _⟩ := h
  unfold mapSize
  rw [h1, ← h2]
  show es.size = _
  rw [Maps.size_eq, length_read]
theorem Grp.len (h : Grp w b n sz lf F) (ty : TypeId) : (Builtin.len_ #[90] ty #[.map (some b)]).run Try.prog w = .ok (.int .i64 (sz : Nat)) w := by
  obtain ⟨D, h1, h2, _⟩ := h
  rw [← h2]; exact h1.len mp_under ty
theorem Grp.none_ (h : Grp w b n 0 lf F) (r : Int × Int) : lf r = false := by
  obtain ⟨D, h1, h2, h3, _, h5⟩ := h
  cases hl : lf r with
  | false => rfl
  | true =>
    obtain ⟨es, rfl⟩ := h1.isMap
    rw [Maps.size_eq] at h2
    have := List.eq_nil_of_length_eq_zero h2
    subst this
    have := h3 r (h5 r hl)
    rw [hl] at this
    cases this
theorem Grp.some_ (h : Grp w b n sz lf F) (hs : 0 < sz) : ∃ r, lf r = true := by
  obtain ⟨D, ⟨es, clock, h1, hF, _, rfl⟩, h2, h3, _, h5⟩ := h
  rw [Maps.size_eq, length_read] at h2
  have h0 : 0 < es.toList.length := by rw [Array.length_toList]; omega
  obtain ⟨x, hx⟩ := List.exists_mem_of_length_pos h0
  obtain ⟨y, hy⟩ := hF.reads x hx
  have hkey := Go.WideElems.rd_key hy
  obtain ⟨r, hr, hw, e⟩ := rk_inv hkey
  refine ⟨r, ?_⟩
  rw [← h3 r hw]
  refine List.any_eq_true.2 ⟨rg Try.prog 25 (plainElem Try.prog 2) x, mem_sorted.2 (List.mem_map.2 ⟨x, hx, rfl⟩), ?_⟩
  rw [Go.WideElems.rg_of hy]
  show y.1.sameKey (kR r) = true
  rw [e]
  exact WideAt.sameKey_self (kR_key hw)

theorem Grp.del (h : Grp w b n sz lf F) {r : Int × Int} (hr : W2 r) (ty : TypeId) :
    ∃ w', (Builtin.delete_ #[90, 25] ty #[.map (some b), rV r]).run Try.prog w = .ok (.tuple #[]) w' ∧ Grp w' b n (if lf r then sz - 1 else sz) (fun x => lf x && !decide (x = r)) F ∧ w.grownBy w' (some b) := by
  obtain ⟨D, h1, h2, h3, h4, h5⟩ := h
  obtain ⟨w', hrun, hown, ht⟩ := h1.drop rk_law mp_under (rk_mk hr) ty
  have htd := h1.tidy rk_law
  refine ⟨w', hrun, ⟨_, hown, ?_, ?_, ?_, ?_⟩, ht.grown⟩
  · have := Maps.size_del (k := kR r) htd
    rw [h3 r hr] at this
    split <;> simp_all <;> omega
  · intro x hx
    by_cases e : x = r
    · subst e; rw [Maps.has_del_same]; simp
    · rw [Maps.has_del_other (fun k => e (kR_inj hx hr k)), h3 x hx]; simp [e]
  · intro x hx hl z
    simp only [Bool.and_eq_true, Bool.not_eq_true', decide_eq_false_iff_not] at hl
    rw [Maps.atKey_del_other (fun k => hl.2 (kR_inj hx hr k))]
    exact h4 x hx hl.1 z
  · intro x hl
    simp only [Bool.and_eq_true] at hl
    exact h5 x hl.1

/-- a range over such a map under way: left: the fractions that are still to come -/
def GrpR (w : World) (b r n sz : Nat) (lf left : Int × Int → Bool) (F : Int × Int → Int) (cnt : Nat) : Prop :=
  ∃ (D : DataW Unit) (L : Lit → Bool), w.ranges Try.prog 25 (plainElem Try.prog 2) b r n D L cnt ∧ Maps.size D = sz ∧ (∀ x, W2 x → Maps.has D (kR x) = lf x) ∧ (∀ x, W2 x → lf x = true → ∀ z, D.atKey (kR x) z = .lit (.int .i64 (F x))) ∧ (∀ x, lf x = true → W2 x) ∧
    (∀ x, W2 x → L (kR x) = left x) ∧ (∀ x, left x = true → lf x = true)

theorem GrpR.grp {r cnt : Nat} {left : Int × Int → Bool} (h : GrpR w b r n sz lf left F cnt) : Grp w b n sz lf F := by
  obtain ⟨D, L, h1, h2, h3, h4, h5, _⟩ := h
  exact ⟨D, h1.owns, h2, h3, h4, h5⟩
theorem GrpR.kept {w' : World} {r cnt : Nat} {left : Int × Int → Bool} {row : Option Nat} (h : GrpR w b r n sz lf left F cnt) (hg : w.grownBy w' row) (h1 : some b ≠ row) (h2 : some r ≠ row) : GrpR w' b r n sz lf left F cnt := by
  obtain ⟨D, L, k1, k2⟩ := h
  exact ⟨D, L, k1.kept hg h1 h2, k2⟩
theorem GrpR.left_eq {r cnt : Nat} {left : Int × Int → Bool} (h : GrpR w b r n sz lf left F cnt) : w.rangeLeft b r = cnt := by
  obtain ⟨D, L, k1, k2⟩ := h
  exact k1.left_eq

theorem in_range_grp {Fc : Fence} {nF : Nat} {ops : Array Oper} {rest : List Oper} {o : Oper} {a : Act} {Q : Exit → Act → World → Prop} (hg : o.guard = none) (m : Operand) (hop : o.op = Op.range 90 m)
    (b n sz : Nat) (lf : Int × Int → Bool) (F : Int × Int → Int) (hm : a.eval m = .map (some b)) (h : Grp w b n sz lf F)
    (hK : ∀ w', GrpR w' b w.heap.size n sz lf lf F sz → w.grownBy w' none → w'.heap.size = w.heap.size + 1 → wpListIn Fc nF Try.prog ops Q rest (a.put o.dst (.pointer (some ⟨w.heap.size, 0, none⟩))) w') :
    wpListIn Fc nF Try.prog ops Q (o :: rest) a w := by
  obtain ⟨D, h1, h2, h3, h4, h5⟩ := h
  exact wpListIn_range_own w hg m _ hop _ _ rk_law mp_under _ b n D hm h1 fun w' r1 r2 r3 => hK w' ⟨D, Maps.has D, h2 ▸ r1, h2, h3, h4, h5, h3, fun _ h => h⟩ r2 r3

theorem in_next_grp {Fc : Fence} {nF : Nat} {ops : Array Oper} {rest : List Oper} {o : Oper} {a : Act} {Q : Exit → Act → World → Prop} (hg : o.guard = none) (it : Operand) (hop : o.op = Op.next it false)
    (b r n sz : Nat) (lf left : Int × Int → Bool) (F : Int × Int → Int) (cnt : Nat) (hit : a.eval it = .pointer (some ⟨r, 0, none⟩)) (h : GrpR w b r n sz lf left F cnt)
    (hDone : (∀ x, left x = false) → wpListIn Fc nF Try.prog ops Q rest (a.put o.dst (.tuple #[.bool false])) w)
    (hMore : ∀ (x y v : Int) (w' : World) (cnt' : Nat), W2 (x, y) → left (x, y) = true → GrpR w' b r n sz lf (fun z => left z && !decide (z = (x, y))) F cnt' → cnt' < cnt → w.grownBy w' (some r) → w'.heap.size = w.heap.size →
      (Instr.entry (.pointer (some ⟨r, 0, none⟩))).run Try.prog w' = .ok (.tuple #[.agg #[.int .i64 x, .int .i64 y], .int .i64 v]) w' → wpListIn Fc nF Try.prog ops Q rest (a.put o.dst (.tuple #[.bool true, .agg #[.int .i64 x, .int .i64 y], .int .i64 v])) w') :
    wpListIn Fc nF Try.prog ops Q (o :: rest) a w := by
  obtain ⟨D, L, h1, h2, h3, h4, h5, h6, h7⟩ := h
  refine wpListIn_next_ranges w hg it hop _ rk_law (plainElem Try.prog 2) rV (Value.int .i64) (fun key kl hkey => by obtain ⟨x, rfl, _⟩ := rk_inv hkey; exact ⟨x, rfl⟩)
    (fun v y hv => by obtain ⟨c, rfl, _⟩ := plainElem_int_inv i64_under hv; exact ⟨c, rfl⟩) b r n D L cnt hit h1 (fun h0 hl => hDone fun x => ?_) (fun x c kl y w' cnt' hkey hlk hv hat hrg hlt hgr hsz hen => ?_)
  · cases hx : left x with
    | false => rfl
    | true => rw [← h6 x (h5 x (h7 x hx)), hl] at hx; cases hx
  · obtain ⟨x', ex, hw, rfl⟩ := rk_inv hkey
    have e1 : x = x' := by
      unfold rV at ex
      simp at ex
      exact Prod.ext ex.1 ex.2
    subst e1
    refine hMore x.1 x.2 c w' cnt' hw (by rw [← h6 _ hw]; exact hlk) ⟨D, _, hrg, h2, h3, h4, h5, fun z hz => ?_, fun z hz => h7 z (by simp at hz; exact hz.1)⟩ hlt hgr hsz hen
    rw [h6 z hz]
    by_cases e : z = x
    · subst e; rw [WideAt.sameKey_self (kR_key hz)]; simp
    · rw [Maps.sameKey_ne (fun k => e (kR_inj hz hw k))]; simp [e]

theorem in_delete_grp {Fc : Fence} {nF : Nat} {ops : Array Oper} {rest : List Oper} {o : Oper} {a : Act} {Q : Exit → Act → World → Prop} (hg : o.guard = none) (m x : Operand) (hop : o.op = Op.call { callee := Callee.builtin Builtin.delete, args := #[m, x], argTypes := #[90, 25] })
    (b n sz : Nat) (lf : Int × Int → Bool) (F : Int × Int → Int) (hm : a.eval m = .map (some b)) (h : Grp w b n sz lf F) (r : Int × Int) (hr : W2 r) (hx : a.eval x = .agg #[.int .i64 r.1, .int .i64 r.2])
    (hK : ∀ w', Grp w' b n (if lf r then sz - 1 else sz) (fun x => lf x && !decide (x = r)) F → w.grownBy w' (some b) → wpListIn Fc nF Try.prog ops Q rest (a.put o.dst (.tuple #[])) w') :
    wpListIn Fc nF Try.prog ops Q (o :: rest) a w := by
  refine wpListIn_plain hg fun K' hK' => ?_
  obtain ⟨w', hrun, r1, r2⟩ := h.del hr o.type
  have hx' : a.eval x = rV r := hx
  unfold Oper.wpIn
  refine ⟨by simp [Oper.about, hop, resolve, Target.leads, Sem.run_pure], ?_⟩
  rw [Oper.semAt_plain Fc _ _ (by rw [hop]; intro c hc'; cases hc')]
  simp [execOp, hop, resolve, invoke, builtin, hm, hx', hrun, Result.andThen]
  exact hK' _ _ (hK w' r1 r2)

theorem in_len_grp {Fc : Fence} {nF : Nat} {ops : Array Oper} {rest : List Oper} {o : Oper} {a : Act} {Q : Exit → Act → World → Prop} (hg : o.guard = none) (m : Operand) (hop : o.op = Op.call { callee := Callee.builtin Builtin.len, args := #[m], argTypes := #[90] })
    (b n sz : Nat) (lf : Int × Int → Bool) (F : Int × Int → Int) (hm : a.eval m = .map (some b)) (h : Grp w b n sz lf F)
    (hK : wpListIn Fc nF Try.prog ops Q rest (a.put o.dst (.int .i64 (sz : Nat))) w) :
    wpListIn Fc nF Try.prog ops Q (o :: rest) a w := by
  refine wpListIn_plain hg fun K' hK' => ?_
  unfold Oper.wpIn
  refine ⟨by simp [Oper.about, hop, resolve, Target.leads, Sem.run_pure], ?_⟩
  rw [Oper.semAt_plain Fc _ _ (by rw [hop]; intro c hc'; cases hc')]
  simp [execOp, hop, resolve, invoke, builtin, hm, h.len o.type, Result.andThen]
  exact hK' _ _ hK

theorem in_lookup_grp {Fc : Fence} {nF : Nat} {ops : Array Oper} {rest : List Oper} {o : Oper} {a : Act} {Q : Exit → Act → World → Prop} (hg : o.guard = none) (m x : Operand) (hop : o.op = Op.lookup 90 m x false)
    (b n sz : Nat) (lf : Int × Int → Bool) (F : Int × Int → Int) (hm : a.eval m = .map (some b)) (h : Grp w b n sz lf F) (r : Int × Int) (hr : W2 r) (hx : a.eval x = .agg #[.int .i64 r.1, .int .i64 r.2])
    (hK : wpListIn Fc nF Try.prog ops Q rest (a.put o.dst (.int .i64 (gv lf F r))) w) :
    wpListIn Fc nF Try.prog ops Q (o :: rest) a w := by
  refine wpListIn_plain hg fun K' hK' => ?_
  have hx' : a.eval x = rV r := hx
  unfold Oper.wpIn
  refine ⟨by simp [Oper.about, hop, resolve, Target.leads, Sem.run_pure], ?_⟩
  rw [Oper.semAt_plain Fc _ _ (by rw [hop]; intro c hc'; cases hc')]
  simp [execOp, hop, hm, hx', h.look hr, Result.andThen]
  exact hK' _ _ hK

set_option maxRecDepth 100000 in
/-- the entry of a fraction, and the store into it -/
theorem Grp.entry (h : Grp w b n sz lf F) {r : Int × Int} (hr : W2 r) (hn : n ≤ 100000) :
    ∃ (st : Nat) (w1 : World), (Instr.mapEntry 90 (.map (some b)) (rV r)).run Try.prog w = .ok (.tuple #[.int .i64 (gv lf F r), goInt st]) w1 ∧ w.grownBy w1 (some b) ∧ w1.heap.size = w.heap.size ∧
      (Instr.lookup 90 (.map (some b)) (rV r) false).run Try.prog w1 = .ok (.int .i64 (gv lf F r)) w1 ∧
      ∀ (w2 : World) (v : Int), (Lit.int .i64 v).wf = true → w2.heap[b]? = w1.heap[b]? → ∃ w3, (Instr.entryStore 90 (.map (some b)) (goInt st) (.int .i64 v)).run Try.prog w2 = .ok () w3 ∧
        Grp w3 b (n + 1) (if lf r then sz else sz + 1) (fun x => decide (x = r) || lf x) (fun x => if x = r then v else F x) ∧ w2.grownBy w3 (some b) := by
  have hG := h
  have hlook := h.look hr
  obtain ⟨D, ⟨es, clock, hb, hF, hs, hD⟩, h2, h3, h4, h5⟩ := h
  have hz : ∀ u : World, (zeroValue 2).run Try.prog u = .ok (.int .i64 0) u := rk_zero
  obtain ⟨v0, st, es1, clock1, hrun, hv0, hst⟩ := entry_then_store rk_klaw mp_under hz hb hF (rk_mk hr)
  have hlt : b < w.heap.size := (Array.getElem?_eq_some_iff.1 hb).1
  have hg1 : w.grownBy (setBlock w b (.map es1 clock1)) (some b) := ⟨rfl, rfl, rfl, by simp [setBlock], fun i _ hi => heap_setBlock_other hb _ (fun e => hi (by rw [e]))⟩
  -- the look-up behind it
  have hl1 : (Instr.lookup 90 (.map (some b)) (rV r) false).run Try.prog (setBlock w b (.map es1 clock1)) = .ok v0 (setBlock w b (.map es1 clock1)) ∧ v0 = .int .i64 (gv lf F r) := by
    rcases rk_klaw.find w (rk_mk hr) es.toList hF.keys with ⟨f1, f2⟩ | ⟨j, e0, f1, f2, f3⟩
    · have hrun2 : (Instr.mapEntry 90 (.map (some b)) (rV r)).run Try.prog w = .ok (.tuple #[.int .i64 0, goInt clock]) (setBlock w b (.map (es.push ⟨rV r, .int .i64 0, clock⟩) (clock + 1))) := by
        simp [Instr.mapEntry, run_underlying mp_under, MapKept.run_getObj_map hb, rk_klaw.check w false (rk_mk hr), f1, rk_zero, MapKept.run_setObj_map _ hb, Result.andThen, setBlock]
      have hput : (Instr.mapUpdate 90 (.map (some b)) (rV r) (.int .i64 0)).run Try.prog w = .ok () (setBlock w b (.map (es.push ⟨rV r, .int .i64 0, clock⟩) (clock + 1))) := by
        simp [Instr.mapUpdate, run_underlying mp_under, MapKept.run_getObj_map hb, rk_klaw.check w false (rk_mk hr), f1, MapKept.run_setObj_map _ hb, Result.andThen, setBlock]
      obtain ⟨w', hp, hGp, _⟩ := hG.put hr hn 0 (by decide)
      rw [hput] at hp
      rw [hrun] at hrun2
      injection hrun2 with e1 e2
      injection hp with _ e3
      have hl := hGp.look hr
      have hn0 : lf r = false := by
        rw [← h3 r hr]
        cases hh : Maps.has D (kR r) with
        | false => rfl
        | true =>
          rw [hD] at hh
          obtain ⟨p, hp, hpk⟩ := List.any_eq_true.1 hh
          obtain ⟨x, hx, rfl⟩ := List.mem_map.1 (mem_sorted.1 hp)
          obtain ⟨y, hy⟩ := hF.reads x hx
          rw [Go.WideElems.rg_of hy] at hpk
          have e4 := WideAt.sameKey_eq hpk
          have e5 := Go.WideElems.rd_key hy
          rw [show y.1 = kR r from e4] at e5
          exact absurd (rk_law.inj e5 (rk_mk hr)) (f2 x hx)
      have e6 : v0 = .int .i64 0 := by
        injection e1 with e1
        simp at e1
        exact e1.1
      rw [e2, e3, hl, e6]
      simp [gv, hn0]
    · have hj : es[j]? = some e0 := by simpa using f2
      rcases hv0 with ⟨e9, he9, hk9, hv9⟩ | ⟨hno, _⟩
      · have hrun2 : ∃ st2 es2 c2, (Instr.mapEntry 90 (.map (some b)) (rV r)).run Try.prog w = .ok (.tuple #[e0.val, goInt st2]) (setBlock w b (.map es2 c2)) ∧ es2 = es ∧ c2 = clock := by
          refine ⟨_, es.modify j (fun e => { e with key := rV r }), clock, by simp [Instr.mapEntry, run_underlying mp_under, MapKept.run_getObj_map hb, rk_klaw.check w false (rk_mk hr), f1, hj, f3, rk_klaw.stays w (rk_mk hr), MapKept.run_setObj_map _ hb, Result.andThen, setBlock]; rfl, ?_, rfl⟩
          apply Array.ext'
          rw [Array.toList_modify, modify_eq_set _ _ _ _ f2]
          have : ({ e0 with key := rV r } : MapEntry) = e0 := by rw [← f3]
          rw [this]
          exact Go.WideElems.set_self _ _ _ f2
        obtain ⟨st2, es2, c2, hrun2, rfl, rfl⟩ := hrun2
        rw [hrun] at hrun2
        injection hrun2 with e1 e2
        have hG1 : Grp (setBlock w b (.map es1 clock1)) b n sz lf F := by
          refine hG.of_heap ?_
          rw [e2, heap_setBlock_same hb, hb]
        have hl := hG1.look hr
        have hv : (Instr.lookup 90 (.map (some b)) (rV r) false).run Try.prog w = .ok e0.val w := by
          simp [Instr.lookup, run_underlying mp_under, MapKept.run_getObj_map hb, rk_klaw.check w _ (rk_mk hr), f1, Result.andThen]
        rw [hlook] at hv
        injection hv with hv
        have e6 : v0 = e0.val := by
          injection e1 with e1
          simp at e1
          exact e1.1
        have e7 : v0 = .int .i64 (gv lf F r) := e6.trans hv.symm
        exact ⟨by rw [hl, e7], e7⟩
      · exact absurd f3 (hno e0 (List.mem_of_getElem? f2))
  obtain ⟨hl1, rfl⟩ := hl1
  refine ⟨st, _, hrun, hg1, by simp [setBlock], hl1, fun w2 v hv hw2 => ?_⟩
  obtain ⟨es', clock', hr2, hr3⟩ := hst w2 (.int .i64 v) (by rw [hw2]; exact heap_setBlock_same hb _)
  obtain ⟨w', hp, hGp, hgp⟩ := hG.put hr hn v hv
  rw [hr3] at hp
  injection hp with _ e3
  have hb2 : w2.heap[b]? = some (.map es1 clock1) := by rw [hw2]; exact heap_setBlock_same hb _
  refine ⟨_, hr2, hGp.of_heap ?_, ⟨rfl, rfl, rfl, by simp [setBlock], fun i _ hi => heap_setBlock_other hb2 _ (fun e => hi (by rw [e]))⟩⟩
  rw [← e3, heap_setBlock_same hb, heap_setBlock_same hb2]

theorem wpOpIn_round {l q : Nat} {P : Program} {ops : Array Oper} {Q : Exit → Act → World → Prop} {K K' : Act → World → Prop} {i : Nat} {a : Act} {w : World} (hd : ∀ (i : Nat) (o : Oper), ops[i]? = some o → ∀ c, o.op ≠ .defer c)
    (hQ : ¬ LetsOut Q) (hK : ∀ a w, K a w → K' a w) (h : wpOp P ops Q i K a w) : wpOpIn (Fence.wide.inRound l) q P ops Q i K' a w := by
  unfold wpOp at h
  unfold wpOpIn
  cases ho : ops[i]? with
  | none => simp only [ho] at h ⊢; exact hK _ _ h
  | some o =>
    simp only [ho] at h ⊢
    split
    · rename_i hw
      simp only [hw, if_true] at h
      rcases h with h | ⟨_, h⟩
      case inr => exact absurd h hQ
      refine ⟨fun _ _ => trivial, ?_⟩
      rw [show (Fence.wide.inRound l).round = some l from rfl, Oper.semAt_some l _ _ (hd i o ho)]
      unfold Oper.wp at h
      generalize (execOp a.eval o).run P w = r at *
      cases r with
      | ok n w' =>
        cases n <;> simp only [Oper.upon, Oper.uponIn] at h ⊢
        case value u => exact hK _ _ h
        case skip => exact hK _ _ h
        case defer d => exact hK _ _ h
        case enter f args =>
          refine ⟨fun hx => by simp [Fence.wide] at hx, CallsIn.inRound l (callsIn_wide.2 (h.mono fun e w2 he => ?_))⟩
          cases e with
          | returned v => exact hK _ _ he
          | panicked c => exact he
          | outgrown => exact he
        case row row args =>
          refine ⟨fun hx => by simp [Fence.wide] at hx, fun c cs _ => ?_⟩
          obtain ⟨v, w2, hr, hs⟩ := h c cs
          exact ⟨v, w2, hK _ _ hr, stepsIn_wide.2 hs⟩
      | halt x w' => cases x <;> simp only [Oper.upon, Oper.uponIn] at h ⊢; exact h
    · rename_i hw
      simp only [hw] at h
      exact ⟨fun _ _ => trivial, hK _ _ h⟩

theorem wpAnyIn_round {l q : Nat} {P : Program} {ops : Array Oper} {Q : Exit → Act → World → Prop} {md : Region.Mode} (hd : ∀ (i : Nat) (o : Oper), ops[i]? = some o → ∀ c, o.op ≠ .defer c) (hQ : ¬ LetsOut Q) :
    ∀ (fuel : Nat) (listed : Array Bool) (a : Act) (w : World), wpAny P md ops Q fuel listed a w → wpAnyIn (Fence.wide.inRound l) q P md ops Q fuel listed a w
  | 0, _, _, _, h => h
  | fuel + 1, listed, a, w, h => ⟨h.1, fun i hi => wpOpIn_round hd hQ (fun a w => wpAnyIn_round hd hQ fuel _ a w) (h.2 i hi)⟩

def noDefer (ops : Array Oper) : Bool := ops.all fun o => match o.op with | .defer _ => false | _ => true
theorem noDefer_spec {ops : Array Oper} (h : noDefer ops = true) (i : Nat) (o : Oper) (ho : ops[i]? = some o) (c : Call) : o.op ≠ .defer c := by
  intro e
  have := Array.all_eq_true_iff_forall_mem.1 h o (Array.mem_of_getElem? ho)
  rw [e] at this
  cases this

/-- a region in a round, as elsewhere -/
theorem region_round {l q id : Nat} {P : Program} {ops : Array Oper} {Q : Exit → Act → World → Prop} {a : Act} {w : World} (S : World → Prop) (hm : P.follows .mixedOrders = true) (hd : noDefer ops = true) (hQ : ¬ LetsOut Q)
    (h : wpAnyH P .any ops Q S ops.size (Array.replicate ops.size false) a w.drew) : (Code.region id ops true).wpIn (Fence.wide.inRound l) q P Q a w :=
  wpIn_region_any hm (wpAnyIn_round (noDefer_spec hd) hQ _ _ _ _ (wpAny_of_held _ _ _ _ h))

end Go.Proofs.Ytcmllkjgggcghaa
end

/- Walks of package eye: Best: how much Guess there is of each fraction. -/
section
namespace Go.Proofs.Ytcmllkjgggcghaa
open Go.RowKit Go.Shelf
open Em (red)
set_option linter.unusedSimpArgs false
set_option linter.unusedVariables false
attribute [local go_sem] Oper.semAt_some

theorem key_bd {g e : Nat → Int} {k : Nat} (h : live g e k = true) (hg : g k ≤ 64000000) (he : e k ≤ 64000000) : 1 ≤ (key g e k).1 ∧ (key g e k).1 ≤ 64000000 ∧ 1 ≤ (key g e k).2 ∧ (key g e k).2 ≤ 64000000 := by
  have hr := key_rd h
  have h0 := live_iff.1 h
  have hd := gcd_pos (a := e k) h0.2
  obtain ⟨h1, h2⟩ := red_mul (a := e k) (b := g k)
  have a1 := hr.n
  have a2 := hr.d
  unfold key at *
  generalize (Int.gcd (e k) (g k) : Int) = d at *
  have b1 : (red (e k) (g k)).1 * 1 ≤ (red (e k) (g k)).1 * d := Int.mul_le_mul_of_nonneg_left (by omega) (by omega)
  have b2 : (red (e k) (g k)).2 * 1 ≤ (red (e k) (g k)).2 * d := Int.mul_le_mul_of_nonneg_left (by omega) (by omega)
  omega

theorem w2_of {r : Int × Int} (h : 1 ≤ r.1 ∧ r.1 ≤ 64000000 ∧ 1 ≤ r.2 ∧ r.2 ≤ 64000000) : W2 r := ⟨WalkArith.wf_i64 (by omega), WalkArith.wf_i64 (by omega)⟩

/-- the fractions of the first outcomes -/
def lfK (g e : Nat → Int) (k : Nat) (r : Int × Int) : Bool := (List.range k).any fun j => live g e j && decide (key g e j = r)

theorem lfK_iff {g e : Nat → Int} {k : Nat} {r : Int × Int} : lfK g e k r = true ↔ ∃ j, j < k ∧ live g e j = true ∧ r = key g e j := by
  unfold lfK
  simp only [List.any_eq_true, List.mem_range, Bool.and_eq_true, decide_eq_true_eq]
  exact ⟨fun ⟨j, h1, h2, h3⟩ => ⟨j, h1, h2, h3.symm⟩, fun ⟨j, h1, h2, h3⟩ => ⟨j, h1, h2, h3.symm⟩⟩

theorem lfK_succ {g e : Nat → Int} {k : Nat} {r : Int × Int} : lfK g e (k + 1) r = (lfK g e k r || (live g e k && decide (key g e k = r))) := by
  unfold lfK
  rw [List.range_succ, List.any_append]
  simp

theorem grp_none {g e : Nat → Int} {r : Int × Int} : ∀ {k : Nat}, lfK g e k r = false → grp g e r k = 0
  | 0, _ => rfl
  | k + 1, h => by
    rw [lfK_succ, Bool.or_eq_false_iff] at h
    unfold grp at *
    rw [sumIf]
    have := grp_none (r := r) h.1
    unfold grp at this
    rw [this, if_neg (by rw [h.2]; decide)]
    rfl

theorem grp_step {g e : Nat → Int} {k : Nat} (h : live g e k = true) : gv (lfK g e k) (fun r => grp g e r k) (key g e k) + g k = grp g e (key g e k) (k + 1) := by
  have h1 : grp g e (key g e k) (k + 1) = grp g e (key g e k) k + g k := by
    unfold grp
    rw [sumIf, if_pos (by simp [h])]
  rw [h1]
  unfold gv
  by_cases hl : lfK g e k (key g e k) = true
  · rw [if_pos hl]
  · rw [if_neg hl, grp_none (by simpa using hl)]
theorem grp_other {g e : Nat → Int} {k : Nat} {r : Int × Int} (h : live g e k = false ∨ r ≠ key g e k) : grp g e r (k + 1) = grp g e r k := by
  unfold grp
  rw [sumIf, if_neg]
  · omega
  · rcases h with h | h
    · simp [h]
    · simp; intro _ e; exact h e.symm

theorem Grp.congr {w : World} {b n sz : Nat} {lf lf' : Int × Int → Bool} {F F' : Int × Int → Int} (h : Grp w b n sz lf F) (h1 : ∀ r, lf r = lf' r) (h2 : ∀ r, lf r = true → F r = F' r) : Grp w b n sz lf' F' := by
  obtain ⟨D, k1, k2, k3, k4, k5⟩ := h
  exact ⟨D, k1, k2, fun r hr => (k3 r hr).trans (h1 r), fun r hr hl z => by rw [← h1] at hl; rw [k4 r hr hl z, h2 r hl], fun r hl => k5 r (by rw [h1]; exact hl)⟩

/-- a list, a threshold and an error that are handed back -/
def RetLRE (l : List Int) (t : Int × Int) (er : Int) (w : World) (e : Ending) (w' : World) : Prop :=
  ∃ A n c, e = .returned (.tuple #[.slice A n c, .agg #[.int .i64 t.1, .int .i64 t.2], .int .i64 er]) ∧ Ints w' A n l ∧ Below w.heap.size w w'
/-- the same, with the capacity -/
def RetLREc (l : List Int) (t : Int × Int) (er : Int) (w : World) (e : Ending) (w' : World) : Prop :=
  ∃ A n c, e = .returned (.tuple #[.slice A n c, .agg #[.int .i64 t.1, .int .i64 t.2], .int .i64 er]) ∧ Ints w' A n l ∧ Below w.heap.size w w' ∧ n ≤ c
theorem RetLREc.weak {l : List Int} {t : Int × Int} {er : Int} {w w' : World} {e : Ending} (h : RetLREc l t er w e w') : RetLRE l t er w e w' := by
  obtain ⟨A, n, c, h1, h2, h3, -⟩ := h
  exact ⟨A, n, c, h1, h2, h3⟩

theorem grown_turns {w w' : World} (h : w.grownBy w' none) : Turns (fun _ => False) w w' := ⟨h.os, h.tape, h.output, h.size, fun i hi _ => h.block i hi (by simp)⟩
theorem grown_turns1 {w w' : World} {r : Nat} (h : w.grownBy w' (some r)) : Turns (fun i => i = r) w w' := ⟨h.os, h.tape, h.output, h.size, fun i hi ho => h.block i hi (fun e => ho (by injection e))⟩

theorem turns_set2 {O : Nat → Prop} {w : World} {g : Nat} (x y : Value) (hg : O g) : Turns O w ((w.setCell ⟨g, 0, none⟩ x).setCell ⟨g, 1, none⟩ y) := (Turns.setCell (p := ⟨g, 0, none⟩) x hg).trans (Turns.setCell (p := ⟨g, 1, none⟩) y hg)
theorem Grp.turns {w w' : World} {b n sz : Nat} {lf : Int × Int → Bool} {F : Int × Int → Int} {O : Nat → Prop} (h : Grp w b n sz lf F) (ht : Turns O w w') (hO : ¬ O b) : Grp w' b n sz lf F := h.of_heap (ht.block _ h.lt hO)
theorem GrpR.turns {w w' : World} {b r n sz cnt : Nat} {lf left : Int × Int → Bool} {F : Int × Int → Int} {O : Nat → Prop} (h : GrpR w b r n sz lf left F cnt) (ht : Turns O w w') (h1 : ¬ O b) (h2 : ¬ O r) : GrpR w' b r n sz lf left F cnt := by
  obtain ⟨D, L, ⟨es, clock, since, seen, c0, k1, k2, k3, k4, k5, k6⟩, hD⟩ := h
  exact ⟨D, L, ⟨es, clock, since, seen, c0, (ht.block _ (Array.getElem?_eq_some_iff.1 k1).1 h1).trans k1, k2, k3, k4, (ht.block _ (Array.getElem?_eq_some_iff.1 k5).1 h2).trans k5, k6⟩, hD⟩
theorem GrpR.sub {w : World} {b r n sz cnt : Nat} {lf left : Int × Int → Bool} {F : Int × Int → Int} (h : GrpR w b r n sz lf left F cnt) {x : Int × Int} (hx : left x = true) : lf x = true := by
  obtain ⟨D, L, _, _, _, _, _, _, h7⟩ := h
  exact h7 x hx

/-- the greatest fraction of those that have come -/
def Top (lf left : Int × Int → Bool) (t : Int × Int) : Prop :=
  (t = (0, 0) ∧ ∀ r, left r = lf r) ∨ (lf t = true ∧ left t = false ∧ ∀ r, lf r = true → left r = false → ¬ lt t r)

theorem Search.rd {g e : Nat → Int} {M : Nat} {most taken : Int} {lf : Int × Int → Bool} (h : Search g e M most lf taken) (hb : ∀ k, k < M → g k ≤ 64000000 ∧ e k ≤ 64000000) {r : Int × Int} (hr : lf r = true) :
    Rd r ∧ (1 ≤ r.1 ∧ r.1 ≤ 64000000 ∧ 1 ≤ r.2 ∧ r.2 ≤ 64000000) := by
  obtain ⟨k, hk, hl, rfl⟩ := h.fk r hr
  exact ⟨key_rd hl, key_bd hl (hb k hk).1 (hb k hk).2⟩

theorem Top.first {lf left : Int × Int → Bool} {t x : Int × Int} (h : Top lf left t) (ht : t = (0, 0)) (h0 : lf (0, 0) = false) (hx : left x = true) : Top lf (fun z => left z && !decide (z = x)) x := by
  rcases h with ⟨_, h⟩ | ⟨h, _⟩
  · refine .inr ⟨by rw [← h]; exact hx, by simp, fun r hr hn => ?_⟩
    have hn' : (left r && !decide (r = x)) = false := hn
    rw [h r, hr] at hn'
    simp at hn'
    rw [hn']
    exact lt_irrefl'
  · rw [ht, h0] at h; cases h
theorem Top.more {lf left : Int × Int → Bool} {t x : Int × Int} (h : Top lf left t) (ht : ¬ t = (0, 0)) (hd : ∀ r, lf r = true → 0 < r.2) (hx : left x = true) (hxl : lf x = true) (hlt : lt t x) : Top lf (fun z => left z && !decide (z = x)) x := by
  rcases h with ⟨h, _⟩ | ⟨h1, h2, h3⟩
  · exact absurd h ht
  · refine .inr ⟨hxl, by simp, fun r hr hn hlr => ?_⟩
    by_cases e : r = x
    · rw [e] at hlr; exact lt_irrefl' hlr
    · simp [e] at hn
      exact h3 r hr hn (lt_trans' (hd t h1) (hd x hxl) (hd r hr) hlt hlr)
theorem Top.stay {lf left : Int × Int → Bool} {t x : Int × Int} (h : Top lf left t) (ht : ¬ t = (0, 0)) (hlt : ¬ lt t x) : Top lf (fun z => left z && !decide (z = x)) t := by
  rcases h with ⟨h, _⟩ | ⟨h1, h2, h3⟩
  · exact absurd h ht
  · refine .inr ⟨h1, by simp [h2], fun r hr hn => ?_⟩
    by_cases e : r = x
    · rw [e]; exact hlt
    · simp [e] at hn
      exact h3 r hr hn
theorem Top.fin {lf left : Int × Int → Bool} {t : Int × Int} (h : Top lf left t) (hn : ∀ r, left r = false) (he : ∃ r, lf r = true) : lf t = true ∧ ∀ r, lf r = true → ¬ lt t r := by
  rcases h with ⟨_, h⟩ | ⟨h1, h2, h3⟩
  · obtain ⟨r, hr⟩ := he
    rw [← h r, hn r] at hr
    cases hr
  · exact ⟨h1, fun r hr => h3 r hr (hn r)⟩

set_option maxRecDepth 100000 in
set_option maxHeartbeats 1000000 in
theorem best_cok (A : Option Addr) (n c : Nat) (zs : List Pl) (most : Int) (w : World) (hz : Plates w A n zs) (hn : n ≤ 6) (ht : testE zs = 0) (hm0 : 0 ≤ most) (hm : most ≤ 9223372036854775807) :
    Calls Try.prog 20 #[.slice A n c, .int .i64 most] w fun e w' => ∃ t, IsBest (ocG zs n) (ocE zs n) (manyT zs) most t ∧ RetLREc (regL zs n t (manyT zs)) t 0 w e w' := by
  obtain ⟨t1, t2, hg⟩ := testE_ok ht
  have kn := fun (W : World) (hb : Below w.heap.size w W) => newTest_ok A n c zs W (hz.below hb) (by omega) ht
  have hM2 := many_le hz.1 hn hg
  have Hb := Lib.hid (fun k hk => oc_bd (N := k) hz.1 hg hz.2.2 hn hk)
  have Hz := Lib.hid hz
  have Hg := Lib.hid hg
  have hmm := @run_makeMap Try.prog
  unfold RetLREc
  refine (callsIn_wide (n := 8)).1 ?_
  refine callsIn_of_wp_marks Try.func20 rfl trivial ?_ rfl
  simp only [Try.ntmps20, List.size_toArray, List.length_cons, List.length_nil, Nat.reduceAdd, Nat.reduceSub, Array.replicate_succ, Array.replicate_zero, List.push_toArray, List.append_toArray, List.nil_append, List.cons_append]
  clear hz hg ht t1 t2
  gi_wp2_with fail
  refine wpIn_wide.2 (wp_scope_straight (wpIn_wide (n := 8).1 ?_))
  gi_wp2_with fail
  refine ⟨trivial, (callsIn_wide.2 (kn _ blA)).mono ?_⟩
  rintro _ w1 ⟨g, rfl, hgw, Bg, hb1⟩
  have B5 : Cs w1 w.heap.size #[.int .i64 0, .int .i64 0] := Cs.keep csA hb1
  have hbw1 : Below w.heap.size w w1 := blA
  have hgw2 : w.heap.size + 1 ≤ g := by simpa using hgw
  clear kn hb1 hgw
  gi_wp2_with fail
  refine ⟨trivial, (callsIn_wide.2 (outcomes_any g _)).mono ?_⟩
  rintro _ w2 ⟨Bs, rfl, hBs, cBs, hb2⟩
  have hlt1 := Bg.lt
  have hs01 := hbw1.size
  have hb12 : Below w.heap.size w w2 := blA
  have G0 : Grp w2 w1.heap.size 0 0 (lfK (ocG zs n) (ocE zs n) 0) (fun r => grp (ocG zs n) (ocE zs n) r 0) :=
    ((((Grp.made w1 (fun _ => 0)).kept (World.grownBy_alloc _ _ none) (by simp)).of_heap (hb2.block _ (by simp; omega))).congr (fun _ => rfl) (fun _ h => by cases h))
  have B9 : Cs w2 (w1.heap.size + 1) #[.map (some w1.heap.size)] := Cs.keep csA hb2
  have B52 : Cs w2 w.heap.size #[.int .i64 0, .int .i64 0] := Cs.keep csA hb2
  have Bg2 : Cs w2 g #[.slice A n c, .int .i64 (manyT zs : Nat)] := Cs.keep csA hb2
  have hBs2 : w1.heap.size + 2 ≤ Bs := by simpa using hBs
  clear hb2 hBs B5 Bg hbw1 hmm
  gi_wp2_with fail
  obtain ⟨I, hId⟩ : ∃ I : Nat → World → Prop, I = fun k W => ∃ sz, Grp W w1.heap.size k sz (lfK (ocG zs n) (ocE zs n) k) (fun r => grp (ocG zs n) (ocE zs n) r k) ∧ Cs W (w1.heap.size + 1) #[.map (some w1.heap.size)] ∧ Cs W w.heap.size #[.int .i64 0, .int .i64 0] ∧ Below w.heap.size w W ∧ Cs W g #[.slice A n c, .int .i64 (manyT zs : Nat)] := ⟨_, rfl⟩
  have hs2 : w1.heap.size + 2 ≤ w2.heap.size := B9.lt
  have hBs1 : Bs < w2.heap.size := World.block_lt_of_cell? w2 _ cBs
  have hI : ∀ k W W', I k W → Turns (fun i => i = w2.heap.size + 1 ∨ i = w2.heap.size + 2) W W' → I k W' := by
    intro k W W' h ht
    rw [hId] at h ⊢
    obtain ⟨sz, h1, h2, h3, h4, h5⟩ := h
    exact ⟨sz, h1.of_heap (ht.block _ h1.lt (by omega)), h2.turns ht (by omega), h3.turns ht (by omega), Turns.below h4 ht (fun i hi => by have hi' := hi; omega) (by have := h4.size; omega), h5.turns ht (by omega)⟩
  refine range_outcomes (by omega) Bs g n c (manyT zs) w.heap.size A zs w Hz.out hn Hg.out hb12 rfl cBs Bg2 rfl rfl (fun i => i = w1.heap.size) (fun i hi => by have hi' : i = w1.heap.size := hi; omega)
    I hI (fun _ _ _ => False) (fun _ _ _ _ h _ => h.elim) (by rw [hId]; exact ⟨0, G0, B9, B52, hb12, Bg2⟩)
    (fun k a' W => ∃ b4, w2.heap.size + 3 ≤ b4 ∧ Cs W b4 #[.int .i64 (ocG zs n k), .int .i64 (ocE zs n k)] ∧ I k W ∧ a' = { tmps := #[.slice A n c, .int .i64 most, undef, undef, .slice none 0 0, .pointer (some ⟨w.heap.size, 0, none⟩), .int .i64 0, .pointer (some ⟨g, 0, none⟩), .int .i64 0, .pointer (some ⟨w1.heap.size + 1, 0, none⟩), undef, .pointer (some ⟨b4, 0, none⟩), undef, undef, undef, undef, .tuple #[.pointer (some ⟨g, 0, none⟩), .int .i64 0], .slice A n c, .tuple #[.pointer (some ⟨g, 0, none⟩), .int .i64 0], .pointer (some ⟨g, 0, none⟩), .int .i64 0, .int .i64 0, .bool false, undef, undef, .int .i64 most, .bool (decide (most < 0)), undef, .map (some w1.heap.size), .pointer (some ⟨g, 0, none⟩), .func (.func 76) #[] #[.pointer (some ⟨Bs, 0, none⟩)], .int .i64 (k : Nat), .agg #[.int .i64 (ocG zs n k), .int .i64 (ocE zs n k)], undef, undef, undef, undef, undef, undef, undef, undef, undef, undef, undef, undef, undef, undef, undef, undef, undef, undef, undef, undef, undef, undef, undef, undef, undef, undef, undef, undef, undef, undef, undef, undef, undef, undef, undef, undef, undef, undef, undef, undef, undef, undef, undef, undef, undef, undef, undef, undef, undef, undef, undef, undef, undef, undef, undef, undef, undef, undef, undef, undef, undef, undef, undef, undef, undef, undef, undef, undef], defers := [] }) ?hax ?assign ?body ?done ?stop
  case hax =>
    rintro k a' W W' ⟨b4, h4, B4, hi, rfl⟩ ht
    exact ⟨b4, h4, B4.turns ht (fun e => by have e' : b4 = w2.heap.size + 1 := e; omega), hI _ _ _ hi (ht.mono fun i hi => .inl hi), rfl⟩
  case assign =>
    intro l k W K hkM hi hW hK
    unfold encO
    gi_wp2_with fail
    have T : Turns (fun _ => False) W (W.alloc (.cells #[.int .i64 (ocG zs n k), .int .i64 (ocE zs n k)] 59)) := Turns.of_below (balloc (Below.refl _ _) _)
    exact hK _ _ T ⟨W.heap.size, hW, Cs.new _ _ _ _ rfl, hI _ _ _ hi (T.mono fun _ h => h.elim), rfl⟩
  case body =>
    rintro l k a' W hkM ⟨b4, h4, B4, hi, rfl⟩ hW
    rw [hId] at hi
    obtain ⟨sz, hG, h1, h2, h3, hBg⟩ := hi
    obtain ⟨q1, q2, q3, q4⟩ := Hb.out k hkM
    have HI : Hid (∀ sz2 W2, Grp W2 w1.heap.size (k + 1) sz2 (lfK (ocG zs n) (ocE zs n) (k + 1)) (fun r => grp (ocG zs n) (ocE zs n) r (k + 1)) → Cs W2 (w1.heap.size + 1) #[.map (some w1.heap.size)] → Cs W2 w.heap.size #[.int .i64 0, .int .i64 0] → Below w.heap.size w W2 → Cs W2 g #[.slice A n c, .int .i64 (manyT zs : Nat)] → I (k + 1) W2) :=
      Lib.hid fun sz2 W2 a1 a2 a3 a4 a5 => by rw [hId]; exact ⟨sz2, a1, a2, a3, a4, a5⟩
    clear hId hI G0 B9 B52 Bg2
    by_cases hl : live (ocG zs n) (ocE zs n) k = true
    · obtain ⟨le, lg⟩ := live_iff.1 hl
      have hkb := key_bd hl q2 q4
      have hr := w2_of hkb
      have hlook := hG.look hr
      have ko := fun W' => ratio_any (ocE zs n k) (ocG zs n k) W' (by omega) (by omega) (by omega) (by omega)
      rw [show red (ocE zs n k) (ocG zs n k) = key (ocG zs n) (ocE zs n) k from rfl] at ko
      have hst := grp_step hl
      have hv0 : 0 ≤ gv (lfK (ocG zs n) (ocE zs n) k) (fun r => grp (ocG zs n) (ocE zs n) r k) (key (ocG zs n) (ocE zs n) k) ∧ gv (lfK (ocG zs n) (ocE zs n) k) (fun r => grp (ocG zs n) (ocE zs n) r k) (key (ocG zs n) (ocE zs n) k) ≤ 4096 * 64000000 := by
        unfold gv
        split
        · dsimp only
          have a1 : 0 ≤ grp (ocG zs n) (ocE zs n) (key (ocG zs n) (ocE zs n) k) k := sumIf_nonneg k (fun i hi => (Hb.out i (by omega)).1)
          have a2 : grp (ocG zs n) (ocE zs n) (key (ocG zs n) (ocE zs n) k) k ≤ k * 64000000 := sumIf_bound 64000000 (by omega) k (fun i hi => (Hb.out i (by omega)).2.1)
          omega
        · omega
      have HG2 : Hid (∀ sz2 W2 v2, v2 = gv (lfK (ocG zs n) (ocE zs n) k) (fun r => grp (ocG zs n) (ocE zs n) r k) (key (ocG zs n) (ocE zs n) k) + ocG zs n k → Grp W2 w1.heap.size (k + 1) sz2 (fun x => decide (x = key (ocG zs n) (ocE zs n) k) || lfK (ocG zs n) (ocE zs n) k x) (fun x => if x = key (ocG zs n) (ocE zs n) k then v2 else grp (ocG zs n) (ocE zs n) x k) →
          Grp W2 w1.heap.size (k + 1) sz2 (lfK (ocG zs n) (ocE zs n) (k + 1)) (fun r => grp (ocG zs n) (ocE zs n) r (k + 1))) := Lib.hid fun sz2 W2 v2 e h => by
        refine h.congr (fun x => ?_) (fun x hx => ?_)
        · rw [lfK_succ, hl, Bool.or_comm]
          congr 1
          simp [eq_comm]
        · show (if x = key (ocG zs n) (ocE zs n) k then v2 else grp (ocG zs n) (ocE zs n) x k) = grp (ocG zs n) (ocE zs n) x (k + 1)
          by_cases ex : x = key (ocG zs n) (ocE zs n) k
          · rw [if_pos ex, ex, e, hst]
          · rw [if_neg ex, grp_other (.inr ex)]
      clear hst
      generalize key (ocG zs n) (ocE zs n) k = r at *
      obtain ⟨v0, hv0e⟩ : ∃ v0, gv (lfK (ocG zs n) (ocE zs n) k) (fun r => grp (ocG zs n) (ocE zs n) r k) r = v0 := ⟨_, rfl⟩
      rw [hv0e] at hlook hv0
      have Hv0 := Lib.hid hv0e
      clear hv0e
      have cB4 := B4.c
      have fB4 := B4.f
      have lB4 := B4.lt
      have ch1 := h1.c
      have fh1 := h1.f
      have lh1 := h1.lt
      gi_wp2_with fail
      refine region_round (fun W' => W'.cell? ⟨w1.heap.size + 1, 0, none⟩ = some (.map (some w1.heap.size)) ∧ W'.cell? ⟨b4, 0, none⟩ = some (.int .i64 (ocG zs n k)) ∧ W'.cell? ⟨b4, 1, none⟩ = some (.int .i64 (ocE zs n k))) (by kernel_rfl) (by kernel_rfl) (fun h => by obtain ⟨_, _, h⟩ := h; exact h) ?_
      have hS : (fun W' : World => W'.cell? ⟨w1.heap.size + 1, 0, none⟩ = some (.map (some w1.heap.size)) ∧ W'.cell? ⟨b4, 0, none⟩ = some (.int .i64 (ocG zs n k)) ∧ W'.cell? ⟨b4, 1, none⟩ = some (.int .i64 (ocE zs n k))) W.drew := ⟨ch1 0, cB4 0, cB4 1⟩
      clear cB4 fB4 lB4 ch1 fh1 lh1
      refine wpAnyH_take (i := 0) (v := .map (some w1.heap.size)) rfl (by kernel_rfl) (by kernel_rfl) (by kernel_rfl) (fun _ _ _ h => h) (Or.inl ⟨by rfl, ?_⟩) hS ?_
      · intro w' hSw; obtain ⟨s1, s2, s3⟩ := hSw; go_simp
      try simp only [Act.put, List.setIfInBounds_toArray, List.set_cons_zero, List.set_cons_succ]
      refine wpAnyH_take (i := 1) (v := .pointer (some ⟨b4, 1, none⟩)) rfl (by kernel_rfl) (by kernel_rfl) (by kernel_rfl) (fun _ _ _ h => h) (Or.inl ⟨by rfl, ?_⟩) hS ?_
      · intro w' hSw; obtain ⟨s1, s2, s3⟩ := hSw; go_simp
      try simp only [Act.put, List.setIfInBounds_toArray, List.set_cons_zero, List.set_cons_succ]
      refine wpAnyH_take (i := 2) (v := .int .i64 (ocE zs n k)) rfl (by kernel_rfl) (by kernel_rfl) (by kernel_rfl) (fun _ _ _ h => h) (Or.inl ⟨by rfl, ?_⟩) hS ?_
      · intro w' hSw; obtain ⟨s1, s2, s3⟩ := hSw; go_simp
      try simp only [Act.put, List.setIfInBounds_toArray, List.set_cons_zero, List.set_cons_succ]
      refine wpAnyH_take (i := 3) (v := .pointer (some ⟨b4, 0, none⟩)) rfl (by kernel_rfl) (by kernel_rfl) (by kernel_rfl) (fun _ _ _ h => h) (Or.inl ⟨by rfl, ?_⟩) hS ?_
      · intro w' hSw; obtain ⟨s1, s2, s3⟩ := hSw; go_simp
      try simp only [Act.put, List.setIfInBounds_toArray, List.set_cons_zero, List.set_cons_succ]
      refine wpAnyH_take (i := 4) (v := .int .i64 (ocG zs n k)) rfl (by kernel_rfl) (by kernel_rfl) (by kernel_rfl) (fun _ _ _ h => h) (Or.inl ⟨by rfl, ?_⟩) hS ?_
      · intro w' hSw; obtain ⟨s1, s2, s3⟩ := hSw; go_simp
      try simp only [Act.put, List.setIfInBounds_toArray, List.set_cons_zero, List.set_cons_succ]
      refine wpAnyH_take (i := 7) (v := .pointer (some ⟨b4, 0, none⟩)) rfl (by kernel_rfl) (by kernel_rfl) (by kernel_rfl) (fun _ _ _ h => h) (Or.inl ⟨by rfl, ?_⟩) hS ?_
      · intro w' hSw; obtain ⟨s1, s2, s3⟩ := hSw; go_simp
      try simp only [Act.put, List.setIfInBounds_toArray, List.set_cons_zero, List.set_cons_succ]
      refine wpAnyH_take (i := 8) (v := .int .i64 (ocG zs n k)) rfl (by kernel_rfl) (by kernel_rfl) (by kernel_rfl) (fun _ _ _ h => h) (Or.inl ⟨by rfl, ?_⟩) hS ?_
      · intro w' hSw; obtain ⟨s1, s2, s3⟩ := hSw; go_simp
      try simp only [Act.put, List.setIfInBounds_toArray, List.set_cons_zero, List.set_cons_succ]
      refine wpAnyH_ready (rs := [5]) (by kernel_rfl) (by simp) ?_
      refine AllReadyH.cons rfl (fun K5 hK5 => ?_) AllReadyH.nil
      go_simp
      refine (ko _).mono ?_
      rintro _ w5 ⟨rfl, hb5⟩
      have D1 : Cs w5 (w1.heap.size + 1) #[.map (some w1.heap.size)] := Cs.keep csA hb5
      have D4 : Cs w5 b4 #[.int .i64 (ocG zs n k), .int .i64 (ocE zs n k)] := Cs.keep csA hb5
      have D2 : Cs w5 w.heap.size #[.int .i64 0, .int .i64 0] := Cs.keep csA hb5
      have hG5 : Grp w5 w1.heap.size k sz (lfK (ocG zs n) (ocE zs n) k) (fun r => grp (ocG zs n) (ocE zs n) r k) := hG.of_heap (hb5.block _ hG.lt)
      have hT5 : Turns (fun i => i = w1.heap.size) W w5 := Turns.of_below ((Below.drew (Below.refl _ _)).trans hb5)
      have hw5 : Below w.heap.size w w5 := h3.trans ((Below.drew (Below.refl _ _)).trans (hb5.mono h3.size))
      have hlk5 := hG5.look hr
      obtain ⟨st, w6, hrun6, hg6, hs6, hlk6, hst6⟩ := hG5.entry hr (by omega)
      rw [Hv0.out] at hlk5 hlk6 hrun6
      have hwf : (Lit.int .i64 (v0 + ocG zs n k)).wf = true := WalkArith.wf_i64 (by omega)
      obtain ⟨w7, hrun7, hG7, hg7⟩ := hst6 w6 (v0 + ocG zs n k) hwf rfl
      have hS5 : (fun W' : World => W'.cell? ⟨w1.heap.size + 1, 0, none⟩ = some (.map (some w1.heap.size)) ∧ W'.cell? ⟨b4, 0, none⟩ = some (.int .i64 (ocG zs n k)) ∧ W'.cell? ⟨b4, 1, none⟩ = some (.int .i64 (ocE zs n k))) w5 := ⟨D1.c 0, D4.c 0, D4.c 1⟩
      have hne1 : w1.heap.size + 1 ≠ w1.heap.size := by omega
      have hne2 : b4 ≠ w1.heap.size := by omega
      have hS6 : (fun W' : World => W'.cell? ⟨w1.heap.size + 1, 0, none⟩ = some (.map (some w1.heap.size)) ∧ W'.cell? ⟨b4, 0, none⟩ = some (.int .i64 (ocG zs n k)) ∧ W'.cell? ⟨b4, 1, none⟩ = some (.int .i64 (ocE zs n k))) w6 := ⟨hg6.cell (D1.c 0) (by simp), hg6.cell (D4.c 0) (by simp; omega), hg6.cell (D4.c 1) (by simp; omega)⟩
      have hS7 : (fun W' : World => W'.cell? ⟨w1.heap.size + 1, 0, none⟩ = some (.map (some w1.heap.size)) ∧ W'.cell? ⟨b4, 0, none⟩ = some (.int .i64 (ocG zs n k)) ∧ W'.cell? ⟨b4, 1, none⟩ = some (.int .i64 (ocE zs n k))) w7 := ⟨hg7.cell hS6.1 (by simp), hg7.cell hS6.2.1 (by simp; omega), hg7.cell hS6.2.2 (by simp; omega)⟩
      have hT7 : Turns (fun i => i = w1.heap.size) W w7 := (hT5.trans ⟨hg6.os, hg6.tape, hg6.output, hg6.size, fun i hi ho => hg6.block i hi (fun e => ho (by injection e))⟩).trans ⟨hg7.os, hg7.tape, hg7.output, hg7.size, fun i hi ho => hg7.block i hi (fun e => ho (by injection e))⟩
      have hend : I (k + 1) w7 := HI.out _ _ (HG2.out _ _ _ (by rw [Hv0.out]) hG7) (h1.turns hT7 (by omega)) (h2.turns hT7 (by omega)) (Turns.below h3 hT7 (fun i hi => by have hi' : i = w1.heap.size := hi; omega) (by have := h3.size; omega)) (hBg.turns hT7 (by omega))
      have Hend := Lib.hid (And.intro hT7 hend)
      have f1 : IntKind.i64.wrap (v0 + ocG zs n k) = v0 + ocG zs n k := IntWalk.i64_in _ (by omega)
      unfold rV at hlk5 hlk6 hrun6
      have hrun7' : (Instr.entryStore 90 (.map (some w1.heap.size)) (.int .i64 (st : Nat)) (.int .i64 (v0 + ocG zs n k))).run Try.prog w6 = .ok () w7 := hrun7
      refine hK5.out _ _ hS5 (fun hS5 => ?_)
      clear hK5 K5 hb5 D1 D4 D2 hG5 hT5 hw5 hst6 hG7 hg6 hg7 hT7 hend hS ko hG HI HG2 hBg
      try simp only [Act.put, List.setIfInBounds_toArray, List.set_cons_zero, List.set_cons_succ]
      refine wpAnyH_ready (rs := [6, 10]) (by kernel_rfl) (by simp) ?_
      refine AllReadyH.cons rfl (fun K6 hK6 => ?_) (AllReadyH.cons rfl (fun K10 hK10 => ?_) AllReadyH.nil)
      · go_simp
        refine hK6.out _ _ hS5 (fun hS5 => ?_)
        clear hK6 K6
        try simp only [Act.put, List.setIfInBounds_toArray, List.set_cons_zero, List.set_cons_succ]
        refine wpAnyH_take (i := 9) (v := .int .i64 (v0 + ocG zs n k)) rfl (by kernel_rfl) (by kernel_rfl) (by kernel_rfl) (fun _ _ _ h => h) (Or.inl ⟨by rfl, ?_⟩) hS5 ?_
        · intro w' hSw; obtain ⟨s1, s2, s3⟩ := hSw; go_simp
        try simp only [Act.put, List.setIfInBounds_toArray, List.set_cons_zero, List.set_cons_succ]
        refine wpAnyH_ready (rs := [10]) (by kernel_rfl) (by simp) ?_
        refine AllReadyH.cons rfl (fun K10 hK10 => ?_) AllReadyH.nil
        go_simp
        refine hK10.out _ _ hS6 (fun hS6 => ?_)
        clear hK10 K10
        try simp only [Act.put, List.setIfInBounds_toArray, List.set_cons_zero, List.set_cons_succ]
        refine wpAnyH_take (i := 11) (v := goInt st) rfl (by kernel_rfl) (by kernel_rfl) (by kernel_rfl) (fun _ _ _ h => h) (Or.inl ⟨by rfl, ?_⟩) hS6 ?_
        · intro w' hSw; obtain ⟨s1, s2, s3⟩ := hSw; go_simp
        try simp only [Act.put, List.setIfInBounds_toArray, List.set_cons_zero, List.set_cons_succ]
        refine wpAnyH_ready (rs := [12]) (by kernel_rfl) (by simp) ?_
        refine AllReadyH.cons rfl (fun K12 hK12 => ?_) AllReadyH.nil
        go_simp
        refine hK12.out _ _ hS7 (fun hS7 => ?_)
        clear hK12 K12
        try simp only [Act.put, List.setIfInBounds_toArray, List.set_cons_zero, List.set_cons_succ]
        refine wpAnyH_done (by kernel_rfl) ?_ _
        gi_wp2_with fail
        exact Hend.out

      · go_simp
        refine hK10.out _ _ hS6 (fun hS6 => ?_)
        clear hK10 K10
        try simp only [Act.put, List.setIfInBounds_toArray, List.set_cons_zero, List.set_cons_succ]
        refine wpAnyH_take (i := 11) (v := goInt st) rfl (by kernel_rfl) (by kernel_rfl) (by kernel_rfl) (fun _ _ _ h => h) (Or.inl ⟨by rfl, ?_⟩) hS6 ?_
        · intro w' hSw; obtain ⟨s1, s2, s3⟩ := hSw; go_simp
        try simp only [Act.put, List.setIfInBounds_toArray, List.set_cons_zero, List.set_cons_succ]
        refine wpAnyH_ready (rs := [6]) (by kernel_rfl) (by simp) ?_
        refine AllReadyH.cons rfl (fun K6 hK6 => ?_) AllReadyH.nil
        go_simp
        refine hK6.out _ _ hS6 (fun hS6 => ?_)
        clear hK6 K6
        try simp only [Act.put, List.setIfInBounds_toArray, List.set_cons_zero, List.set_cons_succ]
        refine wpAnyH_take (i := 9) (v := .int .i64 (v0 + ocG zs n k)) rfl (by kernel_rfl) (by kernel_rfl) (by kernel_rfl) (fun _ _ _ h => h) (Or.inl ⟨by rfl, ?_⟩) hS6 ?_
        · intro w' hSw; obtain ⟨s1, s2, s3⟩ := hSw; go_simp
        try simp only [Act.put, List.setIfInBounds_toArray, List.set_cons_zero, List.set_cons_succ]
        refine wpAnyH_ready (rs := [12]) (by kernel_rfl) (by simp) ?_
        refine AllReadyH.cons rfl (fun K12 hK12 => ?_) AllReadyH.nil
        go_simp
        refine hK12.out _ _ hS7 (fun hS7 => ?_)
        clear hK12 K12
        try simp only [Act.put, List.setIfInBounds_toArray, List.set_cons_zero, List.set_cons_succ]
        refine wpAnyH_done (by kernel_rfl) ?_ _
        gi_wp2_with fail
        exact Hend.out


    · have hn' : live (ocG zs n) (ocE zs n) k = false := by simpa using hl
      have HG2 : Hid (Grp W w1.heap.size (k + 1) sz (lfK (ocG zs n) (ocE zs n) (k + 1)) (fun r => grp (ocG zs n) (ocE zs n) r (k + 1))) := Lib.hid ((hG.mono (by omega)).congr (fun x => by rw [lfK_succ, hn']; simp) (fun x _ => (grp_other (.inl hn')).symm))
      have Hend := Lib.hid (HI.out sz W HG2.out h1 h2 h3 hBg)
      have HT := Lib.hid (Turns.refl (fun i => i = w1.heap.size) W)
      clear HI HG2 hG h2 h3 hBg
      have cB4 := B4.c
      have fB4 := B4.f
      have lB4 := B4.lt
      have ch1 := h1.c
      have fh1 := h1.f
      have lh1 := h1.lt
      by_cases le : 0 < ocE zs n k
      · have lg : ¬ 0 < ocG zs n k := fun h => hl (live_iff.2 ⟨le, h⟩)
        clear hl hn'
        gi_wp2_with fail
        exact ⟨HT.out, Hend.out⟩
      · clear hl hn'
        gi_wp2_with fail
        exact ⟨HT.out, Hend.out⟩
  case done =>
    intro W hi hD
    rw [hId] at hi
    obtain ⟨sz0, hG, h1, h2, h3, hBg⟩ := hi
    have hdl : w2.heap.size < W.heap.size := (Array.getElem?_eq_some_iff.1 hD).1
    have HSt := Lib.hid (Search.start (g := ocG zs n) (e := ocE zs n) (M := manyT zs) (lf := lfK (ocG zs n) (ocE zs n) (manyT zs)) hm0 (fun r => lfK_iff))
    have HD := Lib.hid hD
    have HG := Lib.hid hG
    clear hId hI G0 B9 B52 Bg2 hD hG cBs hBs1 hBs2
    have ch1 := h1.c
    have fh1 := h1.f
    have lh1 := h1.lt
    gi_wp2_with fail
    refine wpIn_label ?_
    gi_wp2_with fail
    gi_loopw [13] (fun s13 wx => ∃ (sz : Nat) (taken : Int) (lf : Int × Int → Bool) (W' : World), s13 = .int .i64 taken ∧ Hid (W' = wx) ∧ Hid (Grp W' w1.heap.size (manyT zs) sz lf (fun r => grp (ocG zs n) (ocE zs n) r (manyT zs))) ∧ Hid (Search (ocG zs n) (ocE zs n) (manyT zs) most lf taken) ∧ W.heap.size < W'.heap.size ∧
      Cs W' (w1.heap.size + 1) #[.map (some w1.heap.size)] ∧ Cs W' W.heap.size #[.int .i64 0, .int .i64 1] ∧ Cs W' w.heap.size #[.int .i64 0, .int .i64 0] ∧ Hid (W'.heap[w2.heap.size]? = some (.deferred (some []))) ∧ Below w.heap.size w W' ∧ Cs W' g #[.slice A n c, .int .i64 (manyT zs : Nat)]) (fun _ wx => mapSize wx w1.heap.size)
    case atStart =>
      exact ⟨sz0, 0, _, _, rfl, Lib.hid rfl, Lib.hid (HG.out.kept (World.grownBy_alloc _ _ none) (by simp)), HSt, by simp, h1.alloc _, Cs.new _ _ _ _ rfl, h2.alloc _, Lib.hid (((balloc (Below.refl W.heap.size W) _).block _ hdl).trans HD.out), balloc h3 _, hBg.alloc _⟩
    case round =>
      clear ch1 fh1 lh1
      clear HG HD HSt h1 h2 h3 hBg
      obtain ⟨sz, taken, lf, W2, rfl, HW, HG, HS, hWs, D9, D12, D5, HD, hbw, Dg⟩ := hrel
      obtain rfl := HW.out
      clear HW
      have hz0 : lf (0, 0) = false := by
        cases h : lf (0, 0) with
        | false => rfl
        | true => have := (HS.out.rd (fun k hk => ⟨(Hb.out k hk).2.1, (Hb.out k hk).2.2.2⟩) h).1.n; exact absurd this (by decide)
      by_cases h0 : 0 < sz
      · have h0I : (0 : Int) < (sz : Int) := by omega
        have cD9 := D9.c
        have fD9 := D9.f
        have lD9 := D9.lt
        gi_wp2_with (first | (gi_at_len; refine in_len_grp rfl _ rfl w1.heap.size _ sz lf _ (by rfl) HG.out ?_) | (gi_at_range; refine in_range_grp rfl _ rfl w1.heap.size _ sz lf _ (by rfl) (HG.out.kept (World.grownBy_alloc _ _ none) (by simp)) ?_; intro w3 hR hg3 hs3) | fail)
        go_frame
        rw [World.size_alloc] at hR hs3
        simp only [World.size_alloc]
        have T3 : Turns (fun _ => False) W2 w3 := (Turns.of_below (balloc (Below.refl _ _) _)).trans (grown_turns hg3)
        have D14 : Cs w3 W2.heap.size #[.int .i64 0, .int .i64 0] := Cs.turns (Cs.new _ _ _ _ rfl) (grown_turns hg3) id
        have E9 := D9.turns T3 id
        have E12 := D12.turns T3 id
        have E5 := D5.turns T3 id
        have Eg := Dg.turns T3 id
        have ED := Lib.hid ((T3.block _ (by omega) id).trans HD.out)
        have hbw3 : Below w.heap.size w w3 := Turns.below hbw T3 (fun _ h => h.elim) (by have := hbw.size; omega)
        have HR := Lib.hid hR
        have hs3' : W2.heap.size + 1 < w3.heap.size := by omega
        have HT := Lib.hid (show Top lf lf (0, 0) from .inl ⟨rfl, fun _ => rfl⟩)
        have Hex := Lib.hid (HG.out.some_ h0)
        have Hsz := Lib.hid HG.out.size_eq
        clear hR hg3 hs3 T3 D9 D12 D5 Dg HD hbw HG cD9 fD9 lD9
        gi_loopw [62] (fun _ wx => ∃ (cnt : Nat) (left : Int × Int → Bool) (tp tq : Int) (W3 : World), Hid (W3 = wx) ∧ Hid (GrpR W3 w1.heap.size (W2.heap.size + 1) (manyT zs) sz lf left (fun r => grp (ocG zs n) (ocE zs n) r (manyT zs)) cnt) ∧ Hid (Top lf left (tp, tq)) ∧ Cs W3 W2.heap.size #[.int .i64 tp, .int .i64 tq] ∧ W2.heap.size + 1 < W3.heap.size ∧
          Cs W3 (w1.heap.size + 1) #[.map (some w1.heap.size)] ∧ Cs W3 W.heap.size #[.int .i64 0, .int .i64 1] ∧ Cs W3 w.heap.size #[.int .i64 0, .int .i64 0] ∧ Hid (W3.heap[w2.heap.size]? = some (.deferred (some []))) ∧ Below w.heap.size w W3 ∧ Cs W3 g #[.slice A n c, .int .i64 (manyT zs : Nat)]) (fun _ wx => wx.rangeLeft w1.heap.size (W2.heap.size + 1))
        case atStart => exact ⟨sz, lf, 0, 0, _, Lib.hid rfl, HR, HT, D14, hs3', E9, E12, E5, ED, hbw3, Eg⟩
        case round =>
          clear HR HT D14 hs3' E9 E12 E5 ED hbw3 Eg
          obtain ⟨cnt, left, tp, tq, W3, HW, HR, HT, D14, hs3, E9, E12, E5, ED, hbw3, Eg⟩ := hrel
          obtain rfl := HW.out
          clear HW
          have hbd := fun k (hk : k < manyT zs) => (⟨(Hb.out k hk).2.1, (Hb.out k hk).2.2.2⟩ : ocG zs n k ≤ 64000000 ∧ ocE zs n k ≤ 64000000)
          have Hbd := Lib.hid hbd
          clear hbd
          gi_wp2_with (first
            | (gi_at_next; go_loud
              (refine in_next_grp rfl _ rfl w1.heap.size (W2.heap.size + 1) _ sz lf left _ cnt (by rfl) HR.out (fun hdone => ?dn) (fun x y v w4 cnt2 hw4 hx4 hR4 hlt4 hg4 hs4 hen4 => ?mr)
               case' dn =>
                 have hGd := HR.out.grp
                 have hfin := HT.out.fin hdone Hex.out
                 have htb := (HS.out.rd Hbd.out hfin.1).2
                 have hwt := w2_of htb
                 have hgv : gv lf (fun r => grp (ocG zs n) (ocE zs n) r (manyT zs)) (tp, tq) = grp (ocG zs n) (ocE zs n) (tp, tq) (manyT zs) := by unfold gv; rw [if_pos hfin.1]
                 obtain ⟨v0, hv0⟩ : ∃ v0, grp (ocG zs n) (ocE zs n) (tp, tq) (manyT zs) = v0 := ⟨_, rfl⟩
                 have hv00 : 0 ≤ v0 := by rw [← hv0]; exact sumIf_nonneg _ (fun i hi => (Hb.out i hi).1)
                 have hv01 : v0 ≤ manyT zs * 64000000 := by rw [← hv0]; exact sumIf_bound 64000000 (by omega) _ (fun i hi => (Hb.out i hi).2.1)
                 have hk0 : 0 ≤ taken := by rw [HS.out.ft]; exact sumIf_nonneg _ (fun i hi => (Hb.out i hi).1)
                 have hk1 : taken ≤ manyT zs * 64000000 := by rw [HS.out.ft]; exact sumIf_bound 64000000 (by omega) _ (fun i hi => (Hb.out i hi).2.1)
                 have f1 : IntKind.i64.wrap (taken + v0) = taken + v0 := IntWalk.i64_in _ (by omega)
                 rw [hv0] at hgv
                 have Hv0 := Lib.hid hv0
                 have Hfin := Lib.hid hfin
                 have HGd := Lib.hid hGd
                 have Hgv := Lib.hid hgv
                 clear hv0 hfin hGd hgv hdone hv00 hv01 hk0 hk1 HR HT
                 have cE9 := E9.c
                 have fE9 := E9.f
                 have lE9 := E9.lt
                 have cE12 := E12.c
                 have fE12 := E12.f
                 have lE12 := E12.lt
                 have cD14 := D14.c
                 have fD14 := D14.f
                 have lD14 := D14.lt
                 by_cases hq : most < taken + v0
               case' mr =>
                 have hxl := HR.out.sub hx4
                 have hxb := (HS.out.rd Hbd.out hxl).2
                 have T4 := grown_turns1 hg4
                 have G14 := D14.turns T4 (by omega)
                 have G9 := E9.turns T4 (by omega)
                 have G12 := E12.turns T4 (by omega)
                 have G5 := E5.turns T4 (by omega)
                 have Gg := Eg.turns T4 (by omega)
                 have GD := Lib.hid ((T4.block _ (by omega) (by omega)).trans ED.out)
                 have hbw4 := Turns.below hbw3 T4 (fun i hi => by have hi' : i = W2.heap.size + 1 := hi; have := hbw3.size; omega) (by have := hbw3.size; omega)
                 have hlt44 : W2.heap.size + 1 < w4.heap.size := by omega
                 have HR4 := Lib.hid hR4
                 have Hx4 := Lib.hid hx4
                 have Hxl := Lib.hid hxl
                 have Hlt4 := Lib.hid hlt4
                 have hcase : (tp = 0 ∧ tq = 0) ∨ ((1 ≤ tp ∧ tp ≤ 64000000 ∧ 1 ≤ tq ∧ tq ≤ 64000000) ∧ tp * y < x * tq) ∨ ((1 ≤ tp ∧ tp ≤ 64000000 ∧ 1 ≤ tq ∧ tq ≤ 64000000) ∧ ¬ tp * y < x * tq) := by
                   rcases HT.out with ⟨h, _⟩ | ⟨h, _⟩
                   · injection h with h1 h2
                     exact .inl ⟨h1, h2⟩
                   · have hb := (HS.out.rd Hbd.out h).2
                     by_cases hlt : tp * y < x * tq
                     · exact .inr (.inl ⟨hb, hlt⟩)
                     · exact .inr (.inr ⟨hb, hlt⟩)
                 have HRl := Lib.hid HR.out.left_eq
                 clear hR4 hx4 hxl hlt4 hg4 hs4 T4 D14 E9 E12 E5 Eg ED hbw3 hs3 HR
                 have TA : Turns (fun i => i = W2.heap.size) w4 (((w4.setCell ⟨W2.heap.size, 0, none⟩ (.int .i64 x)).setCell ⟨W2.heap.size, 1, none⟩ (.int .i64 y)).alloc (.cells #[.int .i64 x, .int .i64 y] 25)) := (turns_set2 (O := fun i => i = W2.heap.size) _ _ rfl).trans (Turns.of_below (balloc (Below.refl _ _) _))
                 have TC : Turns (fun i => i = W2.heap.size) w4 (w4.alloc (.cells #[.int .i64 x, .int .i64 y] 25)) := Turns.of_below (balloc (Below.refl _ _) _)
                 have HTA := Lib.hid TA
                 have HTC := Lib.hid TC
                 have HKA := Lib.hid ((G14.set2 (.int .i64 x) (.int .i64 y)).alloc (.cells #[.int .i64 x, .int .i64 y] 25))
                 have HKC := Lib.hid (G14.alloc (.cells #[.int .i64 x, .int .i64 y] 25))
                 clear TA TC
                 have cG14 := G14.c
                 have fG14 := G14.f
                 have lG14 := G14.lt
                 have f1 : IntKind.i64.wrap (x * tq) = x * tq := by
                   rcases hcase with ⟨e1, e2⟩ | ⟨hb, _⟩ | ⟨hb, _⟩
                   · rw [e2, Int.mul_zero]; rfl
                   all_goals
                     have a1 : 0 ≤ x * tq := Int.mul_nonneg (by omega) (by omega)
                     have a2 : x * tq ≤ 64000000 * 64000000 := Int.mul_le_mul hxb.2.1 hb.2.2.2 (by omega) (by omega)
                     exact IntWalk.i64_in _ (by omega)
                 have f2 : IntKind.i64.wrap (tp * y) = tp * y := by
                   rcases hcase with ⟨e1, e2⟩ | ⟨hb, _⟩ | ⟨hb, _⟩
                   · rw [e1, Int.zero_mul]; rfl
                   all_goals
                     have a1 : 0 ≤ tp * y := Int.mul_nonneg (by omega) (by omega)
                     have a2 : tp * y ≤ 64000000 * 64000000 := Int.mul_le_mul hb.2.1 hxb.2.2.2 (by omega) (by omega)
                     exact IntWalk.i64_in _ (by omega)
                 clear hxb
                 rcases hcase with ⟨e1, e2⟩ | ⟨⟨hb, _, hb2, _⟩, hlt⟩ | ⟨⟨hb, _, hb2, _⟩, hlt⟩
                 case' inl => (subst e1 e2; clear f1 f2)
                 case' inr.inl => (have e1 : ¬ tp = 0 := by omega
                                   have e2 : ¬ tq = 0 := by omega)
                 case' inr.inr => (have e1 : ¬ tp = 0 := by omega
                                   have e2 : ¬ tq = 0 := by omega)))
            | (gi_at_lookup; refine in_lookup_grp rfl _ _ rfl w1.heap.size _ sz lf _ (by rfl) HGd.out (tp, tq) hwt (by rfl) ?_; rw [Hgv.out])
            | (gi_at_delete; refine in_delete_grp rfl _ _ rfl w1.heap.size _ sz lf _ (by rfl) HGd.out (tp, tq) hwt (by rfl) ?_; intro w5 hG5 hg5)
            | fail)
          · have Htop := Lib.hid (HT.out.stay (x := (x, y)) (by intro h; injection h with h _; exact e1 h) hlt)
            go_roundw
            case rel => exact ⟨cnt2, fun z => left z && !decide (z = (x, y)), tp, tq, _, Lib.hid rfl, Lib.hid (HR4.out.turns HTC.out (by omega) (by omega)), Lib.hid (Htop.out), HKC.out, Nat.lt_of_lt_of_le hlt44 HTC.out.size,
              G9.turns HTC.out (by omega), G12.turns HTC.out (by omega), G5.turns HTC.out (by omega), Lib.hid ((HTC.out.block _ (by omega) (by omega)).trans GD.out), Turns.below hbw4 HTC.out (fun i hi => by have hi' : i = W2.heap.size := hi; have := hbw4.size; omega) (by have := hbw4.size; omega), Gg.turns HTC.out (by omega)⟩
            case measure => rw [(HR4.out.turns HTC.out (by omega) (by omega)).left_eq, HRl.out]; exact Hlt4.out
          · have Htop := Lib.hid (HT.out.more (x := (x, y)) (by intro h; injection h with h _; exact e1 h) (fun r hr => (HS.out.rd Hbd.out hr).1.d) Hx4.out Hxl.out hlt)
            go_roundw
            case rel => exact ⟨cnt2, fun z => left z && !decide (z = (x, y)), x, y, _, Lib.hid rfl, Lib.hid (HR4.out.turns HTA.out (by omega) (by omega)), Lib.hid (Htop.out), HKA.out, Nat.lt_of_lt_of_le hlt44 HTA.out.size,
              G9.turns HTA.out (by omega), G12.turns HTA.out (by omega), G5.turns HTA.out (by omega), Lib.hid ((HTA.out.block _ (by omega) (by omega)).trans GD.out), Turns.below hbw4 HTA.out (fun i hi => by have hi' : i = W2.heap.size := hi; have := hbw4.size; omega) (by have := hbw4.size; omega), Gg.turns HTA.out (by omega)⟩
            case measure => rw [(HR4.out.turns HTA.out (by omega) (by omega)).left_eq, HRl.out]; exact Hlt4.out
          · have Htop := Lib.hid (HT.out.first (x := (x, y)) rfl hz0 Hx4.out)
            go_roundw
            case rel => exact ⟨cnt2, fun z => left z && !decide (z = (x, y)), x, y, _, Lib.hid rfl, Lib.hid (HR4.out.turns HTA.out (by omega) (by omega)), Lib.hid (Htop.out), HKA.out, Nat.lt_of_lt_of_le hlt44 HTA.out.size,
              G9.turns HTA.out (by omega), G12.turns HTA.out (by omega), G5.turns HTA.out (by omega), Lib.hid ((HTA.out.block _ (by omega) (by omega)).trans GD.out), Turns.below hbw4 HTA.out (fun i hi => by have hi' : i = W2.heap.size := hi; have := hbw4.size; omega) (by have := hbw4.size; omega), Gg.turns HTA.out (by omega)⟩
            case measure => rw [(HR4.out.turns HTA.out (by omega) (by omega)).left_eq, HRl.out]; exact Hlt4.out
          · have HB := Lib.hid (HS.out.stop (fun i hi => (Hb.out i hi).1) Hfin.out.1 Hfin.out.2 (by rw [Hv0.out]; exact hq))
            have K12 := E12.set2 (.int .i64 tp) (.int .i64 tq)
            have TS : Turns (fun i => i = W.heap.size) W3 ((W3.setCell ⟨W.heap.size, 0, none⟩ (.int .i64 tp)).setCell ⟨W.heap.size, 1, none⟩ (.int .i64 tq)) := turns_set2 (O := fun i => i = W.heap.size) _ _ rfl
            have K5 := E5.turns TS (by omega)
            have Kg := Eg.turns TS (by omega)
            have KD := Lib.hid ((TS.block _ (by omega) (by omega)).trans ED.out)
            have Kb := Turns.below hbw3 TS (fun i hi => by have hi' : i = W.heap.size := hi; omega) (by have := hbw3.size; omega)
            clear TS E12 E5 Eg ED hbw3 cE12 fE12 lE12 cE9 fE9 lE9 cD14 fD14 lD14 E9 D14
            generalize (W3.setCell ⟨W.heap.size, 0, none⟩ (.int .i64 tp)).setCell ⟨W.heap.size, 1, none⟩ (.int .i64 tq) = W6 at *
            have kr := fun (W' : World) (hb : Below w.heap.size w W') (hB : Cs W' g #[.slice A n c, .int .i64 (manyT zs : Nat)]) => region_cap A n c (manyT zs) g zs (tp) (tq) W' (Hz.out.below hb) hn Hg.out hB (by omega) (by omega) (by omega) (by omega)
            unfold RetIntsC at kr
            have cK12 := K12.c
            have fK12 := K12.f
            have lK12 := K12.lt
            have cK5 := K5.c
            have fK5 := K5.f
            have lK5 := K5.lt
            refine wpIn_wide.2 ?_
            go_region_held3 (fun w' => w'.cell? ⟨W.heap.size, 0, none⟩ = some (.int .i64 (tp)) ∧ w'.cell? ⟨W.heap.size, 1, none⟩ = some (.int .i64 (tq))) (first | exact ⟨K12.c 0, K12.c 1⟩ | exact ⟨L12.c 0, L12.c 1⟩ | exact ⟨(L12b _ _).c 0, (L12b _ _).c 1⟩ | go_keep)
              ((go_at_call 49; refine (kr _ blA csA).mono ?_; rintro _ w7 ⟨A7, n7, c7, rfl, h7, hb7, hf7, hc7⟩; have L12 : Cs w7 W.heap.size #[.int .i64 (tp), .int .i64 (tq)] := Cs.keep csA hb7; have L12b := fun u v => Cs.other (Cs.other L12 (p := ⟨w.heap.size, 0, none⟩) (by show W.heap.size ≠ w.heap.size; omega) u) (p := ⟨w.heap.size, 1, none⟩) (by show W.heap.size ≠ w.heap.size; omega) v; have L5 : Cs w7 w.heap.size #[.int .i64 0, .int .i64 0] := Cs.keep csA hb7; have cL5 := L5.c; have fL5 := L5.f; have lL5 := L5.lt))
            have T8 : Turns (fun i => i = w.heap.size) w7 ((w7.setCell ⟨w.heap.size, 0, none⟩ (.int .i64 (tp))).setCell ⟨w.heap.size, 1, none⟩ (.int .i64 (tq))) := turns_set2 (O := fun i => i = w.heap.size) _ _ rfl
            have L8 := L5.set2 (.int .i64 (tp)) (.int .i64 (tq))
            have hdW : w2.heap.size < W6.heap.size := (Array.getElem?_eq_some_iff.1 KD.out).1
            have hwW : w.heap.size < W6.heap.size := K5.lt
            have D8 := Lib.hid ((T8.block w2.heap.size (Nat.lt_of_lt_of_le hdW hb7.size) (by omega)).trans ((hb7.block w2.heap.size hdW).trans KD.out))
            have h8 : Ints ((w7.setCell ⟨w.heap.size, 0, none⟩ (.int .i64 (tp))).setCell ⟨w.heap.size, 1, none⟩ (.int .i64 (tq))) A7 n7 (regL zs n ((tp), (tq)) (manyT zs)) := h7.turns T8 (fun b off hp e ho => by have hx := hf7 b off hp e; have hx' : W6.heap.size ≤ b := hx; have ho' : b = w.heap.size := ho; omega)
            have hb8 := Lib.hid (Turns.below ((Below.drew Kb).trans (hb7.mono (Nat.le_of_lt hwW))) T8 (fun i hi => by have hi' : i = w.heap.size := hi; omega) (Nat.le_trans (Nat.le_of_lt hwW) hb7.size))
            have hs8 : w.heap.size ≤ w7.heap.size := Nat.le_trans (Nat.le_of_lt hwW) hb7.size
            have hs88 := T8.size
            clear T8 L5 cL5 fL5 lL5 L12b L12 h7 K12 cK12 fK12 lK12 cK5 fK5 lK5 kr hb7 Kb
            gi_wp2_with fail
            generalize (w7.setCell ⟨w.heap.size, 0, none⟩ (.int .i64 (tp))).setCell ⟨w.heap.size, 1, none⟩ (.int .i64 (tq)) = W8 at *
            rw [Exit.noGoto_ret]
            have T9 : Turns (fun i => i = w2.heap.size) W8 (W8.putObj w2.heap.size (.deferred none)) := Turns.putObj _ rfl
            have L9 := L8.turns T9 (by omega)
            have h9 := h8.turns T9 (fun b off hp e ho => by have hx := hf7 b off hp e; have hx' : W6.heap.size ≤ b := hx; have ho' : b = w2.heap.size := ho; omega)
            have hb9 := Turns.below hb8.out T9 (fun i hi => by have hi' : i = w2.heap.size := hi; omega) (by have := hb8.out.size; omega)
            refine ⟨by simp, .inl ⟨_, _, rfl, run_takeDeferred D8.out, ?_⟩⟩
            have c9 := L9.c
            exact ⟨.tuple #[.slice A7 n7 c7, .agg #[.int .i64 (tp), .int .i64 (tq)], .int .i64 0], by simp [results, Try.results20, go_sem, c9], (tp, tq), HB.out, A7, n7, c7, rfl, h9, hb9, hc7⟩
          · have T5 := grown_turns1 hg5
            have Hn := Lib.hid (HS.out.next Hfin.out.1 Hfin.out.2 (by rw [Hv0.out]; omega))
            rw [Hv0.out] at Hn
            go_roundw
            case rel => exact ⟨_, fun z => lf z && !decide (z = (tp, tq)), _, Lib.hid rfl, Lib.hid hG5, Hn, Nat.lt_of_lt_of_le (by omega) T5.size, E9.turns T5 (by omega), E12.turns T5 (by omega), E5.turns T5 (by omega), Lib.hid ((T5.block _ (by omega) (by omega)).trans ED.out), Turns.below hbw3 T5 (fun i hi => by have hi' : i = w1.heap.size := hi; omega) (by have := hbw3.size; omega), Eg.turns T5 (by omega)⟩
            case measure => rw [hG5.size_eq, Hsz.out, if_pos Hfin.out.1]; omega
      · obtain rfl : sz = 0 := by omega
        have HB := Lib.hid (HS.out.all (fun i hi => (Hb.out i hi).1) HG.out.none_)
        have K12 := D12
        have K5 := D5
        have Kg := Dg
        have KD := HD
        have Kb := hbw
        clear D12 D5 Dg HD hbw
        have cD9 := D9.c
        have fD9 := D9.f
        have lD9 := D9.lt
        gi_wp2_with (first | (gi_at_len; refine in_len_grp rfl _ rfl w1.heap.size _ 0 lf _ (by rfl) HG.out ?_) | fail)
        clear cD9 fD9 lD9
        have kr := fun (W' : World) (hb : Below w.heap.size w W') (hB : Cs W' g #[.slice A n c, .int .i64 (manyT zs : Nat)]) => region_cap A n c (manyT zs) g zs (0) (1) W' (Hz.out.below hb) hn Hg.out hB (by omega) (by omega) (by omega) (by omega)
        unfold RetIntsC at kr
        have cK12 := K12.c
        have fK12 := K12.f
        have lK12 := K12.lt
        have cK5 := K5.c
        have fK5 := K5.f
        have lK5 := K5.lt
        refine wpIn_wide.2 ?_
        go_region_held3 (fun w' => w'.cell? ⟨W.heap.size, 0, none⟩ = some (.int .i64 (0)) ∧ w'.cell? ⟨W.heap.size, 1, none⟩ = some (.int .i64 (1))) (first | exact ⟨K12.c 0, K12.c 1⟩ | exact ⟨L12.c 0, L12.c 1⟩ | exact ⟨(L12b _ _).c 0, (L12b _ _).c 1⟩ | go_keep)
          ((go_at_call 49; refine (kr _ blA csA).mono ?_; rintro _ w7 ⟨A7, n7, c7, rfl, h7, hb7, hf7, hc7⟩; have L12 : Cs w7 W.heap.size #[.int .i64 (0), .int .i64 (1)] := Cs.keep csA hb7; have L12b := fun u v => Cs.other (Cs.other L12 (p := ⟨w.heap.size, 0, none⟩) (by show W.heap.size ≠ w.heap.size; omega) u) (p := ⟨w.heap.size, 1, none⟩) (by show W.heap.size ≠ w.heap.size; omega) v; have L5 : Cs w7 w.heap.size #[.int .i64 0, .int .i64 0] := Cs.keep csA hb7; have cL5 := L5.c; have fL5 := L5.f; have lL5 := L5.lt))
        have T8 : Turns (fun i => i = w.heap.size) w7 ((w7.setCell ⟨w.heap.size, 0, none⟩ (.int .i64 (0))).setCell ⟨w.heap.size, 1, none⟩ (.int .i64 (1))) := turns_set2 (O := fun i => i = w.heap.size) _ _ rfl
        have L8 := L5.set2 (.int .i64 (0)) (.int .i64 (1))
        have hdW : w2.heap.size < W2.heap.size := (Array.getElem?_eq_some_iff.1 KD.out).1
        have hwW : w.heap.size < W2.heap.size := K5.lt
        have D8 := Lib.hid ((T8.block w2.heap.size (Nat.lt_of_lt_of_le hdW hb7.size) (by omega)).trans ((hb7.block w2.heap.size hdW).trans KD.out))
        have h8 : Ints ((w7.setCell ⟨w.heap.size, 0, none⟩ (.int .i64 (0))).setCell ⟨w.heap.size, 1, none⟩ (.int .i64 (1))) A7 n7 (regL zs n ((0), (1)) (manyT zs)) := h7.turns T8 (fun b off hp e ho => by have hx := hf7 b off hp e; have hx' : W2.heap.size ≤ b := hx; have ho' : b = w.heap.size := ho; omega)
        have hb8 := Lib.hid (Turns.below ((Below.drew Kb).trans (hb7.mono (Nat.le_of_lt hwW))) T8 (fun i hi => by have hi' : i = w.heap.size := hi; omega) (Nat.le_trans (Nat.le_of_lt hwW) hb7.size))
        have hs8 : w.heap.size ≤ w7.heap.size := Nat.le_trans (Nat.le_of_lt hwW) hb7.size
        have hs88 := T8.size
        clear T8 L5 cL5 fL5 lL5 L12b L12 h7 K12 cK12 fK12 lK12 cK5 fK5 lK5 kr hb7 Kb
        gi_wp2_with fail
        generalize (w7.setCell ⟨w.heap.size, 0, none⟩ (.int .i64 (0))).setCell ⟨w.heap.size, 1, none⟩ (.int .i64 (1)) = W8 at *
        rw [Exit.noGoto_ret]
        have T9 : Turns (fun i => i = w2.heap.size) W8 (W8.putObj w2.heap.size (.deferred none)) := Turns.putObj _ rfl
        have L9 := L8.turns T9 (by omega)
        have h9 := h8.turns T9 (fun b off hp e ho => by have hx := hf7 b off hp e; have hx' : W2.heap.size ≤ b := hx; have ho' : b = w2.heap.size := ho; omega)
        have hb9 := Turns.below hb8.out T9 (fun i hi => by have hi' : i = w2.heap.size := hi; omega) (by have := hb8.out.size; omega)
        refine ⟨by simp, .inl ⟨_, _, rfl, run_takeDeferred D8.out, ?_⟩⟩
        have c9 := L9.c
        exact ⟨.tuple #[.slice A7 n7 c7, .agg #[.int .i64 (0), .int .i64 (1)], .int .i64 0], by simp [results, Try.results20, go_sem, c9], (0, 1), HB.out, A7, n7, c7, rfl, h9, hb9, hc7⟩
  case stop => intro c k W _ h; exact h.elim

theorem best_ok (A : Option Addr) (n c : Nat) (zs : List Pl) (most : Int) (w : World) (hz : Plates w A n zs) (hn : n ≤ 6) (ht : testE zs = 0) (hm0 : 0 ≤ most) (hm : most ≤ 9223372036854775807) :
    Calls Try.prog 20 #[.slice A n c, .int .i64 most] w fun e w' => ∃ t, IsBest (ocG zs n) (ocE zs n) (manyT zs) most t ∧ RetLRE (regL zs n t (manyT zs)) t 0 w e w' :=
  (best_cok A n c zs most w hz hn ht hm0 hm).mono fun _ _ ⟨t, h1, h2⟩ => ⟨t, h1, h2.weak⟩

end Go.Proofs.Ytcmllkjgggcghaa
end
