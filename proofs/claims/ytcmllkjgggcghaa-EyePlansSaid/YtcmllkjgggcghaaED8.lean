/- Walks of package eye: a map from fractions to numbers: its laws at the operations. -/
import Derived.Test.YtcmllkjgggcghaaED7
import Derived.OrdersHeld
import Derived.OrdersIn
import Derived.RangeFuncCalls
namespace Go.Proofs.Ytcmllkjgggcghaa
open Go.RowKit Go.Shelf Go.ChangeMaps Go.MapKept
open Go.WideElems (Fit rd rg pl rd_val elemAt entry_then_store)
set_option linter.unusedSimpArgs false
set_option linter.unusedVariables false

variable {w : World} {b n sz : Nat} {lf : Int × Int → Bool} {F : Int × Int → Int}

def mapSize (w : World) (b : Nat) : Nat := match w.heap[b]? with | some (.map es _) => es.size | _ => 0

theorem Grp.size_eq (h : Grp w b n sz lf F) : mapSize w b = sz := by
  obtain ⟨D, ⟨es, clock, h1, _, _, rfl⟩, h2, _⟩ := h
  unfold mapSize
  rw [h1, ← h2]
  show es.size = _
  rw [Maps.size_eq, length_read]
theorem Grp.len (h : Grp w b n sz lf F) (ty : TypeId) : (Builtin.len_ #[90] ty #[.map (some b)]).run Try.prog w = .ok (.int .i64 (sz : Nat)) w := by
  obtain ⟨D, h1, h2, _⟩ := h
  rw [← h2]; exact h1.len mp_under ty
theorem Grp.none_ (h : Grp w b n 0 lf F) (r : Int × Int) : lf r = false := by
  obtain ⟨D, h1, h2, h3, _, h5⟩ := h
  cases hl : lf r with
  | false => rfl
  | true =>
    obtain ⟨es, rfl⟩ := h1.isMap
    rw [Maps.size_eq] at h2
    have := List.eq_nil_of_length_eq_zero h2
    subst this
    have := h3 r (h5 r hl)
    rw [hl] at this
    cases this
theorem Grp.some_ (h : Grp w b n sz lf F) (hs : 0 < sz) : ∃ r, lf r = true := by
  obtain ⟨D, ⟨es, clock, h1, hF, _, rfl⟩, h2, h3, _, h5⟩ := h
  rw [Maps.size_eq, length_read] at h2
  have h0 : 0 < es.toList.length := by rw [Array.length_toList]; omega
  obtain ⟨x, hx⟩ := List.exists_mem_of_length_pos h0
  obtain ⟨y, hy⟩ := hF.reads x hx
  have hkey := Go.WideElems.rd_key hy
  obtain ⟨r, hr, hw, e⟩ := rk_inv hkey
  refine ⟨r, ?_⟩
  rw [← h3 r hw]
  refine List.any_eq_true.2 ⟨rg Try.prog 25 (plainElem Try.prog 2) x, mem_sorted.2 (List.mem_map.2 ⟨x, hx, rfl⟩), ?_⟩
  rw [Go.WideElems.rg_of hy]
  show y.1.sameKey (kR r) = true
  rw [e]
  exact WideAt.sameKey_self (kR_key hw)

theorem Grp.del (h : Grp w b n sz lf F) {r : Int × Int} (hr : W2 r) (ty : TypeId) :
    ∃ w', (Builtin.delete_ #[90, 25] ty #[.map (some b), rV r]).run Try.prog w = .ok (.tuple #[]) w' ∧ Grp w' b n (if lf r then sz - 1 else sz) (fun x => lf x && !decide (x = r)) F ∧ w.grownBy w' (some b) := by
  obtain ⟨D, h1, h2, h3, h4, h5⟩ := h
  obtain ⟨w', hrun, hown, ht⟩ := h1.drop rk_law mp_under (rk_mk hr) ty
  have htd := h1.tidy rk_law
  refine ⟨w', hrun, ⟨_, hown, ?_, ?_, ?_, ?_⟩, ht.grown⟩
  · have := Maps.size_del (k := kR r) htd
    rw [h3 r hr] at this
    split <;> simp_all <;> omega
  · intro x hx
    by_cases e : x = r
    · subst e; rw [Maps.has_del_same]; simp
    · rw [Maps.has_del_other (fun k => e (kR_inj hx hr k)), h3 x hx]; simp [e]
  · intro x hx hl z
    simp only [Bool.and_eq_true, Bool.not_eq_true', decide_eq_false_iff_not] at hl
    rw [Maps.atKey_del_other (fun k => hl.2 (kR_inj hx hr k))]
    exact h4 x hx hl.1 z
  · intro x hl
    simp only [Bool.and_eq_true] at hl
    exact h5 x hl.1

/-- a range over such a map under way: left: the fractions that are still to come -/
def GrpR (w : World) (b r n sz : Nat) (lf left : Int × Int → Bool) (F : Int × Int → Int) (cnt : Nat) : Prop :=
  ∃ (D : DataW Unit) (L : Lit → Bool), w.ranges Try.prog 25 (plainElem Try.prog 2) b r n D L cnt ∧ Maps.size D = sz ∧ (∀ x, W2 x → Maps.has D (kR x) = lf x) ∧ (∀ x, W2 x → lf x = true → ∀ z, D.atKey (kR x) z = .lit (.int .i64 (F x))) ∧ (∀ x, lf x = true → W2 x) ∧
    (∀ x, W2 x → L (kR x) = left x) ∧ (∀ x, left x = true → lf x = true)

theorem GrpR.grp {r cnt : Nat} {left : Int × Int → Bool} (h : GrpR w b r n sz lf left F cnt) : Grp w b n sz lf F := by
  obtain ⟨D, L, h1, h2, h3, h4, h5, _⟩ := h
  exact ⟨D, h1.owns, h2, h3, h4, h5⟩
theorem GrpR.kept {w' : World} {r cnt : Nat} {left : Int × Int → Bool} {row : Option Nat} (h : GrpR w b r n sz lf left F cnt) (hg : w.grownBy w' row) (h1 : some b ≠ row) (h2 : some r ≠ row) : GrpR w' b r n sz lf left F cnt := by
  obtain ⟨D, L, k1, k2⟩ := h
  exact ⟨D, L, k1.kept hg h1 h2, k2⟩
theorem GrpR.left_eq {r cnt : Nat} {left : Int × Int → Bool} (h : GrpR w b r n sz lf left F cnt) : w.rangeLeft b r = cnt := by
  obtain ⟨D, L, k1, k2⟩ := h
  exact k1.left_eq

theorem in_range_grp {Fc : Fence} {nF : Nat} {ops : Array Oper} {rest : List Oper} {o : Oper} {a : Act} {Q : Exit → Act → World → Prop} (hg : o.guard = none) (m : Operand) (hop : o.op = Op.range 90 m)
    (b n sz : Nat) (lf : Int × Int → Bool) (F : Int × Int → Int) (hm : a.eval m = .map (some b)) (h : Grp w b n sz lf F)
    (hK : ∀ w', GrpR w' b w.heap.size n sz lf lf F sz → w.grownBy w' none → w'.heap.size = w.heap.size + 1 → wpListIn Fc nF Try.prog ops Q rest (a.put o.dst (.pointer (some ⟨w.heap.size, 0, none⟩))) w') :
    wpListIn Fc nF Try.prog ops Q (o :: rest) a w := by
  obtain ⟨D, h1, h2, h3, h4, h5⟩ := h
  exact wpListIn_range_own w hg m _ hop _ _ rk_law mp_under _ b n D hm h1 fun w' r1 r2 r3 => hK w' ⟨D, Maps.has D, h2 ▸ r1, h2, h3, h4, h5, h3, fun _ h => h⟩ r2 r3

theorem in_next_grp {Fc : Fence} {nF : Nat} {ops : Array Oper} {rest : List Oper} {o : Oper} {a : Act} {Q : Exit → Act → World → Prop} (hg : o.guard = none) (it : Operand) (hop : o.op = Op.next it false)
    (b r n sz : Nat) (lf left : Int × Int → Bool) (F : Int × Int → Int) (cnt : Nat) (hit : a.eval it = .pointer (some ⟨r, 0, none⟩)) (h : GrpR w b r n sz lf left F cnt)
    (hDone : (∀ x, left x = false) → wpListIn Fc nF Try.prog ops Q rest (a.put o.dst (.tuple #[.bool false])) w)
    (hMore : ∀ (x y v : Int) (w' : World) (cnt' : Nat), W2 (x, y) → left (x, y) = true → GrpR w' b r n sz lf (fun z => left z && !decide (z = (x, y))) F cnt' → cnt' < cnt → w.grownBy w' (some r) → w'.heap.size = w.heap.size →
      (Instr.entry (.pointer (some ⟨r, 0, none⟩))).run Try.prog w' = .ok (.tuple #[.agg #[.int .i64 x, .int .i64 y], .int .i64 v]) w' → wpListIn Fc nF Try.prog ops Q rest (a.put o.dst (.tuple #[.bool true, .agg #[.int .i64 x, .int .i64 y], .int .i64 v])) w') :
    wpListIn Fc nF Try.prog ops Q (o :: rest) a w := by
  obtain ⟨D, L, h1, h2, h3, h4, h5, h6, h7⟩ := h
  refine wpListIn_next_ranges w hg it hop _ rk_law (plainElem Try.prog 2) rV (Value.int .i64) (fun key kl hkey => by obtain ⟨x, rfl, _⟩ := rk_inv hkey; exact ⟨x, rfl⟩)
    (fun v y hv => by obtain ⟨c, rfl, _⟩ := plainElem_int_inv i64_under hv; exact ⟨c, rfl⟩) b r n D L cnt hit h1 (fun h0 hl => hDone fun x => ?_) (fun x c kl y w' cnt' hkey hlk hv hat hrg hlt hgr hsz hen => ?_)
  · cases hx : left x with
    | false => rfl
    | true => rw [← h6 x (h5 x (h7 x hx)), hl] at hx; cases hx
  · obtain ⟨x', ex, hw, rfl⟩ := rk_inv hkey
    have e1 : x = x' := by
      unfold rV at ex
      simp at ex
      exact Prod.ext ex.1 ex.2
    subst e1
    refine hMore x.1 x.2 c w' cnt' hw (by rw [← h6 _ hw]; exact hlk) ⟨D, _, hrg, h2, h3, h4, h5, fun z hz => ?_, fun z hz => h7 z (by simp at hz; exact hz.1)⟩ hlt hgr hsz hen
    rw [h6 z hz]
    by_cases e : z = x
    · subst e; rw [WideAt.sameKey_self (kR_key hz)]; simp
    · rw [Maps.sameKey_ne (fun k => e (kR_inj hz hw k))]; simp [e]

theorem in_delete_grp {Fc : Fence} {nF : Nat} {ops : Array Oper} {rest : List Oper} {o : Oper} {a : Act} {Q : Exit → Act → World → Prop} (hg : o.guard = none) (m x : Operand) (hop : o.op = Op.call { callee := Callee.builtin Builtin.delete, args := #[m, x], argTypes := #[90, 25] })
    (b n sz : Nat) (lf : Int × Int → Bool) (F : Int × Int → Int) (hm : a.eval m = .map (some b)) (h : Grp w b n sz lf F) (r : Int × Int) (hr : W2 r) (hx : a.eval x = .agg #[.int .i64 r.1, .int .i64 r.2])
    (hK : ∀ w', Grp w' b n (if lf r then sz - 1 else sz) (fun x => lf x && !decide (x = r)) F → w.grownBy w' (some b) → wpListIn Fc nF Try.prog ops Q rest (a.put o.dst (.tuple #[])) w') :
    wpListIn Fc nF Try.prog ops Q (o :: rest) a w := by
  refine wpListIn_plain hg fun K' hK' => ?_
  obtain ⟨w', hrun, r1, r2⟩ := h.del hr o.type
  have hx' : a.eval x = rV r := hx
  unfold Oper.wpIn
  refine ⟨by simp [Oper.about, hop, resolve, Target.leads, Sem.run_pure], ?_⟩
  rw [Oper.semAt_plain Fc _ _ (by rw [hop]; intro c hc'; cases hc')]
  simp [execOp, hop, resolve, invoke, builtin, hm, hx', hrun, Result.andThen]
  exact hK' _ _ (hK w' r1 r2)

theorem in_len_grp {Fc : Fence} {nF : Nat} {ops : Array Oper} {rest : List Oper} {o : Oper} {a : Act} {Q : Exit → Act → World → Prop} (hg : o.guard = none) (m : Operand) (hop : o.op = Op.call { callee := Callee.builtin Builtin.len, args := #[m], argTypes := #[90] })
    (b n sz : Nat) (lf : Int × Int → Bool) (F : Int × Int → Int) (hm : a.eval m = .map (some b)) (h : Grp w b n sz lf F)
    (hK : wpListIn Fc nF Try.prog ops Q rest (a.put o.dst (.int .i64 (sz : Nat))) w) :
    wpListIn Fc nF Try.prog ops Q (o :: rest) a w := by
  refine wpListIn_plain hg fun K' hK' => ?_
  unfold Oper.wpIn
  refine ⟨by simp [Oper.about, hop, resolve, Target.leads, Sem.run_pure], ?_⟩
  rw [Oper.semAt_plain Fc _ _ (by rw [hop]; intro c hc'; cases hc')]
  simp [execOp, hop, resolve, invoke, builtin, hm, h.len o.type, Result.andThen]
  exact hK' _ _ hK

theorem in_lookup_grp {Fc : Fence} {nF : Nat} {ops : Array Oper} {rest : List Oper} {o : Oper} {a : Act} {Q : Exit → Act → World → Prop} (hg : o.guard = none) (m x : Operand) (hop : o.op = Op.lookup 90 m x false)
    (b n sz : Nat) (lf : Int × Int → Bool) (F : Int × Int → Int) (hm : a.eval m = .map (some b)) (h : Grp w b n sz lf F) (r : Int × Int) (hr : W2 r) (hx : a.eval x = .agg #[.int .i64 r.1, .int .i64 r.2])
    (hK : wpListIn Fc nF Try.prog ops Q rest (a.put o.dst (.int .i64 (gv lf F r))) w) :
    wpListIn Fc nF Try.prog ops Q (o :: rest) a w := by
  refine wpListIn_plain hg fun K' hK' => ?_
  have hx' : a.eval x = rV r := hx
  unfold Oper.wpIn
  refine ⟨by simp [Oper.about, hop, resolve, Target.leads, Sem.run_pure], ?_⟩
  rw [Oper.semAt_plain Fc _ _ (by rw [hop]; intro c hc'; cases hc')]
  simp [execOp, hop, hm, hx', h.look hr, Result.andThen]
  exact hK' _ _ hK

set_option maxRecDepth 100000 in
/-- the entry of a fraction, and the store into it -/
theorem Grp.entry (h : Grp w b n sz lf F) {r : Int × Int} (hr : W2 r) (hn : n ≤ 100000) :
    ∃ (st : Nat) (w1 : World), (Instr.mapEntry 90 (.map (some b)) (rV r)).run Try.prog w = .ok (.tuple #[.int .i64 (gv lf F r), goInt st]) w1 ∧ w.grownBy w1 (some b) ∧ w1.heap.size = w.heap.size ∧
      (Instr.lookup 90 (.map (some b)) (rV r) false).run Try.prog w1 = .ok (.int .i64 (gv lf F r)) w1 ∧
      ∀ (w2 : World) (v : Int), (Lit.int .i64 v).wf = true → w2.heap[b]? = w1.heap[b]? → ∃ w3, (Instr.entryStore 90 (.map (some b)) (goInt st) (.int .i64 v)).run Try.prog w2 = .ok () w3 ∧
        Grp w3 b (n + 1) (if lf r then sz else sz + 1) (fun x => decide (x = r) || lf x) (fun x => if x = r then v else F x) ∧ w2.grownBy w3 (some b) := by
  have hG := h
  have hlook := h.look hr
  obtain ⟨D, ⟨es, clock, hb, hF, hs, hD⟩, h2, h3, h4, h5⟩ := h
  have hz : ∀ u : World, (zeroValue 2).run Try.prog u = .ok (.int .i64 0) u := rk_zero
  obtain ⟨v0, st, es1, clock1, hrun, hv0, hst⟩ := entry_then_store rk_klaw mp_under hz hb hF (rk_mk hr)
  have hlt : b < w.heap.size := (Array.getElem?_eq_some_iff.1 hb).1
  have hg1 : w.grownBy (setBlock w b (.map es1 clock1)) (some b) := ⟨rfl, rfl, rfl, by simp [setBlock], fun i _ hi => heap_setBlock_other hb _ (fun e => hi (by rw [e]))⟩
  -- the look-up behind it
  have hl1 : (Instr.lookup 90 (.map (some b)) (rV r) false).run Try.prog (setBlock w b (.map es1 clock1)) = .ok v0 (setBlock w b (.map es1 clock1)) ∧ v0 = .int .i64 (gv lf F r) := by
    rcases rk_klaw.find w (rk_mk hr) es.toList hF.keys with ⟨f1, f2⟩ | ⟨j, e0, f1, f2, f3⟩
    · have hrun2 : (Instr.mapEntry 90 (.map (some b)) (rV r)).run Try.prog w = .ok (.tuple #[.int .i64 0, goInt clock]) (setBlock w b (.map (es.push ⟨rV r, .int .i64 0, clock⟩) (clock + 1))) := by
        simp [Instr.mapEntry, run_underlying mp_under, MapKept.run_getObj_map hb, rk_klaw.check w false (rk_mk hr), f1, rk_zero, MapKept.run_setObj_map _ hb, Result.andThen, setBlock]
      have hput : (Instr.mapUpdate 90 (.map (some b)) (rV r) (.int .i64 0)).run Try.prog w = .ok () (setBlock w b (.map (es.push ⟨rV r, .int .i64 0, clock⟩) (clock + 1))) := by
        simp [Instr.mapUpdate, run_underlying mp_under, MapKept.run_getObj_map hb, rk_klaw.check w false (rk_mk hr), f1, MapKept.run_setObj_map _ hb, Result.andThen, setBlock]
      obtain ⟨w', hp, hGp, _⟩ := hG.put hr hn 0 (by decide)
      rw [hput] at hp
      rw [hrun] at hrun2
      injection hrun2 with e1 e2
      injection hp with _ e3
      have hl := hGp.look hr
      have hn0 : lf r = false := by
        rw [← h3 r hr]
        cases hh : Maps.has D (kR r) with
        | false => rfl
        | true =>
          rw [hD] at hh
          obtain ⟨p, hp, hpk⟩ := List.any_eq_true.1 hh
          obtain ⟨x, hx, rfl⟩ := List.mem_map.1 (mem_sorted.1 hp)
          obtain ⟨y, hy⟩ := hF.reads x hx
          rw [Go.WideElems.rg_of hy] at hpk
          have e4 := WideAt.sameKey_eq hpk
          have e5 := Go.WideElems.rd_key hy
          rw [show y.1 = kR r from e4] at e5
          exact absurd (rk_law.inj e5 (rk_mk hr)) (f2 x hx)
      have e6 : v0 = .int .i64 0 := by
        injection e1 with e1
        simp at e1
        exact e1.1
      rw [e2, e3, hl, e6]
      simp [gv, hn0]
    · have hj : es[j]? = some e0 := by simpa using f2
      rcases hv0 with ⟨e9, he9, hk9, hv9⟩ | ⟨hno, _⟩
      · have hrun2 : ∃ st2 es2 c2, (Instr.mapEntry 90 (.map (some b)) (rV r)).run Try.prog w = .ok (.tuple #[e0.val, goInt st2]) (setBlock w b (.map es2 c2)) ∧ es2 = es ∧ c2 = clock := by
          refine ⟨_, es.modify j (fun e => { e with key := rV r }), clock, by simp [Instr.mapEntry, run_underlying mp_under, MapKept.run_getObj_map hb, rk_klaw.check w false (rk_mk hr), f1, hj, f3, rk_klaw.stays w (rk_mk hr), MapKept.run_setObj_map _ hb, Result.andThen, setBlock]; rfl, ?_, rfl⟩
          apply Array.ext'
          rw [Array.toList_modify, modify_eq_set _ _ _ _ f2]
          have : ({ e0 with key := rV r } : MapEntry) = e0 := by rw [← f3]
          rw [this]
          exact Go.WideElems.set_self _ _ _ f2
        obtain ⟨st2, es2, c2, hrun2, rfl, rfl⟩ := hrun2
        rw [hrun] at hrun2
        injection hrun2 with e1 e2
        have hG1 : Grp (setBlock w b (.map es1 clock1)) b n sz lf F := by
          refine hG.of_heap ?_
          rw [e2, heap_setBlock_same hb, hb]
        have hl := hG1.look hr
        have hv : (Instr.lookup 90 (.map (some b)) (rV r) false).run Try.prog w = .ok e0.val w := by
          simp [Instr.lookup, run_underlying mp_under, MapKept.run_getObj_map hb, rk_klaw.check w _ (rk_mk hr), f1, Result.andThen]
        rw [hlook] at hv
        injection hv with hv
        have e6 : v0 = e0.val := by
          injection e1 with e1
          simp at e1
          exact e1.1
        have e7 : v0 = .int .i64 (gv lf F r) := e6.trans hv.symm
        exact ⟨by rw [hl, e7], e7⟩
      · exact absurd f3 (hno e0 (List.mem_of_getElem? f2))
  obtain ⟨hl1, rfl⟩ := hl1
  refine ⟨st, _, hrun, hg1, by simp [setBlock], hl1, fun w2 v hv hw2 => ?_⟩
  obtain ⟨es', clock', hr2, hr3⟩ := hst w2 (.int .i64 v) (by rw [hw2]; exact heap_setBlock_same hb _)
  obtain ⟨w', hp, hGp, hgp⟩ := hG.put hr hn v hv
  rw [hr3] at hp
  injection hp with _ e3
  have hb2 : w2.heap[b]? = some (.map es1 clock1) := by rw [hw2]; exact heap_setBlock_same hb _
  refine ⟨_, hr2, hGp.of_heap ?_, ⟨rfl, rfl, rfl, by simp [setBlock], fun i _ hi => heap_setBlock_other hb2 _ (fun e => hi (by rw [e]))⟩⟩
  rw [← e3, heap_setBlock_same hb, heap_setBlock_same hb2]

theorem wpOpIn_round {l q : Nat} {P : Program} {ops : Array Oper} {Q : Exit → Act → World → Prop} {K K' : Act → World → Prop} {i : Nat} {a : Act} {w : World} (hd : ∀ (i : Nat) (o : Oper), ops[i]? = some o → ∀ c, o.op ≠ .defer c)
    (hQ : ¬ LetsOut Q) (hK : ∀ a w, K a w → K' a w) (h : wpOp P ops Q i K a w) : wpOpIn (Fence.wide.inRound l) q P ops Q i K' a w := by
  unfold wpOp at h
  unfold wpOpIn
  cases ho : ops[i]? with
  | none => simp only [ho] at h ⊢; exact hK _ _ h
  | some o =>
    simp only [ho] at h ⊢
    split
    · rename_i hw
      simp only [hw, if_true] at h
      rcases h with h | ⟨_, h⟩
      case inr => exact absurd h hQ
      refine ⟨fun _ _ => trivial, ?_⟩
      rw [show (Fence.wide.inRound l).round = some l from rfl, Oper.semAt_some l _ _ (hd i o ho)]
      unfold Oper.wp at h
      generalize (execOp a.eval o).run P w = r at *
      cases r with
      | ok n w' =>
        cases n <;> simp only [Oper.upon, Oper.uponIn] at h ⊢
        case value u => exact hK _ _ h
        case skip => exact hK _ _ h
        case defer d => exact hK _ _ h
        case enter f args =>
          refine ⟨fun hx => by simp [Fence.wide] at hx, CallsIn.inRound l (callsIn_wide.2 (h.mono fun e w2 he => ?_))⟩
          cases e with
          | returned v => exact hK _ _ he
          | panicked c => exact he
          | outgrown => exact he
        case row row args =>
          refine ⟨fun hx => by simp [Fence.wide] at hx, fun c cs _ => ?_⟩
          obtain ⟨v, w2, hr, hs⟩ := h c cs
          exact ⟨v, w2, hK _ _ hr, stepsIn_wide.2 hs⟩
      | halt x w' => cases x <;> simp only [Oper.upon, Oper.uponIn] at h ⊢; exact h
    · rename_i hw
      simp only [hw] at h
      exact ⟨fun _ _ => trivial, hK _ _ h⟩

theorem wpAnyIn_round {l q : Nat} {P : Program} {ops : Array Oper} {Q : Exit → Act → World → Prop} {md : Region.Mode} (hd : ∀ (i : Nat) (o : Oper), ops[i]? = some o → ∀ c, o.op ≠ .defer c) (hQ : ¬ LetsOut Q) :
    ∀ (fuel : Nat) (listed : Array Bool) (a : Act) (w : World), wpAny P md ops Q fuel listed a w → wpAnyIn (Fence.wide.inRound l) q P md ops Q fuel listed a w
  | 0, _, _, _, h => h
  | fuel + 1, listed, a, w, h => ⟨h.1, fun i hi => wpOpIn_round hd hQ (fun a w => wpAnyIn_round hd hQ fuel _ a w) (h.2 i hi)⟩

def noDefer (ops : Array Oper) : Bool := ops.all fun o => match o.op with | .defer _ => false | _ => true
theorem noDefer_spec {ops : Array Oper} (h : noDefer ops = true) (i : Nat) (o : Oper) (ho : ops[i]? = some o) (c : Call) : o.op ≠ .defer c := by
  intro e
  have := Array.all_eq_true_iff_forall_mem.1 h o (Array.mem_of_getElem? ho)
  rw [e] at this
  cases this

/-- a region in a round, as elsewhere -/
theorem region_round {l q id : Nat} {P : Program} {ops : Array Oper} {Q : Exit → Act → World → Prop} {a : Act} {w : World} (S : World → Prop) (hm : P.follows .mixedOrders = true) (hd : noDefer ops = true) (hQ : ¬ LetsOut Q)
    (h : wpAnyH P .any ops Q S ops.size (Array.replicate ops.size false) a w.drew) : (Code.region id ops true).wpIn (Fence.wide.inRound l) q P Q a w :=
  wpIn_region_any hm (wpAnyIn_round (noDefer_spec hd) hQ _ _ _ _ (wpAny_of_held _ _ _ _ h))

end Go.Proofs.Ytcmllkjgggcghaa
