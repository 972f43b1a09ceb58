/- V22 V23 V24 V25 V26 V27 V28 V29 V30 V31 V32 -/
import Derived.Test.YtlbjnkopbabcnaaGreatDoorYV03
import Derived.Below

section
namespace Go.Proofs.YtlbjnkopbabcnaaGreatDoor
namespace Ev
set_option linter.unusedVariables false
set_option linter.unusedSimpArgs false
variable {ι ι' : Im} {D : Nat → Prop} {h h' : Hp} {w w' : World} {P : Program} {t : T} {nt : Nat} {a : Act} {ih : Ih} {ro : Option Nat} {v : V} {x : X} {s s' : St} {m : Nat}
/-- a temporary is written, or none -/
def PutT (dst : Option Nat) (v : V) (t t1 : T) : Prop := match dst with
  | none => t1 = t
  | some d => ∃ p, tset d = some p ∧ t1 = p v t
/-- what an operation does, in the words of the reckoner -/
def Does (P : Program) (nt : Nat) (ops : Array Oper) (o : Oper) (ih : Ih) (s s1 : St) (v : V) : Prop :=
  PutT o.dst v s.t s1.t ∧ s1.nt = s.nt ∧ s1.df = s.df ∧ s1.ro = s.ro ∧
  ((∃ f, cOp P nt o.op = some f ∧ f ih s.ro s.t s.h = some (v, s1.h)) ∨ (v = undV ∧ s1.h = s.h)) ∧
  (∀ j want, o.guard = some (j, want) → ∃ d g, (ops[j]?).bind (·.dst) = some d ∧ d < nt ∧ tget d = some g ∧ (isB (g s.t) want = true → ∃ f, cOp P nt o.op = some f ∧ f ih s.ro s.t s.h = some (v, s1.h)) ∧ (isB (g s.t) want = false → v = undV ∧ s1.h = s.h)) ∧
  (o.guard = none → ∃ f, cOp P nt o.op = some f ∧ f ih s.ro s.t s.h = some (v, s1.h))
theorem pureOf_cOp {o : Op} {g : T → V} (hg : pureOf nt o = some g) : cOp P nt o = some (pureO g) := by
  unfold pureOf at hg
  split at hg
  · show bnd (cO nt _) _ = _; rw [hg]; rfl
  · show bnd (cO nt _) _ = _; rw [hg]; rfl
  · cases hg
theorem cDst_some {o : Oper} {k : Fs → (T → T) → Option Fs} {F : Fs} (hc : cDst P nt o k = some F) :
    ∃ R no, k R no = some F ∧ (∃ f, cOp P nt o.op = some f ∧ ∀ ih s s1, R ih s = some s1 → ∃ v, PutT o.dst v s.t s1.t ∧ s1.nt = s.nt ∧ s1.df = s.df ∧ s1.ro = s.ro ∧ f ih s.ro s.t s.h = some (v, s1.h)) ∧ ∀ t, PutT o.dst undV t (no t) := by
  unfold cDst at hc
  cases hd : o.dst with
  | none =>
    rw [hd] at hc
    obtain ⟨f, h1, hc⟩ := bnd_some hc
    refine ⟨_, _, hc, ⟨f, h1, fun ih s s1 hr => ?_⟩, fun t => rfl⟩
    obtain ⟨⟨v, h'⟩, h2, hr⟩ := bnd_some (hr : (bnd (f ih s.ro s.t s.h) fun r => on2 r fun _ h' => some ⟨s.t, s.nt, h', s.df, s.ro⟩) = some s1)
    injection hr with hr
    subst hr
    exact ⟨v, rfl, rfl, rfl, rfl, h2⟩
  | some d =>
    rw [hd] at hc
    obtain ⟨p, h1, hc⟩ := bnd_some hc
    split at hc
    · rename_i g hg
      refine ⟨_, _, hc, ⟨_, pureOf_cOp hg, fun ih s s1 hr => ?_⟩, fun t => ⟨p, h1, rfl⟩⟩
      injection hr with hr
      subst hr
      exact ⟨g s.t, ⟨p, h1, rfl⟩, rfl, rfl, rfl, rfl⟩
    · obtain ⟨f, h2, hc⟩ := bnd_some hc
      refine ⟨_, _, hc, ⟨f, h2, fun ih s s1 hr => ?_⟩, fun t => ⟨p, h1, rfl⟩⟩
      obtain ⟨⟨v, h'⟩, h3, hr⟩ := bnd_some (hr : (bnd (f ih s.ro s.t s.h) fun r => on2 r fun v h' => some ⟨p v s.t, s.nt, h', s.df, s.ro⟩) = some s1)
      injection hr with hr
      subst hr
      exact ⟨v, ⟨p, h1, rfl⟩, rfl, rfl, rfl, h3⟩
theorem cOper_does {ops : Array Oper} {o : Oper} {F : Fs} {s1 : St} (hc : cOper P nt ops o = some F) (hr : F ih s = some s1) : ∃ v, Does P nt ops o ih s s1 v := by
  obtain ⟨R, no, hc, ⟨f, hf, hR⟩, hno⟩ := cDst_some hc
  cases hg : o.guard with
  | none =>
    rw [hg] at hc
    injection hc with hc
    subst hc
    obtain ⟨v, h1, h2, h3, h4, h5⟩ := hR _ _ _ hr
    exact ⟨v, h1, h2, h3, h4, .inl ⟨f, hf, h5⟩, (fun j want e => by rw [hg] at e; cases e), fun _ => ⟨f, hf, h5⟩⟩
  | some jw =>
    obtain ⟨j, want⟩ := jw
    rw [hg] at hc
    obtain ⟨d, q1, hc⟩ := bnd_some hc
    obtain ⟨q2, hc⟩ := grd_some hc
    obtain ⟨g, q3, hc⟩ := bnd_some hc
    injection hc with hc
    subst hc
    rcases ifB_some (hr : ifB (isB (g s.t) want) (R ih s) (some ⟨no s.t, s.nt, s.h, s.df, s.ro⟩) = some s1) with ⟨hb, hr⟩ | ⟨hb, hr⟩
    · obtain ⟨v, h1, h2, h3, h4, h5⟩ := hR _ _ _ hr
      refine ⟨v, h1, h2, h3, h4, .inl ⟨f, hf, h5⟩, fun j' want' e => ?_, (fun e => by rw [hg] at e; cases e)⟩
      rw [hg] at e; injection e with e; injection e with e1 e2; subst e1 e2
      exact ⟨d, g, q1, blt_lt q2, q3, fun _ => ⟨f, hf, h5⟩, (fun e => by rw [hb] at e; cases e)⟩
    · injection hr with hr
      subst hr
      refine ⟨undV, hno _, rfl, rfl, rfl, .inr ⟨rfl, rfl⟩, fun j' want' e => ?_, (fun e => by rw [hg] at e; cases e)⟩
      rw [hg] at e; injection e with e; injection e with e1 e2; subst e1 e2
      exact ⟨d, g, q1, blt_lt q2, q3, fun e => (by rw [hb] at e; cases e), fun _ => ⟨rfl, rfl⟩⟩
def asB : Value → Option Bool
  | .bool b => some b
  | _ => none
theorem isB_ok {u : V} {y : Value} {want : Bool} (hv : VR ι u y) : isB u want = (asB y == some want) := by
  cases hv <;> first | (cases want <;> rfl) | skip
  rename_i b
  cases b <;> cases want <;> rfl
theorem does_ok (hi : SoundC P ih) {ops : Array Oper} {o : Oper} {i : Nat} {s1 : St} {r : Option Nat} (hd : Does P nt ops o ih s s1 v) (hio : ops[i]? = some o) (hO : Opd ι nt s.t a o.op.operands)
    (hG : ∀ d, gdT ops o = some d → d < a.tmps.size ∧ ∀ g, tget d = some g → VR ι (g s.t) (a.tmps.getD d undef)) (hw : Wld ι D s.h w) (htp : Top ι s.h) (hN : Need nt s.t D o) {K : Act → World → Prop} {Q : Exit → Act → World → Prop}
    (hK : ∀ v' w' ι', Stp ι D s.h w ι' s1.h w' → VR ι' v v' → K (a.put o.dst v') w') : wpOpIn (FW r) m P ops Q i K a w := by
  obtain ⟨_, _, _, _, _, hg1, hg2⟩ := hd
  unfold wpOpIn
  rw [hio]
  show if Region.wanted o (yielded ops a.tmps) then _ else _
  cases hg : o.guard with
  | none =>
    obtain ⟨f, hf, hr⟩ := hg2 hg
    rw [if_pos (by unfold Region.wanted; rw [hg])]
    exact opr_ok hi hf hO hw htp hN hr hK
  | some jw =>
    obtain ⟨j, want⟩ := jw
    obtain ⟨d, g, q1, q2, q3, q4, q5⟩ := hg1 j want hg
    obtain ⟨hsz, hv⟩ := hG d (by unfold gdT; rw [hg]; exact q1)
    have hv := hv g q3
    have ew : Region.wanted o (yielded ops a.tmps) = isB (g s.t) want := by
      rw [isB_ok hv]
      unfold Region.wanted yielded
      rw [hg]
      simp only [q1, Option.bind_some]
      rw [Array.getElem?_eq_getElem hsz]
      have : a.tmps.getD d undef = a.tmps[d] := by simp [Array.getD, hsz]
      rw [this]
      generalize a.tmps[d] = q
      cases q <;> rfl
    rw [ew]
    cases hb : isB (g s.t) want with
    | true =>
      obtain ⟨f, hf, hr⟩ := q4 hb
      exact opr_ok hi hf hO hw htp hN hr hK
    | false =>
      obtain ⟨e1, e2⟩ := q5 hb
      subst e1
      refine ⟨fun _ _ => trivial, hK undef w ι ?_ VR.und⟩
      rw [e2]; exact Stp.refl hw
theorem need_all {o : Oper} (hall : ∀ k, D k) : Need nt t D o := ⟨fun _ => hall, fun _ _ _ _ _ => hall _, fun _ _ _ _ _ _ => hall _⟩
theorem putT_ok {dst : Option Nat} {t1 : T} {v' : Value} (hp : PutT dst v t t1) (ht : TmR ι t nt a.tmps) (hv : VR ι v v') : TmR ι t1 nt (a.put dst v').tmps := by
  cases dst with
  | none => have hp : t1 = t := hp; subst hp; exact ht
  | some d => obtain ⟨p, h1, rfl⟩ := hp; exact ht.put h1 hv
theorem put_df {dst : Option Nat} {v' : Value} : (a.put dst v').defers = a.defers := by cases dst <;> rfl
/-- one operation after the other -/
theorem step_ok (hi : SoundC P ih) {ops : Array Oper} {o : Oper} {i : Nat} {F : Fs} {s1 : St} {r : Option Nat} (hc : cOper P s.nt ops o = some F) (hr : F ih s = some s1) (hio : ops[i]? = some o) (hp : Pre ι D s r a w) {K : Act → World → Prop} {Q : Exit → Act → World → Prop}
    (hK : ∀ a' w' ι', Fin ι D s w s1 ι' a' w' → K a' w') : wpOpIn (FW r) m P ops Q i K a w := by
  obtain ⟨v, hd⟩ := cOper_does hc hr
  have hd0 := hd
  obtain ⟨c1, c2, c3, c4, -, hgd, -⟩ := hd
  refine does_ok hi hd0 hio (hp.tm.opd hp.wl.gl _) (fun d e => ?_) hp.wl hp.tp (need_all hp.all) (fun v' w' ι' st hv => hK _ _ ι' ?_)
  · cases hg : o.guard with
    | none => unfold gdT at e; rw [hg] at e; cases e
    | some jw =>
      obtain ⟨j, want⟩ := jw
      obtain ⟨d', g, q1, q2, -⟩ := hgd j want hg
      unfold gdT at e; rw [hg] at e
      have e' : (ops[j]?).bind (·.dst) = some d := e
      rw [q1] at e'; injection e' with e'; subst e'
      exact ⟨by rw [hp.tm.1]; exact q2, fun g hg => hp.tm.2 _ g q2 hg⟩
  · have he := st.extT hp.tp hp.wl
    refine ⟨st, ?_, ?_, c2, c4⟩
    · rw [c2]; exact putT_ok c1 (hp.tm.mono he) hv
    · rw [c3, put_df]; exact hp.df.mono he fun k q => .inl q
theorem ops_ok (hi : SoundC P ih) {ops : Array Oper} {r : Option Nat} {Q : Exit → Act → World → Prop} : ∀ {l : List Oper} {js : List Nat} {F : Fs} {s : St} {s1 : St} {ι : Im} {D : Nat → Prop} {a : Act} {w : World}, cL1 P s.nt ops l = some F → F ih s = some s1 → js.map (fun j => ops[j]?) = l.map some → Pre ι D s r a w →
    (∀ a' w' ι', Fin ι D s w s1 ι' a' w' → Q .normal a' w') → wpOpsIn (FW r) m P ops Q js a w
  | [], js, F, s, s1, ι, D, a, w, hc, hr, hj, hp, hQ => by
    injection hc with hc; subst hc
    injection hr with hr; subst hr
    cases js with
    | nil => exact hQ _ _ _ hp.fin
    | cons j js => cases hj
  | o :: l, js, F, s, s1, ι, D, a, w, hc, hr, hj, hp, hQ => by
    obtain ⟨f, h1, hc⟩ := bnd_some hc
    obtain ⟨g, h2, hc⟩ := bnd_some hc
    injection hc with hc
    subst hc
    cases js with
    | nil => cases hj
    | cons j js =>
      simp only [List.map_cons, List.cons.injEq] at hj
      have hr : Option.rec (motive := fun _ => Option St) none (g ih) (f ih s) = some s1 := hr
      cases hf : f ih s with
      | none => rw [hf] at hr; cases hr
      | some s2 =>
        rw [hf] at hr
        have hr : g ih s2 = some s1 := hr
        rw [wpOpsIn_cons]
        refine step_ok hi h1 hf hj.1 hp fun a2 w2 ι2 f2 => ?_
        refine ops_ok hi (by rw [f2.nt]; exact h2) hr hj.2 (hp.next f2) fun a3 w3 ι3 f3 => hQ _ _ _ (f2.trans f3)
theorem sd_region {id : Nat} {ops : Array Oper} {F : Fs} {r : Option Nat} (hi : SoundC P ih) (hc : cL1 P s.nt ops ops.toList = some F) (hr : runR F ih s = some (x, s')) (hp : Pre ι D s r a w) : (Code.region id ops false).wpIn (FW r) m P (Post ι D s w x s') a w := by
  have hr : Option.rec (motive := fun _ => Res) none (fun s => some (.normal, s)) (F ih s) = some (x, s') := hr
  cases hf : F ih s with
  | none => rw [hf] at hr; cases hr
  | some s2 =>
    rw [hf] at hr
    injection hr with hr
    injection hr with e1 e2
    subst e1 e2
    refine wpIn_region (ops_ok hi hc hf ?_ hp fun a' w' ι' f => ⟨rfl, ι', f⟩)
    apply List.ext_getElem?
    intro i
    simp only [List.getElem?_map]
    by_cases c : i < ops.size
    · rw [List.getElem?_range c]; simp [c]
    · rw [List.getElem?_eq_none (by simp; omega), List.getElem?_eq_none (by simp; omega)]; rfl
end Ev
end Go.Proofs.YtlbjnkopbabcnaaGreatDoor
end


section
namespace Go.Proofs.YtlbjnkopbabcnaaGreatDoor
namespace Ev
set_option linter.unusedVariables false
set_option linter.unusedSimpArgs false
variable {ι ι' : Im} {D : Nat → Prop} {h h' : Hp} {w w' : World} {P : Program} {t : T} {nt : Nat} {a : Act} {ih : Ih} {ro : Option Nat} {v : V} {x : X} {s s' : St} {m : Nat}
theorem run_enterLoop_inner {l : Nat} {r : Loop} (hl : w.heap[l]? = some (.loop r)) (fn : FuncId) (tmps : Array Value) (ps : Array Tmp) (assign body : Code) :
    (Instr.enterLoop fn tmps ps assign body (some l)).run P w = .ok (w.heap.size, []) (w.alloc (.loop { state := .ready, pending := none, fn, tmps, params := ps, assign, body, defers := r.defers })) := by
  unfold Instr.enterLoop
  simp only [Sem.run_bind, run_getLoop hl, run_newObj_alloc, Result.andThen, Sem.run_pure]
/-- a new record of a loop -/
theorem stp_loop (hw : Wld ι D h w) (htp : Top ι h) {ps : Array Tmp} {asg body : Code} {fn df : Nat} (ht : TmR ι t nt a.tmps) {α : Type} {k : Nat → Hp → Option α} {r : α} (hr : newB (oLp ⟨0, none, t, nt, ps.toList, asg, body⟩) h k = some r) :
    ∃ ι' h', k h.nx h' = some r ∧ h'.nx = h.nx + 1 ∧ ι' h.nx = some w.heap.size ∧ Stp ι D h w ι' h' (w.alloc (.loop { state := .ready, pending := none, fn, tmps := a.tmps, params := ps, assign := asg, body, defers := df })) := by
  obtain ⟨hn, hr⟩ := newB_some hr
  refine ⟨up ι h.nx w.heap.size 0, _, hr, rfl, if_pos rfl, stp_new hw hn (htp _ (Nat.le_refl _)) ?_⟩
  refine ⟨fun e => (by cases e), fun _ => ⟨_, _, rfl, World.alloc_heap_new _ _, ?_⟩, fun e => (by cases e), fun e => (by cases e), fun e => (by cases e)⟩
  exact { st := rfl, pend := rfl, ps := rfl, asg := rfl, body := rfl, tm := ht.mono (up_ext (htp _ (Nat.le_refl _)) (.inl hw.new)) }
/-- behind the loop: what a round has left is done -/
theorem after_ok (hi : SoundC P ih) {l l' : Nat} {df : List Nat} {h3 : Hp} {r : Option Nat} (hr : afterR ih l df s h3 = some (x, s')) (hall : ∀ k, D k) (hp : Pre ι D s r a w) {ι3 : Im} {w3 : World} (st : Stp ι D s.h w ι3 h3 w3) (hl : ι3 l = some l') {ds : List Deferred} (hd : DfR ι3 (fun k => D k ∨ s.h.nx ≤ k) df ds) :
    ∃ jump w4, (Instr.endLoop l').run P w3 = .ok jump w4 ∧ (match jump with | none => Post ι D s w x s' .normal { tmps := a.tmps, defers := ds } w4 | some c => c.wpIn (FW r) m P (Post ι D s w x s') { tmps := a.tmps, defers := ds } w4) := by
  unfold afterR at hr
  rw [onSt_eq] at hr
  obtain ⟨h1, y, h2, hr⟩ := onLp_some hr
  obtain ⟨h5, hr⟩ := grd_some hr
  obtain ⟨h4, h6, hr⟩ := bnd_some hr
  have hall' : ∀ k, D k ∨ s.h.nx ≤ k := fun k => .inl (hall k)
  have tp3 := hp.tp.step st
  have hlt : l < h3.nx := by
    by_cases c : l < h3.nx
    · exact c
    · rw [tp3 l (by omega)] at hl; cases hl
  obtain ⟨rec, g1, g2⟩ := lp_get hall' st.wl hlt hl h1 h2
  have hnb : rec.state ≠ .busy := by
    intro e
    have := g2.st
    rw [e] at this
    have h5 : (!Nat.beq y.st 1) = true := h5
    rw [← this] at h5
    cases h5
  have st4 := lp_set (sta := .exhausted) (p := y.pend) hall' st.wl hl h1 g2 g1 h6 rfl
  have ew : ({ rec with state := LoopState.exhausted, pending := y.pend } : Loop) = { rec with state := LoopState.exhausted } := by rw [← g2.pend]
  rw [ew] at st4
  refine ⟨_, _, run_endLoop g1 hnb, ?_⟩
  have tot := st.trans st4
  have he := tot.extT hp.tp hp.wl
  have f4 : Fin ι D s w ⟨s.t, s.nt, h4, df, s.ro⟩ ι3 { tmps := a.tmps, defers := ds } (w3.putObj l' (.loop { rec with state := .exhausted })) := ⟨tot, hp.tm.mono he, hd, rfl, rfl⟩
  generalize (w3.putObj l' (Obj.loop { rec with state := LoopState.exhausted })) = w4 at f4 ⊢
  rw [g2.pend]
  cases hpd : y.pend with
  | none =>
    rw [hpd] at hr
    injection hr with hr
    injection hr with e1 e2
    subst e1 e2
    exact ⟨rfl, ι3, f4⟩
  | some c =>
    rw [hpd] at hr
    have hr : fC (fun c => ih c ⟨s.t, s.nt, h4, df, s.ro⟩) c = some (x, s') := hr
    rw [fC_eq] at hr
    exact wpIn_mono (hi _ _ _ _ hr ι3 _ r m _ _ (hp.next f4)).1 fun e a2 w2 ⟨q1, ι2, f2⟩ => ⟨q1, ι2, f4.trans f2⟩
theorem callR_some {f : T → V} {s : St} {l : Nat} {k : Hp → Res} {y : X × St} (hr : callR P ih f s l h k = some y) : ∃ v h', (f s.t).tg = 8 ∧ evF P ih (f s.t).a (vapp (f s.t).l (vYld l :: (f s.t).m)) h = some (v, h') ∧ k h' = some y := by
  rcases onFn_some hr with ⟨h1, hr⟩ | ⟨h1, hr⟩
  · obtain ⟨⟨v, h'⟩, h2, hr⟩ := bnd_some hr
    exact ⟨v, h', h1, h2, hr⟩
  · cases hr
theorem sd_range {g : Operand} {ps : Array Tmp} {asg body : Code} {f : T → V} {r : Option Nat} (hi : SoundC P ih) (hf : cO s.nt g = some f) (hr : evRange P f ps.toList asg body ih s = some (x, s')) (hp : Pre ι D s r a w) : (Code.rangeFunc g ps asg body).wpIn (FW r) m P (Post ι D s w x s') a w := by
  unfold evRange at hr
  rw [onSt_eq] at hr
  have hall := hp.all
  have v1 := (hp.tm.opd hp.wl.gl #[g]) g (by simp) f hf
  -- the call, from where the record lies
  have call : ∀ {ι2 : Im} {h2 : Hp} {w2 : World} {l l' : Nat} {df : List Nat} {mark : List Deferred}, Stp ι D s.h w ι2 h2 w2 → ι2 l = some l' → DfR ι2 (fun k => D k ∨ s.h.nx ≤ k) df (mark ++ a.defers) →
      callR P ih f s l h2 (fun h3 => afterR ih l df s h3) = some (x, s') →
      ∃ (d : Deferred) (w₁' : World) (f' : FuncId) (args : Array Value) (w₂ : World), (resolve a.eval (rangeCall g l') 0).run P w2 = .ok d w₁' ∧ (invoke d.target d.args).run P w₁' = .ok (.enter f' args) w₂ ∧
        CallsIn (FW r) (m - 1) P f' args w₂ (rangePost (FW r) m P l' (Post ι D s w x s') { a with defers := mark ++ a.defers }) := by
    intro ι2 h2 w2 l l' df mark st hl hd hr
    obtain ⟨v, h3, q1, q2, hr⟩ := callR_some hr
    obtain ⟨fs, cs, p1, p2, e⟩ := v1.fn_inv q1
    have he := st.extT hp.tp hp.wl
    have tp2 := hp.tp.step st
    have hcall := call_ok (m := m - 1) (r := r) hi q2 (fun k => .inl (hall k)) st.wl tp2 (by rw [vapp_eq]; exact (p1.mono he).app (.cons (.yld hl) (p2.mono he)))
    obtain ⟨d, hd', -⟩ := bnd_some q2
    obtain ⟨fn, g1, g2, g3, -⟩ := cFn_some hd'
    refine ⟨{ target := .fn (.func (f s.t).a) ⟨cs⟩, args := ⟨fs⟩ ++ #[.func (.yield l') #[] #[]] }, w2, (f s.t).a, ⟨fs ++ (Value.func (.yield l') #[] #[] :: cs)⟩, w2, ?_, ?_, hcall.mono ?_⟩
    · show (Deferred.ofValue (a.eval g) ((rangeCall g l').args.map a.eval)).run P w2 = _
      rw [e]
      have ea : (rangeCall g l').args.map a.eval = #[Value.func (.yield l') #[] #[]] := by simp [rangeCall, Act.eval]
      rw [ea]
      rfl
    · have ea : ((⟨fs⟩ : Array Value) ++ #[Value.func (.yield l') #[] #[]] ++ ⟨cs⟩) = ⟨fs ++ (Value.func (.yield l') #[] #[] :: cs)⟩ := by apply Array.ext'; simp
      show (callFunc _ _).run P w2 = _
      rw [ea]
      exact run_callFunc g1 g2 g3
    · rintro e1 w3 ⟨v', rfl, ι3, st3, hv⟩
      have he3 := st3.extT tp2 st.wl
      exact after_ok hi hr hall hp (st.trans st3) (he3 _ _ hl).1 (hd.mono he3 (fun k q => q))
  refine wpIn_rangeFunc fun fn _ => ?_
  cases hro : s.ro with
  | none =>
    rw [hro] at hr
    have hro' : r = none := by have := hp.ro; rw [hro] at this; exact this
    obtain ⟨hn, hr⟩ := newB_some hr
    have hob : ObR (up ι s.h.nx w.heap.size 0) oDf (w.alloc (.deferred (some []))) w.heap.size := ⟨fun e => (by cases e), fun e => (by cases e), fun _ => World.alloc_heap_new _ _, fun e => (by cases e), fun e => (by cases e)⟩
    have st1 := stp_new (obj := .deferred (some [])) hp.wl hn (hp.tp _ (Nat.le_refl _)) hob
    have he1 := st1.extT hp.tp hp.wl
    have tp1 := hp.tp.step st1
    obtain ⟨ι2, h2, hr, -, hl, st2⟩ := stp_loop (fn := fn) (df := w.heap.size) st1.wl tp1 (hp.tm.mono he1) hr
    have he2 := st2.extT tp1 st1.wl
    have hmark : ι2 s.h.nx = some w.heap.size := (he2 _ _ (if_pos rfl)).1
    obtain ⟨d, w1', f', args, w2, c1, c2, c3⟩ := call (mark := [{ target := .collected w.heap.size, args := #[] }]) (st1.trans st2) hl (.cons hmark (.inr (Nat.le_refl _)) ((hp.df.mono he1 (fun k q => .inl q)).mono he2 (fun k q => q))) hr
    refine ⟨_, [{ target := .collected w.heap.size, args := #[] }], _, d, w1', f', args, w2, ?_, c1, fun _ _ => trivial, c2, FW_n r m, c3⟩
    · rw [hro']
      have := run_enterLoop_outer (P := P) (w := w) fn a.tmps ps asg body
      rw [show (FW none).round = none from rfl, this]
      have e : (w.alloc (.deferred (some []))).heap.size = w.heap.size + 1 := by simp
      rw [e]
  | some l =>
    rw [hro] at hr
    have hror : RoR ι D (some l) r := by have := hp.ro; rwa [hro] at this
    obtain ⟨-, b, hb, rfl⟩ := hror
    obtain ⟨h0, hr⟩ := grd_some hr
    have hlt : l < s.h.nx := by
      by_cases c : l < s.h.nx
      · exact c
      · rw [hp.tp l (by omega)] at hb; cases hb
    obtain ⟨y, rec, -, g1, -⟩ := (hp.wl.ob l b (hall l) hlt hb).lp (beq_eq h0)
    obtain ⟨ι2, h2, hr, -, hl, st2⟩ := stp_loop (fn := fn) (df := rec.defers) hp.wl hp.tp hp.tm hr
    have he2 := st2.extT hp.tp hp.wl
    obtain ⟨d, w1', f', args, w2, c1, c2, c3⟩ := call (mark := []) st2 hl (hp.df.mono he2 (fun k q => .inl q)) hr
    exact ⟨_, _, _, d, w1', f', args, w2, run_enterLoop_inner g1 fn a.tmps ps asg body, c1, fun _ _ => trivial, c2, FW_n _ m, c3⟩
end Ev
end Go.Proofs.YtlbjnkopbabcnaaGreatDoor
end


section
namespace Go.Proofs.YtlbjnkopbabcnaaGreatDoor
namespace Ev
set_option linter.unusedVariables false
set_option linter.unusedSimpArgs false
variable {ι ι' : Im} {D : Nat → Prop} {h h' : Hp} {w w' : World} {P : Program} {t : T} {nt : Nat} {a : Act} {ih : Ih} {ro : Option Nat} {v : V} {x : X} {s s' : St} {m : Nat} {o : Oper}
/-- the block that a load or a store speaks of -/
def Tgt (nt : Nat) (t : T) (o : Oper) (k : Nat) : Prop := ∃ f, addrO nt o = some f ∧ (f t).tg = 3 ∧ (f t).a = k
def Dn (nt : Nat) (t : T) (o : Oper) (k : Nat) : Prop := kindO o = 3 ∨ (kindO o ≠ 0 ∧ Tgt nt t o k)
theorem kind1 (hk : kindO o = 1) : ∃ ty x, o.op = .load ty x := by
  unfold kindO at hk
  split at hk
  · exact ⟨_, _, by assumption⟩
  all_goals first | (cases hk; done) | (split at hk <;> cases hk)
theorem kind2 (hk : kindO o = 2) : ∃ ty x y, o.op = .store ty x y := by
  unfold kindO at hk
  split at hk
  · cases hk
  · exact ⟨_, _, _, by assumption⟩
  all_goals first | (cases hk; done) | (split at hk <;> cases hk)
theorem store_syn {f : Fo} (hk : kindO o = 2) (hc : cOp P nt o.op = some f) (hr : f ih ro t h = some (v, h')) (hn : h.nx ≤ 1000000000) :
    ∃ k, Tgt nt t o k ∧ (h.at_ k).tg = 0 ∧ h'.nx = h.nx ∧ ∀ j, j < h.nx → j ≠ k → h'.at_ j = h.at_ j := by
  obtain ⟨ty, x, y, ho⟩ := kind2 hk
  rw [ho] at hc
  obtain ⟨i, h1, hc⟩ := bnd_some hc
  obtain ⟨f1, h2, hc⟩ := bnd_some hc
  obtain ⟨f2, h3, hc⟩ := bnd_some hc
  injection hc with hc
  subst hc
  obtain ⟨ht, hr⟩ := onPtr_some hr
  obtain ⟨-, hr⟩ := grd_some hr
  obtain ⟨h'', hp, hr⟩ := bnd_some hr
  injection hr with hr
  injection hr with e1 e2
  subst e1 e2
  obtain ⟨q1, q2, hp⟩ := row_some hp
  obtain ⟨l, -, hp⟩ := bnd_some hp
  rw [fN_eq] at hp
  obtain ⟨hb, rfl⟩ := setB_some hp
  refine ⟨(f1 t).a, ⟨f1, by unfold addrO; rw [ho]; exact h2, ht, rfl⟩, q2, rfl, fun j hj hne => ?_⟩
  rw [upd_at hn _ _ hb hj, if_neg hne]
theorem load_ok {f : Fo} (hk : kindO o = 1) (hc : cOp P nt o.op = some f) (hO : Opd ι nt t a o.op.operands) (hw : Wld ι D h w) (hD : ∀ k, Tgt nt t o k → D k) (hr : f ih ro t h = some (v, h')) :
    ∃ v', (execOp a.eval o).run P w = .ok (.value v') w ∧ h' = h ∧ VR ι v v' := by
  obtain ⟨ty, x, ho⟩ := kind1 hk
  rw [ho] at hc
  obtain ⟨b, hb, hc⟩ := bnd_some hc
  obtain ⟨f1, h2, hc⟩ := bnd_some hc
  have v1 := hO x (by simp [ho, Op.operands]) f1 h2
  have ha : addrO nt o = some f1 := by unfold addrO; rw [ho]; exact h2
  rcases ifB_some hc with ⟨rfl, hc⟩ | ⟨rfl, hc⟩
  · injection hc with hc
    subst hc
    obtain ⟨ht, hr⟩ := onPtr_some hr
    obtain ⟨h0, h1, hr⟩ := rowR_some hr
    obtain ⟨y, hy, hr⟩ := bnd_some hr
    injection hr with hr
    injection hr with e1 e2
    subst e1 e2
    obtain ⟨b', hb', e3⟩ := v1.ptr_inv ht
    obtain ⟨xs, us, e, fr, hx, hg⟩ := rowR_cells hw h0 (hD _ ⟨f1, ha, ht, rfl⟩) hb' h1
    obtain ⟨rfl, hl⟩ := vtake_some hy
    rw [vdrop_eq] at hl ⊢
    have l1 := hx.len
    obtain ⟨i, hi⟩ := aggT_info hb
    refine ⟨.agg ⟨(xs.drop (f1 t).b).take (P.cellsOf ty)⟩, ?_, rfl, (.agg ((hx.drop _).take _))⟩
    have hrun : (loadCells ⟨b', (f1 t).b, none⟩ (P.cellsOf ty)).run P w = .ok ⟨(xs.drop (f1 t).b).take (P.cellsOf ty)⟩ w := by
      by_cases hz : P.cellsOf ty = 0
      · rw [hz]; rfl
      · exact run_loadCells_at hg (by simp at hl; omega)
    simp [execOp, ho, e3, Instr.loadAt, Instr.sureAddr, loadVar, aggT_some hb, run_size hi, hrun]
  · injection hc with hc
    subst hc
    obtain ⟨ht, hr⟩ := onPtr_some hr
    obtain ⟨h0, h1, hr⟩ := rowR_some hr
    obtain ⟨y, ys, hy, hr⟩ := onCons_some hr
    injection hr with hr
    injection hr with e1 e2
    subst e1 e2
    obtain ⟨b', hb', e3⟩ := v1.ptr_inv ht
    obtain ⟨xs, us, e, fr, hx, hg⟩ := rowR_cells hw h0 (hD _ ⟨f1, ha, ht, rfl⟩) hb' h1
    rw [vdrop_eq] at hy
    obtain ⟨u, us', hu, -, hv, -⟩ := (hx.drop (f1 t).b).hd hy
    refine ⟨u, ?_, rfl, hv⟩
    have hl : (⟨xs ++ us⟩ : Array Value)[(f1 t).b]? = some u := by
      have h9 : xs[(f1 t).b]? = some u := by
        have := congrArg List.head? hu
        simpa [List.head?_drop] using this
      have hlt := (List.getElem?_eq_some_iff.1 h9).1
      simpa [List.getElem?_append_left hlt] using h9
    have hcell : w.cell? ⟨b', (f1 t).b, none⟩ = some u := by simp only [World.cell?, hg, Option.isSome_none, Bool.false_eq_true, if_false]; exact hl
    simp [execOp, ho, e3, Instr.loadAt, Instr.sureAddr, loadVar, aggT_some hb, hcell]
/-- what is known besides: a load changes nothing; a store one block -/
def Eff (nt : Nat) (o : Oper) (t : T) (h h' : Hp) (w w' : World) : Prop :=
  (kindO o = 1 → w' = w ∧ h' = h) ∧ (kindO o = 2 → (w' = w ∧ h' = h) ∨ ∃ k, Tgt nt t o k ∧ (h.at_ k).tg = 0 ∧ h'.nx = h.nx ∧ ∀ j, j < h.nx → j ≠ k → h'.at_ j = h.at_ j)
theorem need_run {f : Fo} (hc : cOp P nt o.op = some f) (hr : f ih ro t h = some (v, h')) (hD : ∀ k, Dn nt t o k → D k) : Need nt t D o := by
  refine ⟨fun hk k => hD k (.inl hk), fun ty x ho g hg => ?_, fun ty x y ho g hg => ?_⟩
  · have ha : addrO nt o = some g := by unfold addrO; rw [ho]; exact hg
    refine hD _ (.inr ⟨by unfold kindO; rw [ho]; exact (by decide : (1 : Nat) ≠ 0), g, ha, ?_, rfl⟩)
    rw [ho] at hc
    obtain ⟨b, hb, hc⟩ := bnd_some hc
    obtain ⟨f1, h2, hc⟩ := bnd_some hc
    rw [hg] at h2
    injection h2 with h2
    subst h2
    rcases ifB_some hc with ⟨rfl, hc⟩ | ⟨rfl, hc⟩
    · injection hc with hc; subst hc; exact (onPtr_some hr).1
    · injection hc with hc; subst hc; exact (onPtr_some hr).1
  · have ha : addrO nt o = some g := by unfold addrO; rw [ho]; exact hg
    refine hD _ (.inr ⟨by unfold kindO; rw [ho]; exact (by decide : (2 : Nat) ≠ 0), g, ha, ?_, rfl⟩)
    rw [ho] at hc
    obtain ⟨i, hb, hc⟩ := bnd_some hc
    obtain ⟨f1, h2, hc⟩ := bnd_some hc
    obtain ⟨f2, h3, hc⟩ := bnd_some hc
    rw [hg] at h2
    injection h2 with h2
    subst h2
    injection hc with hc; subst hc; exact (onPtr_some hr).1
theorem opr_ok2 (hi : SoundC P ih) {f : Fo} (hc : cOp P nt o.op = some f) (hO : Opd ι nt t a o.op.operands) (hw : Wld ι D h w) (htp : Top ι h) (hD : ∀ k, Dn nt t o k → D k) (hr : f ih ro t h = some (v, h')) {K : Act → World → Prop} {Q : Exit → Act → World → Prop} {r : Option Nat}
    (hK : ∀ v' w' ι', Stp ι D h w ι' h' w' → VR ι' v v' → Eff nt o t h h' w w' → K (a.put o.dst v') w') : o.wpIn (FW r) m P a w K Q := by
  by_cases hk : kindO o = 1
  · obtain ⟨v', hrun, rfl, hv⟩ := load_ok hk hc hO hw (fun k q => hD k (.inr ⟨by omega, q⟩)) hr
    obtain ⟨ty, x, ho⟩ := kind1 hk
    refine ⟨fun _ _ => trivial, ?_⟩
    rw [Oper.semAt_eq _ _ _ (by intro c e; rw [ho] at e; cases e), hrun]
    exact hK v' w ι (Stp.refl hw) hv ⟨fun _ => ⟨rfl, rfl⟩, fun q => by omega⟩
  · refine opr_ok hi hc hO hw htp (need_run hc hr hD) hr fun v' w' ι' st hv => hK v' w' ι' st hv ⟨fun q => absurd q hk, fun q => .inr (store_syn q hc hr hw.nx)⟩
theorem does_ok2 (hi : SoundC P ih) {ops : Array Oper} {i : Nat} {s1 : St} {r : Option Nat} (hd : Does P nt ops o ih s s1 v) (hio : ops[i]? = some o) (hO : Opd ι nt s.t a o.op.operands)
    (hG : ∀ d, gdT ops o = some d → d < a.tmps.size ∧ ∀ g, tget d = some g → VR ι (g s.t) (a.tmps.getD d undef)) (hw : Wld ι D s.h w) (htp : Top ι s.h) (hD : ∀ k, Dn nt s.t o k → D k) {K : Act → World → Prop} {Q : Exit → Act → World → Prop}
    (hK : ∀ v' w' ι', Stp ι D s.h w ι' s1.h w' → VR ι' v v' → Eff nt o s.t s.h s1.h w w' → K (a.put o.dst v') w') : wpOpIn (FW r) m P ops Q i K a w := by
  obtain ⟨_, _, _, _, _, hg1, hg2⟩ := hd
  unfold wpOpIn
  rw [hio]
  show if Region.wanted o (yielded ops a.tmps) then _ else _
  cases hg : o.guard with
  | none =>
    obtain ⟨f, hf, hr⟩ := hg2 hg
    rw [if_pos (by unfold Region.wanted; rw [hg])]
    exact opr_ok2 hi hf hO hw htp hD hr hK
  | some jw =>
    obtain ⟨j, want⟩ := jw
    obtain ⟨d, g, q1, q2, q3, q4, q5⟩ := hg1 j want hg
    obtain ⟨hsz, hv⟩ := hG d (by unfold gdT; rw [hg]; exact q1)
    have hv := hv g q3
    have ew : Region.wanted o (yielded ops a.tmps) = isB (g s.t) want := by
      rw [isB_ok hv]
      unfold Region.wanted yielded
      rw [hg]
      simp only [q1, Option.bind_some]
      rw [Array.getElem?_eq_getElem hsz]
      have : a.tmps.getD d undef = a.tmps[d] := by simp [Array.getD, hsz]
      rw [this]
      generalize a.tmps[d] = q
      cases q <;> rfl
    rw [ew]
    cases hb : isB (g s.t) want with
    | true =>
      obtain ⟨f, hf, hr⟩ := q4 hb
      exact opr_ok2 hi hf hO hw htp hD hr hK
    | false =>
      obtain ⟨e1, e2⟩ := q5 hb
      subst e1
      refine ⟨fun _ _ => trivial, hK undef w ι ?_ VR.und ⟨fun _ => ⟨rfl, e2⟩, fun _ => .inl ⟨rfl, e2⟩⟩⟩
      rw [e2]; exact Stp.refl hw
/-- what is so of each way on is so of one -/
theorem wpOp_ex {ops : Array Oper} {i : Nat} {K : Act → World → Prop} (hh : wpOpIn (FW none) m P ops (fun _ _ _ => False) i K a w) : ∃ a' w', K a' w' := by
  unfold wpOpIn at hh
  split at hh
  · exact ⟨_, _, hh⟩
  · split at hh
    · obtain ⟨-, hh⟩ := hh
      generalize Sem.run P _ w = q at hh
      unfold Oper.uponIn at hh
      split at hh
      · exact ⟨_, _, hh⟩
      · exact ⟨_, _, hh⟩
      · exact ⟨_, _, hh⟩
      · obtain ⟨-, -, hh⟩ := hh
        obtain ⟨e, w', fr, q, -⟩ := hh [] (FW_room none _)
        cases e with
        | returned v => exact ⟨_, _, q⟩
        | panicked c => exact q.elim
        | outgrown => obtain ⟨_, _, q⟩ := q; exact q.elim
      · obtain ⟨-, hh⟩ := hh
        obtain ⟨v, w', q, -⟩ := hh default [] (FW_room none _)
        exact ⟨_, _, q⟩
      · obtain ⟨-, -, hh⟩ := hh
        obtain ⟨e, w', q, -⟩ := hh default [] (FW_room none _)
        cases e with
        | returned v => exact ⟨_, _, q⟩
        | panicked c => exact q.elim
        | outgrown => obtain ⟨_, _, q⟩ := q; exact q.elim
      · exact hh.elim
      · exact hh.elim
    · exact ⟨_, _, hh.2⟩
end Ev
end Go.Proofs.YtlbjnkopbabcnaaGreatDoor
end


section
namespace Go.Proofs.YtlbjnkopbabcnaaGreatDoor
namespace Ev
set_option linter.unusedVariables false
set_option linter.unusedSimpArgs false
variable {ι ι' : Im} {D : Nat → Prop} {h h' : Hp} {w w' : World} {P : Program} {t : T} {nt : Nat} {a : Act} {ih : Ih} {ro : Option Nat} {v : V} {x : X} {s s' s1 : St} {m : Nat} {o : Oper} {bar : Bool} {ops : Array Oper}
noncomputable def lkd (s : St) : St := ⟨s.t, s.nt, ⟨s.h.nx, s.h.tr, s.h.nx⟩, s.df, s.ro⟩
noncomputable def unl (s u : St) : St := ⟨u.t, u.nt, ⟨u.h.nx, u.h.tr, s.h.lw⟩, u.df, u.ro⟩
/-- one step of the reckoner within a region that draws -/
def Cell (P : Program) (nt : Nat) (ops : Array Oper) (ih : Ih) (bar : Bool) (o : Oper) (s s1 : St) (v : V) : Prop :=
  (Does P nt ops o ih s s1 v ∧ (kindO o ≠ 3 ∨ bar = true)) ∨ (kindO o = 3 ∧ bar = false ∧ ∃ u, Does P nt ops o ih (lkd s) u v ∧ s.h.nx ≤ u.h.lw ∧ s1 = unl s u)
/-- what a step does to the heap as it is reckoned -/
structure Facts (nt : Nat) (bar : Bool) (o : Oper) (s s1 : St) : Prop where
  nx : s.h.nx ≤ s1.h.nx
  n9 : s1.h.nx ≤ 1000000000
  lw : s1.h.lw ≤ s.h.lw
  below : ∀ k, k < s.h.nx → k < s1.h.lw → s1.h.at_ k = s.h.at_ k
  same : ¬ (kindO o = 3 ∧ bar = true) → ∀ k, k < s.h.nx → ¬ (kindO o = 2 ∧ Tgt nt s.t o k) → s1.h.at_ k = s.h.at_ k
/-- and to the world -/
structure StepR (ι : Im) (nt : Nat) (bar : Bool) (o : Oper) (s s1 : St) (w : World) (ι' : Im) (w' : World) : Prop where
  fa : Facts nt bar o s s1
  out : ∀ k, (k < s.h.nx ∨ s1.h.nx ≤ k) → ι' k = ι k
  kap : ∀ b, b < w.heap.size → ι'.κ b = ι.κ b
  new : ¬ (kindO o = 3 ∧ bar = true) → ∀ k b, s.h.nx ≤ k → k < s1.h.nx → ι' k = some b → w.heap.size ≤ b
  lnew : ∀ k b, s.h.nx ≤ k → k < s1.h.nx → ι' k = some b → w.heap.size ≤ b ∨ ∃ k0, k0 < s.h.nx ∧ s1.h.lw ≤ k0 ∧ ι k0 = some b
  fr : ¬ (kindO o = 3 ∧ bar = true) → ∀ b, b < w.heap.size → w'.heap[b]? = w.heap[b]? ∨ ∃ k, kindO o = 2 ∧ Tgt nt s.t o k ∧ ι k = some b ∧ k < s.h.nx ∧ (s.h.at_ k).tg = 0
  lfr : ∀ b, b < w.heap.size → (∀ k, k < s.h.nx → s1.h.lw ≤ k → ι k ≠ some b) → w'.heap[b]? = w.heap[b]?
  sz : w.heap.size ≤ w'.heap.size
  os : w'.os = w.os
  tape : w'.tape = w.tape
  output : w'.output = w.output
  wl : Wld ι' (fun k => Dn nt s.t o k ∨ s.h.nx ≤ k) s1.h w'
  st2 : kindO o = 2 → s1.h = s.h ∨ ∃ k, Tgt nt s.t o k ∧ (s.h.at_ k).tg = 0
theorem kind_lt (o : Oper) : kindO o ≤ 3 := by
  unfold kindO
  split
  all_goals first | decide | (split <;> decide)
theorem step_of (hw : Wld ι (Dn nt s.t o) s.h w) (htp : Top ι s.h) (st : Stp ι (Dn nt s.t o) s.h w ι' s1.h w') (he : Eff nt o s.t s.h s1.h w w') (hb : kindO o ≠ 3 ∨ bar = true) : StepR ι nt bar o s s1 w ι' w' := by
  have k0 : kindO o = 0 → ∀ k, ¬ Dn nt s.t o k := fun e k q => by rcases q with q | ⟨q, _⟩ <;> omega
  have k3 := kind_lt o
  have nb : ¬ (kindO o = 3 ∧ bar = true) → kindO o = 0 ∨ kindO o = 1 ∨ kindO o = 2 := fun q => by
    rcases hb with hb | hb
    · omega
    · have : kindO o ≠ 3 := fun e => q ⟨e, hb⟩
      omega
  refine ⟨⟨st.nx, st.wl.nx, st.lw, fun k q1 q2 => st.same k q1 (.inr q2), fun q k q1 q2 => ?_⟩, st.out, st.kap, fun q k b q1 q2 q3 => ?_, fun k b q1 q2 q3 => ?_, fun q b q1 => ?_, fun b q1 q2 => ?_, st.sz, st.os, st.tape, st.output, st.wl, fun e => (he.2 e).imp (fun q => q.2) (fun ⟨k1, p1, p2, _⟩ => ⟨k1, p1, p2⟩)⟩
  · rcases nb q with e | e | e
    · exact st.same k q1 (.inl (k0 e k))
    · rw [(he.1 e).2]
    · rcases he.2 e with ⟨_, e2⟩ | ⟨k1, p1, p2, p3, p4⟩
      · rw [e2]
      · exact p4 k q1 (fun e3 => q2 ⟨e, by subst e3; exact p1⟩)
  · rcases nb q with e | e | e
    · rcases st.new k b q1 q2 q3 with p | ⟨k1, _, p, _⟩
      · exact p
      · exact absurd p (k0 e k1)
    · rw [(he.1 e).2] at q2; omega
    · rcases he.2 e with ⟨_, e2⟩ | ⟨k1, p1, p2, p3, p4⟩
      · rw [e2] at q2; omega
      · rw [p3] at q2; omega
  · rcases st.new k b q1 q2 q3 with p | ⟨k1, p1, _, p2, p3⟩
    · exact .inl p
    · exact .inr ⟨k1, p1, p2, p3⟩
  · rcases nb q with e | e | e
    · exact .inl (st.fr b q1 (fun k _ p => absurd p (k0 e k)))
    · exact .inl (by rw [(he.1 e).1])
    · rcases he.2 e with ⟨e1, _⟩ | ⟨k1, p1, p2, p3, p4⟩
      · exact .inl (by rw [e1])
      · by_cases c : ι k1 = some b
        · refine .inr ⟨k1, e, p1, c, ?_, p2⟩
          by_cases c2 : k1 < s.h.nx
          · exact c2
          · rw [htp k1 (by omega)] at c; cases c
        · refine .inl (st.fr b q1 (fun k _ p _ => ?_))
          rcases p with p | ⟨_, p⟩
          · omega
          · obtain ⟨f, r1, r2, r3⟩ := p
            obtain ⟨g, t1, t2, t3⟩ := p1
            rw [t1] at r1
            injection r1 with r1
            subst r1
            rw [← r3, t3]; exact c
  · exact st.fr b q1 (fun k p1 _ p2 => q2 k p1 p2)
theorem step_lk {u : St} (hk : kindO o = 3) (hbf : bar = false) (st : Stp ι (Dn nt s.t o) (lkd s).h w ι' u.h w') (hl : s.h.nx ≤ u.h.lw) : StepR ι nt bar o s (unl s u) w ι' w' := by
  have hall : ∀ k, Dn nt s.t o k := fun k => .inl hk
  have hfr : ∀ b, b < w.heap.size → w'.heap[b]? = w.heap[b]? := fun b hb => st.fr b hb (fun k p1 _ p2 => by
    have p1 : k < s.h.nx := p1
    omega)
  have hnew : ∀ k b, s.h.nx ≤ k → k < u.h.nx → ι' k = some b → w.heap.size ≤ b := fun k b q1 q2 q3 => by
    rcases st.new k b q1 q2 q3 with p | ⟨k1, p1, _, p2, _⟩
    · exact p
    · have p1 : k1 < s.h.nx := p1
      omega
  have hs : ∀ k, k < s.h.nx → (unl s u).h.at_ k = s.h.at_ k := fun k q1 => st.same k q1 (.inr (by omega))
  refine ⟨⟨st.nx, st.wl.nx, Nat.le_refl _, fun k q1 q2 => hs k q1, fun q k q1 q2 => hs k q1⟩, st.out, st.kap, fun q k b q1 q2 q3 => hnew k b q1 q2 q3, fun k b q1 q2 q3 => .inl (hnew k b q1 q2 q3), fun q b q1 => .inl (hfr b q1), fun b q1 _ => hfr b q1, st.sz, st.os, st.tape, st.output, ?_, fun e => absurd e (by omega)⟩
  exact ⟨st.wl.nx, st.wl.ob, st.wl.lt, st.wl.inj, st.wl.gl⟩
theorem cell_ok (hi : SoundC P ih) {i : Nat} {r : Option Nat} (hc : Cell P nt ops ih bar o s s1 v) (hio : ops[i]? = some o) (hO : Opd ι nt s.t a o.op.operands)
    (hG : ∀ d, gdT ops o = some d → d < a.tmps.size ∧ ∀ g, tget d = some g → VR ι (g s.t) (a.tmps.getD d undef)) (hw : Wld ι (Dn nt s.t o) s.h w) (htp : Top ι s.h) {K : Act → World → Prop} {Q : Exit → Act → World → Prop}
    (hK : ∀ v' w' ι', StepR ι nt bar o s s1 w ι' w' → VR ι' v v' → K (a.put o.dst v') w') : wpOpIn (FW r) m P ops Q i K a w := by
  rcases hc with ⟨hd, hb⟩ | ⟨hk, hbf, u, hd, hl, rfl⟩
  · exact does_ok2 hi hd hio hO hG hw htp (fun k q => q) fun v' w' ι' st hv he => hK v' w' ι' (step_of hw htp st he hb) hv
  · refine does_ok2 hi (s := lkd s) hd hio hO hG (D := Dn nt s.t o) ⟨hw.nx, hw.ob, hw.lt, hw.inj, hw.gl⟩ htp (fun k q => q) fun v' w' ι' st hv he => hK v' w' ι' (step_lk hk hbf st hl) hv
/-- the rest that a step keeps -/
theorem cell_put (hc : Cell P nt ops ih bar o s s1 v) : PutT o.dst v s.t s1.t ∧ s1.nt = s.nt ∧ s1.df = s.df ∧ s1.ro = s.ro ∧ ∀ d, gdT ops o = some d → d < nt := by
  have gd : ∀ {s s1 : St}, Does P nt ops o ih s s1 v → ∀ d, gdT ops o = some d → d < nt := by
    intro s s1 hd d e
    obtain ⟨_, _, _, _, _, hgd, -⟩ := hd
    cases hg : o.guard with
    | none => unfold gdT at e; rw [hg] at e; cases e
    | some jw =>
      obtain ⟨j, want⟩ := jw
      obtain ⟨d', g, q1, q2, -⟩ := hgd j want hg
      unfold gdT at e; rw [hg] at e
      have e' : (ops[j]?).bind (·.dst) = some d := e
      rw [q1] at e'; injection e' with e'; subst e'
      exact q2
  rcases hc with ⟨hd, _⟩ | ⟨_, _, u, hd, _, rfl⟩
  · exact ⟨hd.1, hd.2.1, hd.2.2.1, hd.2.2.2.1, gd hd⟩
  · exact ⟨hd.1, hd.2.1, hd.2.2.1, hd.2.2.2.1, gd hd⟩
end Ev
end Go.Proofs.YtlbjnkopbabcnaaGreatDoor
end


section
namespace Go.Proofs.YtlbjnkopbabcnaaGreatDoor
namespace Ev
set_option linter.unusedVariables false
set_option linter.unusedSimpArgs false
variable {P : Program} {nt : Nat} {ih : Ih} {ops : Array Oper} {bar : Nat → Bool} {st : Nat → St} {vv : Nat → V} {m : Nat}
def Runs (P : Program) (nt : Nat) (ops : Array Oper) (ih : Ih) (bar : Nat → Bool) (st : Nat → St) (vv : Nat → V) : Prop := ∀ i o, ops[i]? = some o → Cell P nt ops ih (bar i) o (st i) (st (i + 1)) (vv i)
/-- in the order of the text: what each step does to the heap as it is reckoned -/
theorem can_facts (hi : SoundC P ih) (hR : Runs P nt ops ih bar st vv) {ι : Im} {D : Nat → Prop} {a : Act} {w : World} (hall : ∀ k, D k) (hw : Wld ι D (st 0).h w) (htp : Top ι (st 0).h) (ht : TmR ι (st 0).t nt a.tmps) :
    ∀ i o, ops[i]? = some o → Facts nt (bar i) o (st i) (st (i + 1)) := by
  have key : ∀ i, i ≤ ops.size → ∃ (ι : Im) (a : Act) (w : World), Wld ι (fun _ => True) (st i).h w ∧ Top ι (st i).h ∧ TmR ι (st i).t nt a.tmps := by
    intro i
    induction i with
    | zero => exact fun _ => ⟨ι, a, w, hw.sub fun k _ => hall k, htp, ht⟩
    | succ i IH =>
      intro hle
      obtain ⟨ι, a, w, hw, htp, ht⟩ := IH (by omega)
      have hio : ops[i]? = some ops[i] := Array.getElem?_eq_getElem (by omega)
      have hc := hR i _ hio
      have hG : ∀ d, gdT ops ops[i] = some d → d < a.tmps.size ∧ ∀ g, tget d = some g → VR ι (g (st i).t) (a.tmps.getD d undef) := fun d e => by
        have := (cell_put hc).2.2.2.2 d e
        exact ⟨by rw [ht.1]; exact this, fun g hg => ht.2 d g this hg⟩
      have hput := (cell_put hc).1
      rcases hc with ⟨hd, hb⟩ | ⟨hk, hbf, u, hd, hl, e1⟩
      · obtain ⟨a', w', q⟩ := wpOp_ex (P := P) (m := 0) (ops := ops) (i := i) (K := fun a' w' => ∃ ι, Wld ι (fun _ => True) (st (i + 1)).h w' ∧ Top ι (st (i + 1)).h ∧ TmR ι (st (i + 1)).t nt a'.tmps)
          (does_ok hi hd hio (ht.opd hw.gl _) hG hw htp (need_all fun _ => trivial) fun v' w' ι' st' hv => ⟨ι', st'.wl.sub fun k _ => .inl trivial, htp.step st', putT_ok hput (ht.mono (st'.extT htp hw)) hv⟩)
        obtain ⟨ι', q⟩ := q
        exact ⟨ι', a', w', q⟩
      · obtain ⟨a', w', q⟩ := wpOp_ex (P := P) (m := 0) (ops := ops) (i := i) (K := fun a' w' => ∃ ι, Wld ι (fun _ => True) (st (i + 1)).h w' ∧ Top ι (st (i + 1)).h ∧ TmR ι (st (i + 1)).t nt a'.tmps)
          (does_ok hi (s := lkd (st i)) (D := fun _ => True) hd hio (ht.opd hw.gl _) hG ⟨hw.nx, hw.ob, hw.lt, hw.inj, hw.gl⟩ htp (need_all fun _ => trivial) fun v' w' ι' st' hv => by
            have hw0 : Wld ι (fun _ => True) (lkd (st i)).h w := ⟨hw.nx, hw.ob, hw.lt, hw.inj, hw.gl⟩
            have hx := st'.extT (h := (lkd (st i)).h) htp hw0
            have htp' : Top ι (lkd (st i)).h := htp
            have ht2 := htp'.step st'
            refine ⟨ι', ?_, ?_, putT_ok hput (ht.mono hx) hv⟩
            · rw [e1]; exact ⟨st'.wl.nx, fun k b _ => st'.wl.ob k b (.inl trivial), st'.wl.lt, fun k k' b _ _ => st'.wl.inj k k' b (.inl trivial) (.inl trivial), st'.wl.gl⟩
            · rw [e1]; exact ht2)
        obtain ⟨ι', q⟩ := q
        exact ⟨ι', a', w', q⟩
  intro i o hio
  have hlt : i < ops.size := (Array.getElem?_eq_some_iff.1 hio).1
  obtain ⟨ι, a, w, hw, htp, ht⟩ := key i (by omega)
  have hc := hR i o hio
  obtain ⟨a', w', q⟩ := wpOp_ex (P := P) (m := 0) (ops := ops) (i := i) (K := fun a' w' => Facts nt (bar i) o (st i) (st (i + 1)))
    (cell_ok hi hc hio (ht.opd hw.gl _) (fun d e => by
        have := (cell_put hc).2.2.2.2 d e
        exact ⟨by rw [ht.1]; exact this, fun g hg => ht.2 d g this hg⟩) (hw.sub fun k _ => trivial) htp fun v' w' ι' sr hv => sr.fa)
  exact q
/-- a part of the numbers -/
def lmt (ι : Im) (n : Nat) : Im := ⟨fun k => if k < n then ι k else none, ι.κ⟩
theorem lmt_some {ι : Im} {n k b : Nat} (h : lmt ι n k = some b) : k < n ∧ ι k = some b := by
  have h : (if k < n then ι k else none) = some b := h
  split at h
  · exact ⟨by assumption, h⟩
  · cases h
theorem lmt_of {ι : Im} {n k : Nat} (h : k < n) : lmt ι n k = ι k := if_pos h
theorem lmt_ext {ι : Im} {n n' : Nat} (h : n ≤ n') : Ext (lmt ι n) (lmt ι n') := fun k b q => by
  obtain ⟨q1, q2⟩ := lmt_some q
  exact ⟨by rw [lmt_of (by omega)]; exact q2, rfl⟩
theorem lmt_all {ι : Im} {n : Nat} : Ext (lmt ι n) ι := fun k b q => ⟨(lmt_some q).2, rfl⟩
/-- it writes the block, or may write each -/
def touch (nt : Nat) (ops : Array Oper) (bar : Nat → Bool) (st : Nat → St) (i k : Nat) : Prop := ∃ o, ops[i]? = some o ∧ ((kindO o = 3 ∧ bar i = true) ∨ (kindO o = 2 ∧ Tgt nt (st i).t o k))
def dstO (ops : Array Oper) (i : Nat) : Option Nat := (ops[i]?).bind (·.dst)
structure Free (nt : Nat) (ops : Array Oper) (bar : Nat → Bool) (st : Nat → St) (i j : Nat) : Prop where
  nm : ∀ o d, ops[i]? = some o → dstO ops j = some d → d ∉ namesT ops o
  nm' : ∀ o d, ops[j]? = some o → dstO ops i = some d → d ∉ namesT ops o
  dn : ∀ o k, ops[i]? = some o → touch nt ops bar st j k → ¬ Dn nt (st i).t o k
  dn' : ∀ o k, ops[j]? = some o → touch nt ops bar st i k → ¬ Dn nt (st j).t o k
  nb : ∀ o, ops[i]? = some o → ¬ (kindO o = 3 ∧ bar i = true)
  nb' : ∀ o, ops[j]? = some o → ¬ (kindO o = 3 ∧ bar j = true)
/-- where the object of a block was last turned -/
structure Cur (nt : Nat) (ops : Array Oper) (bar : Nat → Bool) (st : Nat → St) (S : Nat → Prop) (k p : Nat) : Prop where
  lt : k < (st p).h.nx
  le : p ≤ ops.size
  at_ : p = 0 ∨ ∃ j, S j ∧ p = j + 1 ∧ (touch nt ops bar st j k ∨ (st j).h.nx ≤ k)
  no : ∀ j, S j → p ≤ j → ¬ touch nt ops bar st j k
structure Inv (nt : Nat) (ops : Array Oper) (bar : Nat → Bool) (st : Nat → St) (ι0 : Im) (a0 : Act) (w0 : World) (S : Nat → Prop) (ι : Im) (a : Act) (w : World) : Prop where
  sn : ∀ i, S i → i < ops.size
  i1 : ∀ k, k < (st 0).h.nx → ι k = ι0 k
  i2 : ∀ k, (st 0).h.nx ≤ k → ι k ≠ none → ∃ i, S i ∧ (st i).h.nx ≤ k ∧ k < (st (i + 1)).h.nx
  tsz : a.tmps.size = nt
  tm : ∀ d g, d < nt → tget d = some g → ∃ p, (p = 0 ∨ ∃ j, S j ∧ p = j + 1 ∧ dstO ops j = some d) ∧ p ≤ ops.size ∧ VR (lmt ι (st p).h.nx) (g (st p).t) (a.tmps.getD d undef) ∧ ∀ j, S j → p ≤ j → dstO ops j ≠ some d
  ob : ∀ k b, ι k = some b → ∃ p, Cur nt ops bar st S k p ∧ ObR (lmt ι (st p).h.nx) ((st p).h.at_ k) w b
  inj : ∀ k k' b p p', k ≠ k' → ι k = some b → ι k' = some b → Cur nt ops bar st S k p → Cur nt ops bar st S k' p' → Sep ((st p).h.at_ k) ((st p').h.at_ k')
  lt : ∀ k b, ι k = some b → b < w.heap.size
  tch : ∀ j k o, S j → ops[j]? = some o → kindO o = 2 → Tgt nt (st j).t o k → ι k ≠ none
  kap : ∀ b, b < w0.heap.size → ι.κ b = ι0.κ b
  lnew : ∀ k b, (st 0).h.nx ≤ k → ι k = some b → w0.heap.size ≤ b ∨ ∃ k0, k0 < (st 0).h.nx ∧ (st ops.size).h.lw ≤ k0 ∧ ι0 k0 = some b
  fr : ∀ b, b < w0.heap.size → (∀ k, k < (st 0).h.nx → (st ops.size).h.lw ≤ k → ι0 k ≠ some b) → w.heap[b]? = w0.heap[b]?
  sz : w0.heap.size ≤ w.heap.size
  os : w.os = w0.os
  tape : w.tape = w0.tape
  output : w.output = w0.output
  df : a.defers = a0.defers
  gl : ∀ g k, gmap g = some k → k < (st 0).h.nx ∧ ι k = some g
section chain
variable (hF : ∀ i o, ops[i]? = some o → Facts nt (bar i) o (st i) (st (i + 1)))
include hF
theorem nx_le {p q : Nat} (hpq : p ≤ q) (hq : q ≤ ops.size) : (st p).h.nx ≤ (st q).h.nx := by
  induction q with
  | zero => have : p = 0 := by omega
            subst this; exact Nat.le_refl _
  | succ q ih =>
    by_cases c : p = q + 1
    · subst c; exact Nat.le_refl _
    · exact Nat.le_trans (ih (by omega) (by omega)) (hF q _ (Array.getElem?_eq_getElem (by omega))).nx
theorem lw_le {p q : Nat} (hpq : p ≤ q) (hq : q ≤ ops.size) : (st q).h.lw ≤ (st p).h.lw := by
  induction q with
  | zero => have : p = 0 := by omega
            subst this; exact Nat.le_refl _
  | succ q ih =>
    by_cases c : p = q + 1
    · subst c; exact Nat.le_refl _
    · exact Nat.le_trans (hF q _ (Array.getElem?_eq_getElem (by omega))).lw (ih (by omega) (by omega))
theorem at_same {p q k : Nat} (hpq : p ≤ q) (hq : q ≤ ops.size) (hk : k < (st p).h.nx) (ht : ∀ j, p ≤ j → j < q → ¬ touch nt ops bar st j k) : (st q).h.at_ k = (st p).h.at_ k := by
  induction q with
  | zero => have : p = 0 := by omega
            subst this; rfl
  | succ q ih =>
    by_cases c : p = q + 1
    · subst c; rfl
    · have hio : ops[q]? = some ops[q] := Array.getElem?_eq_getElem (by omega)
      have hn := ht q (by omega) (by omega)
      rw [← ih (by omega) (by omega) (fun j h1 h2 => ht j h1 (by omega))]
      exact (hF q _ hio).same (fun e => hn ⟨_, hio, .inl e⟩) k (Nat.lt_of_lt_of_le hk (nx_le hF (by omega) (by omega))) (fun e => hn ⟨_, hio, .inr e⟩)
theorem at_below {p q k : Nat} (hpq : p ≤ q) (hq : q ≤ ops.size) (hk : k < (st p).h.nx) (hl : k < (st q).h.lw) : (st q).h.at_ k = (st p).h.at_ k := by
  induction q with
  | zero => have : p = 0 := by omega
            subst this; rfl
  | succ q ih =>
    by_cases c : p = q + 1
    · subst c; rfl
    · have hf := hF q _ (Array.getElem?_eq_getElem (by omega))
      rw [← ih (by omega) (by omega) (Nat.lt_of_lt_of_le hl hf.lw)]
      exact hf.below k (Nat.lt_of_lt_of_le hk (nx_le hF (by omega) (by omega))) hl
end chain
theorem tmp_same (hR : Runs P nt ops ih bar st vv) {p q d : Nat} {g : T → V} (hg : tget d = some g) (hpq : p ≤ q) (hq : q ≤ ops.size) (ht : ∀ j, p ≤ j → j < q → dstO ops j ≠ some d) : g (st q).t = g (st p).t := by
  induction q with
  | zero => have : p = 0 := by omega
            subst this; rfl
  | succ q ih =>
    by_cases c : p = q + 1
    · subst c; rfl
    · have hio : ops[q]? = some ops[q] := Array.getElem?_eq_getElem (by omega)
      rw [← ih (by omega) (by omega) (fun j h1 h2 => ht j h1 (by omega))]
      have hp := (cell_put (hR q _ hio)).1
      have hn : ops[q].dst ≠ some d := fun e => ht q (by omega) (by omega) (by unfold dstO; rw [hio]; exact e)
      unfold PutT at hp
      split at hp
      · rw [hp]
      · rename_i d' e
        obtain ⟨f, h1, hp⟩ := hp
        rw [hp, tget_tset hg h1, if_neg (fun e2 => hn (by subst e2; exact e))]
end Ev
end Go.Proofs.YtlbjnkopbabcnaaGreatDoor
end


section
namespace Go.Proofs.YtlbjnkopbabcnaaGreatDoor
namespace Ev
set_option linter.unusedVariables false
set_option linter.unusedSimpArgs false
set_option linter.unusedSectionVars false
variable {P : Program} {nt : Nat} {ih : Ih} {ops : Array Oper} {bar : Nat → Bool} {st : Nat → St} {vv : Nat → V} {m : Nat} {ι0 ι : Im} {a0 a : Act} {w0 w : World} {S : Nat → Prop} {i : Nat} {o : Oper}
theorem opN_mem {l : List Operand} {d : Nat} (h : Operand.tmp d ∈ l) : d ∈ opN l := by
  induction l with
  | nil => cases h
  | cons x l ih =>
    rcases List.mem_cons.1 h with rfl | h
    · exact List.mem_cons_self
    · have := ih h
      cases x <;> first | exact this | exact List.mem_cons_of_mem _ this
theorem opd_names {t : T} {xs : Array Operand} (hg : GlR ι) (h : ∀ d g, d ∈ opN xs.toList → d < nt → tget d = some g → VR ι (g t) (a.tmps.getD d undef)) : Opd ι nt t a xs := by
  intro x hx f hf
  cases x with
  | tmp i =>
    obtain ⟨h1, h2⟩ := grd_some hf
    exact h i f (opN_mem (by simpa using hx)) (blt_lt h1) h2
  | const v =>
    obtain ⟨x, h1, h2⟩ := bnd_some hf
    injection h2 with h2
    subst h2
    exact cV_ok h1
  | global g =>
    obtain ⟨k, h1, h2⟩ := bnd_some hf
    injection h2 with h2
    subst h2
    exact .ptr 0 (hg g k h1)
  | func f' =>
    injection hf with hf
    subst hf
    exact .fn _ .nil .nil
theorem Tgt.uniq {t : T} {k k' : Nat} (h : Tgt nt t o k) (h' : Tgt nt t o k') : k = k' := by
  obtain ⟨f, a1, _, a3⟩ := h
  obtain ⟨g, b1, _, b3⟩ := h'
  rw [a1] at b1
  injection b1 with b1
  subst b1
  exact a3.symm.trans b3
theorem addr_mem {f : T → V} (h : addrO nt o = some f) : ∃ x, x ∈ o.op.operands ∧ cO nt x = some f := by
  unfold addrO at h
  split at h
  · rename_i ho; exact ⟨_, by rw [ho]; simp [Op.operands], h⟩
  · rename_i ho; exact ⟨_, by rw [ho]; simp [Op.operands], h⟩
  · cases h
/-- the new numbers beside the old -/
def mrg (ι ι' : Im) (lo hi : Nat) : Im := ⟨fun k => if lo ≤ k ∧ k < hi then ι' k else ι k, ι'.κ⟩
section
variable (hR : Runs P nt ops ih bar st vv) (hF : ∀ i o, ops[i]? = some o → Facts nt (bar i) o (st i) (st (i + 1)))
variable (hI : Inv nt ops bar st ι0 a0 w0 S ι a w) (hio : ops[i]? = some o) (hS : ¬ S i) (h1 : ∀ j, j < i → ¬ S j → Free nt ops bar st i j) (h2 : ∀ j, S j → i < j → Free nt ops bar st i j)
include hF hI hio hS h1 h2
/-- a block that the operation may meet is as it is in the order of the text -/
theorem cur_at {k p : Nat} (hd : Dn nt (st i).t o k) (hk : k < (st i).h.nx) (hc : Cur nt ops bar st S k p) : p ≤ i ∧ (st i).h.at_ k = (st p).h.at_ k := by
  have hil : i < ops.size := (Array.getElem?_eq_some_iff.1 hio).1
  have hp : p ≤ i := by
    rcases hc.at_ with e | ⟨j, j1, j2, j3⟩
    · omega
    · by_cases c : j < i
      · omega
      · have hne : j ≠ i := fun e => hS (by subst e; exact j1)
        have hf := h2 j j1 (by omega)
        rcases j3 with j3 | j3
        · exact absurd hd (hf.dn o k hio j3)
        · have := nx_le hF (p := i) (q := j) (by omega) (by have := hI.sn j j1; omega)
          omega
  refine ⟨hp, at_same hF hp (by omega) hc.lt fun j q1 q2 q3 => ?_⟩
  by_cases c : S j
  · exact hc.no j c q1 q3
  · exact (h1 j q2 c).dn o k hio q3 hd
include hR
theorem tm_at {d : Nat} {g : T → V} (hn : d ∈ namesT ops o) (hd : d < nt) (hg : tget d = some g) : VR (lmt ι (st i).h.nx) (g (st i).t) (a.tmps.getD d undef) := by
  have hil : i < ops.size := (Array.getElem?_eq_some_iff.1 hio).1
  obtain ⟨p, p1, p2, p3, p4⟩ := hI.tm d g hd hg
  have hp : p ≤ i := by
    rcases p1 with e | ⟨j, j1, j2, j3⟩
    · omega
    · by_cases c : j < i
      · omega
      · have hne : j ≠ i := fun e => hS (by subst e; exact j1)
        exact absurd hn ((h2 j j1 (by omega)).nm o d hio j3)
  rw [tmp_same hR hg hp (by omega) fun j q1 q2 q3 => ?_]
  · exact p3.mono (lmt_ext (nx_le hF hp (by omega)))
  · by_cases c : S j
    · exact p4 j c q1 q3
    · exact (h1 j q2 c).nm o d hio q3 hn
theorem wl_at : Wld (lmt ι (st i).h.nx) (Dn nt (st i).t o) (st i).h w := by
  have hf := hF i o hio
  have n1 := hf.nx
  have n2 := hf.n9
  refine ⟨by omega, fun k b hd hk hb => ?_, fun k b hb => hI.lt k b (lmt_some hb).2, fun k k' b hd hd' hk hk' hne e1 e2 => ?_, fun g k e => by
    have q := hI.gl g k e
    have hil : i < ops.size := (Array.getElem?_eq_some_iff.1 hio).1
    rw [lmt_of (Nat.lt_of_lt_of_le q.1 (nx_le hF (Nat.zero_le i) (by omega)))]
    exact q.2⟩
  · obtain ⟨p, hc, ho⟩ := hI.ob k b (lmt_some hb).2
    obtain ⟨q1, q2⟩ := cur_at hF hI hio hS h1 h2 hd hk hc
    rw [q2]
    have hil : i < ops.size := (Array.getElem?_eq_some_iff.1 hio).1
    exact ho.mono (lmt_ext (nx_le hF q1 (by omega))) rfl rfl
  · obtain ⟨p, hc, _⟩ := hI.ob k b (lmt_some e1).2
    obtain ⟨p', hc', _⟩ := hI.ob k' b (lmt_some e2).2
    rw [(cur_at hF hI hio hS h1 h2 hd hk hc).2, (cur_at hF hI hio hS h1 h2 hd' hk' hc').2]
    exact hI.inj k k' b p p' hne (lmt_some e1).2 (lmt_some e2).2 hc hc'
theorem new_none {k : Nat} (q1 : (st i).h.nx ≤ k) (q2 : k < (st (i + 1)).h.nx) : ι k = none := by
  have hil : i < ops.size := (Array.getElem?_eq_some_iff.1 hio).1
  cases e : ι k with
  | none => rfl
  | some b =>
    exfalso
    obtain ⟨j, j1, j2, j3⟩ := hI.i2 k (Nat.le_trans (nx_le hF (Nat.zero_le i) (by omega)) q1) (by rw [e]; simp)
    have hj := hI.sn j j1
    rcases Nat.lt_trichotomy j i with c | c | c
    · have := nx_le hF (p := j + 1) (q := i) (by omega) (by omega); omega
    · exact hS (by subst c; exact j1)
    · have := nx_le hF (p := i + 1) (q := j) (by omega) (by omega); omega
end
end Ev
end Go.Proofs.YtlbjnkopbabcnaaGreatDoor
end


section
namespace Go.Proofs.YtlbjnkopbabcnaaGreatDoor
namespace Ev
set_option linter.unusedVariables false
set_option linter.unusedSimpArgs false
set_option linter.unusedSectionVars false
variable {P : Program} {nt : Nat} {ih : Ih} {ops : Array Oper} {bar : Nat → Bool} {st : Nat → St} {vv : Nat → V} {m : Nat} {ι0 ι ι1 : Im} {a0 a : Act} {w0 w w' : World} {S : Nat → Prop} {i : Nat} {o : Oper}
section
variable (hR : Runs P nt ops ih bar st vv) (hF : ∀ i o, ops[i]? = some o → Facts nt (bar i) o (st i) (st (i + 1)))
variable (hI : Inv nt ops bar st ι0 a0 w0 S ι a w) (hio : ops[i]? = some o) (hS : ¬ S i) (h1 : ∀ j, j < i → ¬ S j → Free nt ops bar st i j) (h2 : ∀ j, S j → i < j → Free nt ops bar st i j)
variable (sr : StepR (lmt ι (st i).h.nx) nt (bar i) o (st i) (st (i + 1)) w ι1 w') (hT : ∀ k, kindO o = 2 → Tgt nt (st i).t o k → lmt ι (st i).h.nx k ≠ none)
include hR hF hI hio hS h1 h2 sr
theorem mrg_ext : Ext ι (mrg ι ι1 (st i).h.nx (st (i + 1)).h.nx) := by
  intro k b hk
  refine ⟨?_, sr.kap b (hI.lt k b hk)⟩
  show (if (st i).h.nx ≤ k ∧ k < (st (i + 1)).h.nx then ι1 k else ι k) = some b
  split
  · rename_i c
    rw [new_none hR hF hI hio hS h1 h2 c.1 c.2] at hk
    cases hk
  · exact hk
theorem mrg_ext1 : Ext ι1 (lmt (mrg ι ι1 (st i).h.nx (st (i + 1)).h.nx) (st (i + 1)).h.nx) := by
  intro k b hk
  refine ⟨?_, rfl⟩
  have hnx := sr.fa.nx
  have hlt : k < (st (i + 1)).h.nx := by
    by_cases c : k < (st (i + 1)).h.nx
    · exact c
    · rw [sr.out k (.inr (by omega))] at hk
      have := (lmt_some hk).1
      omega
  rw [lmt_of hlt]
  show (if (st i).h.nx ≤ k ∧ k < (st (i + 1)).h.nx then ι1 k else ι k) = some b
  by_cases c : (st i).h.nx ≤ k
  · rw [if_pos ⟨c, hlt⟩]; exact hk
  · rw [if_neg (fun e => c e.1)]
    rw [sr.out k (.inl (by omega))] at hk
    exact (lmt_some hk).2
omit hR hF hI hio hS h1 h2 sr in
theorem lmt_mono {ι ι' : Im} {n : Nat} (he : Ext ι ι') : Ext (lmt ι n) (lmt ι' n) := fun k b q => by
  obtain ⟨q1, q2⟩ := lmt_some q
  exact ⟨by rw [lmt_of q1]; exact (he k b q2).1, (he k b q2).2⟩
theorem not_new_touch {k j : Nat} (q1 : (st i).h.nx ≤ k) (q2 : k < (st (i + 1)).h.nx) (hj : S j) (hij : i < j) : ¬ touch nt ops bar st j k := by
  rintro ⟨oj, e, q | q⟩
  · exact (h2 j hj hij).nb' oj e q
  · exact hI.tch j k oj hj e q.1 q.2 (new_none hR hF hI hio hS h1 h2 q1 q2)
/-- what a block's last turn was, before -/
theorem cur_cases {k p : Nat} (hc : Cur nt ops bar st (fun j => S j ∨ j = i) k p) : (p = i + 1 ∧ (touch nt ops bar st i k ∨ (st i).h.nx ≤ k)) ∨ (Cur nt ops bar st S k p ∧ (p ≤ i → ¬ touch nt ops bar st i k)) := by
  have hno : p ≤ i → ¬ touch nt ops bar st i k := fun hp => hc.no i (.inr rfl) hp
  rcases hc.at_ with e | ⟨j, j1, j2, j3⟩
  · exact .inr ⟨⟨hc.lt, hc.le, .inl e, fun j hj => hc.no j (.inl hj)⟩, hno⟩
  · rcases j1 with j1 | j1
    · exact .inr ⟨⟨hc.lt, hc.le, .inr ⟨j, j1, j2, j3⟩, fun j hj => hc.no j (.inl hj)⟩, hno⟩
    · subst j1
      exact .inl ⟨j2, j3⟩
theorem bar_all (hb : kindO o = 3 ∧ bar i = true) {k b : Nat} (hk : ι k = some b) : k < (st i).h.nx := by
  have hil : i < ops.size := (Array.getElem?_eq_some_iff.1 hio).1
  by_cases c : k < (st 0).h.nx
  · exact Nat.lt_of_lt_of_le c (nx_le hF (Nat.zero_le i) (by omega))
  · obtain ⟨j, j1, j2, j3⟩ := hI.i2 k (by omega) (by rw [hk]; simp)
    rcases Nat.lt_trichotomy j i with q | q | q
    · exact Nat.lt_of_lt_of_le j3 (nx_le hF (by omega) (by omega))
    · exact absurd (by subst q; exact j1) hS
    · exact absurd hb ((h2 j j1 q).nb o hio)
include hT
theorem inv_step {v : V} {v' : Value} (hv : VR ι1 v v') (hp : PutT o.dst v (st i).t (st (i + 1)).t) :
    Inv nt ops bar st ι0 a0 w0 (fun j => S j ∨ j = i) (mrg ι ι1 (st i).h.nx (st (i + 1)).h.nx) (a.put o.dst v') w' := by
  have hil : i < ops.size := (Array.getElem?_eq_some_iff.1 hio).1
  have he := mrg_ext hR hF hI hio hS h1 h2 sr
  have he1 := mrg_ext1 hR hF hI hio hS h1 h2 sr
  have hnx := sr.fa.nx
  have hn0 := nx_le hF (Nat.zero_le i) (by omega)
  generalize hm : mrg ι ι1 (st i).h.nx (st (i + 1)).h.nx = ι' at he he1
  have mat : ∀ k, ι' k = if (st i).h.nx ≤ k ∧ k < (st (i + 1)).h.nx then ι1 k else ι k := fun k => by rw [← hm]; rfl
  have mk : ∀ b, ι'.κ b = ι1.κ b := fun b => by rw [← hm]; rfl
  -- a block that a store speaks of is of an old number
  have tlt : ∀ k, kindO o = 2 → Tgt nt (st i).t o k → k < (st i).h.nx ∧ ∃ b, ι k = some b := fun k e q => by
    have := hT k e q
    cases e2 : lmt ι (st i).h.nx k with
    | none => exact absurd e2 this
    | some b => exact ⟨(lmt_some e2).1, b, (lmt_some e2).2⟩
  -- old numbers stay
  have old : ∀ k b, ι' k = some b → ((st i).h.nx ≤ k ∧ k < (st (i + 1)).h.nx ∧ ι1 k = some b) ∨ ι k = some b := fun k b q => by
    rw [mat] at q
    split at q
    · rename_i c; exact .inl ⟨c.1, c.2, q⟩
    · exact .inr q
  -- a touched block
  have tou : ∀ k b, ι k = some b → touch nt ops bar st i k → k < (st i).h.nx ∧ Dn nt (st i).t o k ∧ ι1 k = some b ∧ ∀ j, S j → i < j → ¬ touch nt ops bar st j k := by
    intro k b hk ht
    obtain ⟨o', e, q⟩ := ht
    rw [hio] at e
    injection e with e
    subst e
    have hk' : k < (st i).h.nx := by
      rcases q with q | q
      · exact bar_all hR hF hI hio hS h1 h2 sr q hk
      · exact (tlt k q.1 q.2).1
    have hd : Dn nt (st i).t o k := by
      rcases q with q | q
      · exact .inl q.1
      · exact .inr ⟨by omega, q.2⟩
    refine ⟨hk', hd, ?_, fun j hj hij ht => (h2 j hj hij).dn o k hio ht hd⟩
    rw [sr.out k (.inl hk'), lmt_of hk']; exact hk
  -- the heap where nothing is touched
  have keep : ∀ k b p, ι k = some b → Cur nt ops bar st S k p → ¬ touch nt ops bar st i k → w'.heap[b]? = w.heap[b]? ∨ ((st p).h.at_ k).tg = 3 := by
    intro k b p hk hc hn
    by_cases hb : kindO o = 3 ∧ bar i = true
    · exact absurd ⟨o, hio, .inl hb⟩ hn
    · rcases sr.fr hb b (hI.lt k b hk) with q | ⟨k1, q1, q2, q3, q4, q5⟩
      · exact .inl q
      · obtain ⟨_, q3⟩ := lmt_some q3
        obtain ⟨p1, hc1, _⟩ := hI.ob k1 b q3
        have hne : k ≠ k1 := fun e => hn ⟨o, hio, .inr ⟨q1, by subst e; exact q2⟩⟩
        have hat := (cur_at hF hI hio hS h1 h2 (.inr ⟨by omega, q2⟩) q4 hc1).2
        exact .inr ((hI.inj k k1 b p p1 hne hk q3 hc hc1).r3 (by rw [← hat]; omega) (by rw [← hat]; omega))
  refine ⟨fun j hj => ?_, fun k hk => ?_, fun k hk hne => ?_, ?_, fun d g hd hg => ?_, fun k b hk => ?_, fun k k' b p p' hne hk hk' hc hc' => ?_, fun k b hk => ?_, fun j k oj hj hoj hkj htj => ?_, fun b hb => ?_, fun k b hk hkb => ?_, fun b hb hh => ?_, Nat.le_trans hI.sz sr.sz, sr.os.trans hI.os, sr.tape.trans hI.tape, sr.output.trans hI.output, ?_, fun g k e => ⟨(hI.gl g k e).1, (he k g (hI.gl g k e).2).1⟩⟩
  · rcases hj with hj | rfl
    · exact hI.sn j hj
    · exact hil
  · rw [mat, if_neg (by omega)]; exact hI.i1 k hk
  · rw [mat] at hne
    split at hne
    · rename_i c; exact ⟨i, .inr rfl, c.1, c.2⟩
    · obtain ⟨j, j1, j2⟩ := hI.i2 k hk hne
      exact ⟨j, .inl j1, j2⟩
  · rw [← hI.tsz]
    cases o.dst <;> simp [Act.put]
  · by_cases hdd : o.dst = some d
    · refine ⟨i + 1, .inr ⟨i, .inr rfl, rfl, by unfold dstO; rw [hio]; exact hdd⟩, by omega, ?_, fun j hj hij => ?_⟩
      · rw [hdd] at hp ⊢
        obtain ⟨f, q1, q2⟩ := hp
        rw [q2, tget_tset hg q1, if_pos rfl]
        have hsz := hI.tsz
        have : (a.put (some d) v').tmps.getD d undef = v' := by simp [Act.put, Array.getD, hsz, hd]
        rw [this]
        exact hv.mono he1
      · rcases hj with hj | rfl
        · intro e
          have hf := h2 j hj (by omega)
          have hj' := hI.sn j hj
          refine hf.nm' ops[j] d (Array.getElem?_eq_getElem hj') (by unfold dstO; rw [hio]; exact hdd) ?_
          have e' : ops[j].dst = some d := by unfold dstO at e; rw [Array.getElem?_eq_getElem hj'] at e; exact e
          unfold namesT
          rw [e']
          simp [optL]
        · omega
    · obtain ⟨p, p1, p2, p3, p4⟩ := hI.tm d g hd hg
      refine ⟨p, p1.imp id (fun ⟨j, j1, j2⟩ => ⟨j, .inl j1, j2⟩), p2, ?_, fun j hj hpj => ?_⟩
      · have : (a.put o.dst v').tmps.getD d undef = a.tmps.getD d undef := by
          cases hdo : o.dst with
          | none => rfl
          | some d' =>
            have hne : d' ≠ d := fun e => hdd (by rw [hdo, e])
            have hsz := hI.tsz
            simp [Act.put, Array.getD, hsz, hd, Array.getElem_setIfInBounds, hne]
        rw [this]
        exact p3.mono (lmt_mono he)
      · rcases hj with hj | rfl
        · exact p4 j hj hpj
        · unfold dstO; rw [hio]; exact hdd
  · rcases old k b hk with ⟨q1, q2, q3⟩ | q
    · refine ⟨i + 1, ⟨q2, by omega, .inr ⟨i, .inr rfl, rfl, .inr q1⟩, fun j hj hij => ?_⟩, ?_⟩
      · rcases hj with hj | rfl
        · exact not_new_touch hR hF hI hio hS h1 h2 sr q1 q2 hj (by omega)
        · omega
      · exact (sr.wl.ob k b (.inr q1) q2 q3).mono he1 (mk b) rfl
    · by_cases ht : touch nt ops bar st i k
      · obtain ⟨t1, t2, t3, t4⟩ := tou k b q ht
        refine ⟨i + 1, ⟨by omega, by omega, .inr ⟨i, .inr rfl, rfl, .inl ht⟩, fun j hj hij => ?_⟩, ?_⟩
        · rcases hj with hj | rfl
          · exact t4 j hj (by omega)
          · omega
        · exact (sr.wl.ob k b (.inl t2) (by omega) t3).mono he1 (mk b) rfl
      · obtain ⟨p, hc, ho⟩ := hI.ob k b q
        refine ⟨p, ⟨hc.lt, hc.le, hc.at_.imp id (fun ⟨j, j1, j2⟩ => ⟨j, .inl j1, j2⟩), fun j hj hpj => ?_⟩, ?_⟩
        · rcases hj with hj | rfl
          · exact hc.no j hj hpj
          · exact ht
        · rcases keep k b p q hc ht with r | r
          · exact ho.mono (lmt_mono he) (he k b q).2 r
          · exact ObR.of3 r
  · by_cases hb : kindO o = 3 ∧ bar i = true
    · -- all is met
      have hall : ∀ k, Dn nt (st i).t o k := fun k => .inl hb.1
      have hp1 : ∀ {k p b}, ι' k = some b → Cur nt ops bar st (fun j => S j ∨ j = i) k p → p = i + 1 := by
        intro k p b hk hc
        rcases cur_cases hR hF hI hio hS h1 h2 sr hc with ⟨e, _⟩ | ⟨hc2, hno⟩
        · exact e
        · exfalso
          by_cases c : p ≤ i
          · exact hno c ⟨o, hio, .inl hb⟩
          · rcases hc2.at_ with e | ⟨j, j1, j2, j3⟩
            · omega
            · have hne : j ≠ i := fun e => hS (by subst e; exact j1)
              exact (h2 j j1 (by omega)).nb o hio hb
      have e1 := hp1 hk hc
      have e2 := hp1 hk' hc'
      subst e1 e2
      have g1 : ∀ {k b}, ι' k = some b → k < (st (i + 1)).h.nx ∧ ι1 k = some b := by
        intro k b hk
        rcases old k b hk with ⟨q1, q2, q3⟩ | q
        · exact ⟨q2, q3⟩
        · obtain ⟨t1, t2, t3, t4⟩ := tou k b q ⟨o, hio, .inl hb⟩
          exact ⟨by omega, t3⟩
      exact sr.wl.inj k k' b (.inl (hall k)) (.inl (hall k')) (g1 hk).1 (g1 hk').1 hne (g1 hk).2 (g1 hk').2
    · have newp : ∀ {k p}, (st i).h.nx ≤ k → k < (st (i + 1)).h.nx → Cur nt ops bar st (fun j => S j ∨ j = i) k p → p = i + 1 := by
        intro k p q1 q2 hc
        rcases cur_cases hR hF hI hio hS h1 h2 sr hc with ⟨e, _⟩ | ⟨hc2, hno⟩
        · exact e
        · exfalso
          have hlt := hc2.lt
          by_cases c : p ≤ i
          · have := nx_le hF (p := p) (q := i) c (by omega); omega
          · rcases hc2.at_ with e | ⟨j, j1, j2, j3⟩
            · omega
            · have hne : j ≠ i := fun e => hS (by subst e; exact j1)
              have hj := hI.sn j j1
              rcases j3 with j3 | j3
              · exact not_new_touch hR hF hI hio hS h1 h2 sr q1 q2 j1 (by omega) j3
              · have := nx_le hF (p := i + 1) (q := j) (by omega) (by omega); omega
      -- an old number: it is as it was, or it is what the store speaks of
      have oldp : ∀ {k p b}, ι k = some b → ¬ ((st i).h.nx ≤ k ∧ k < (st (i + 1)).h.nx) → Cur nt ops bar st (fun j => S j ∨ j = i) k p → (p = i + 1 ∧ kindO o = 2 ∧ Tgt nt (st i).t o k ∧ k < (st i).h.nx) ∨ Cur nt ops bar st S k p := by
        intro k p b hk hn hc
        rcases cur_cases hR hF hI hio hS h1 h2 sr hc with ⟨e, q⟩ | ⟨hc2, hno⟩
        · left
          have hlt := hc.lt
          rw [e] at hlt
          rcases q with ⟨o', e1, q⟩ | q
          · rw [hio] at e1; injection e1 with e1; subst e1
            rcases q with q | q
            · exact absurd q hb
            · exact ⟨e, q.1, q.2, (tlt k q.1 q.2).1⟩
          · exact absurd ⟨q, hlt⟩ hn
        · exact .inr hc2
      -- the store's block and another one
      have mix : ∀ {k k' b p'}, k ≠ k' → ι k = some b → ι k' = some b → kindO o = 2 → Tgt nt (st i).t o k → k < (st i).h.nx → Cur nt ops bar st S k' p' → Sep ((st (i + 1)).h.at_ k) ((st p').h.at_ k') := by
        intro k k' b p' hne hk hk' e t hlt hc'
        obtain ⟨p0, hc0, _⟩ := hI.ob k b hk
        have hat := (cur_at hF hI hio hS h1 h2 (.inr ⟨by omega, t⟩) hlt hc0).2
        have r := hI.inj k k' b p0 p' hne hk hk' hc0 hc'
        rw [← hat] at r
        rcases sr.st2 e with e1 | ⟨k1, t1, e1⟩
        · rw [e1]; exact r
        · have := t.uniq t1
          subst this
          exact .inr (.inl (r.l3 (by omega) (by omega)))
      have kk : ∀ {k b}, ι k = some b → ¬ ((st i).h.nx ≤ k ∧ k < (st (i + 1)).h.nx) := fun {k b} hk c => by
        rw [new_none hR hF hI hio hS h1 h2 c.1 c.2] at hk; cases hk
      rcases old k b hk with ⟨q1, q2, q3⟩ | q
      · have e1 := newp q1 q2 hc
        rcases old k' b hk' with ⟨r1, r2, r3⟩ | r
        · have e2 := newp r1 r2 hc'
          subst e1 e2
          exact sr.wl.inj k k' b (.inr q1) (.inr r1) q2 r2 hne q3 r3
        · have := sr.new hb k b q1 q2 q3
          have := hI.lt k' b r
          omega
      · rcases old k' b hk' with ⟨r1, r2, r3⟩ | r
        · have := sr.new hb k' b r1 r2 r3
          have := hI.lt k b q
          omega
        · rcases oldp q (kk q) hc with ⟨e1, e2, e3, e4⟩ | c1
          · rcases oldp r (kk r) hc' with ⟨f1, f2, f3, f4⟩ | c2
            · exact absurd (e3.uniq f3) hne
            · subst e1; exact mix hne q r e2 e3 e4 c2
          · rcases oldp r (kk r) hc' with ⟨f1, f2, f3, f4⟩ | c2
            · subst f1; exact (mix (Ne.symm hne) r q f2 f3 f4 c1).symm
            · exact hI.inj k k' b p p' hne q r c1 c2
  · rcases old k b hk with ⟨q1, q2, q3⟩ | q
    · exact sr.wl.lt k b q3
    · exact Nat.lt_of_lt_of_le (hI.lt k b q) sr.sz
  · have : ι k ≠ none := by
      rcases hj with hj | rfl
      · exact hI.tch j k oj hj hoj hkj htj
      · rw [hio] at hoj; injection hoj with hoj; subst hoj
        obtain ⟨_, b, e⟩ := tlt k hkj htj
        rw [e]; simp
    cases e : ι k with
    | none => exact absurd e this
    | some b => rw [(he k b e).1]; simp
  · rw [mk, sr.kap b (Nat.lt_of_lt_of_le hb hI.sz)]; exact hI.kap b hb
  · rcases old k b hkb with ⟨q1, q2, q3⟩ | q
    · rcases sr.lnew k b q1 q2 q3 with r | ⟨k0, r1, r2, r3⟩
      · exact .inl (Nat.le_trans hI.sz r)
      · obtain ⟨_, r3⟩ := lmt_some r3
        by_cases c : k0 < (st 0).h.nx
        · refine .inr ⟨k0, c, Nat.le_trans (lw_le hF (by omega) (Nat.le_refl _)) r2, ?_⟩
          rw [← hI.i1 k0 c]; exact r3
        · exact hI.lnew k0 b (by omega) r3
    · exact hI.lnew k b hk q
  · rw [sr.lfr b (Nat.lt_of_lt_of_le hb hI.sz) fun k q1 q2 q3 => ?_]
    · exact hI.fr b hb hh
    · obtain ⟨_, q3⟩ := lmt_some q3
      have hl : (st ops.size).h.lw ≤ k := Nat.le_trans (lw_le hF (by omega) (Nat.le_refl _)) q2
      by_cases c : k < (st 0).h.nx
      · exact hh k c hl (by rw [← hI.i1 k c]; exact q3)
      · rcases hI.lnew k b (by omega) q3 with r | ⟨k0, r1, r2, r3⟩
        · omega
        · exact hh k0 r1 r2 r3
  · rw [put_df]; exact hI.df
end
end Ev
end Go.Proofs.YtlbjnkopbabcnaaGreatDoor
end


section
namespace Go.Proofs.YtlbjnkopbabcnaaGreatDoor
namespace Ev
set_option linter.unusedVariables false
set_option linter.unusedSimpArgs false
set_option linter.unusedSectionVars false
variable {P : Program} {nt : Nat} {ih : Ih} {ops : Array Oper} {bar : Nat → Bool} {st : Nat → St} {vv : Nat → V} {m : Nat} {ι0 ι ι1 : Im} {a0 a : Act} {w0 w w' : World} {S : Nat → Prop} {i : Nat} {o : Oper} {D : Nat → Prop} {r : Option Nat}
theorem cnt_lt {p p' : Nat → Bool} {i : Nat} : ∀ {l : List Nat}, (∀ x, p x = true → p' x = true) → i ∈ l → p i = false → p' i = true → l.countP p < l.countP p'
  | [], _, h, _, _ => by cases h
  | x :: l, hm, h, h1, h2 => by
    have hle : l.countP p ≤ l.countP p' := List.countP_mono_left fun y _ => hm y
    by_cases e : x = i
    · subst e
      rw [List.countP_cons_of_pos h2, List.countP_cons_of_neg (by simp [h1])]
      omega
    · have hi : i ∈ l := (List.mem_cons.1 h).resolve_left (fun q => e q.symm)
      have := cnt_lt hm hi h1 h2
      rw [List.countP_cons, List.countP_cons]
      cases hx : p x with
      | false => simp; omega
      | true => rw [hm x hx]; simp; omega
/-- sets of operations that hold what comes before -/
def Closed (ops : Array Oper) (S : Nat → Prop) : Prop := ∀ i o, ops[i]? = some o → S i → ∀ e ∈ o.after, Region.binds .any e = true → S e.on
def Od (ops : Array Oper) (i j : Nat) : Prop := ∀ S, Closed ops S → S i → S j
def Back (ops : Array Oper) : Prop := ∀ i o, ops[i]? = some o → ∀ e ∈ o.after, Region.binds .any e = true → e.on < i
theorem Back.closed (hb : Back ops) (n : Nat) : Closed ops (fun j => j ≤ n) := fun i o ho hi e he hB => by
  have := hb i o ho e he hB
  show e.on ≤ n
  have hi : i ≤ n := hi
  omega
theorem Od.le (hb : Back ops) {i j : Nat} (h : Od ops i j) : j ≤ i := h _ (hb.closed i) (Nat.le_refl i)
theorem inv_start (hw : Wld ι0 D (st 0).h w0) (hD : ∀ k, D k) (htp : Top ι0 (st 0).h) (ht : TmR ι0 (st 0).t nt a0.tmps) : Inv nt ops bar st ι0 a0 w0 (fun _ => False) ι0 a0 w0 := by
  have hx : Ext ι0 (lmt ι0 (st 0).h.nx) := fun k b hk => by
    have : k < (st 0).h.nx := by
      by_cases c : k < (st 0).h.nx
      · exact c
      · rw [htp k (by omega)] at hk; cases hk
    exact ⟨by rw [lmt_of this]; exact hk, rfl⟩
  have hlt : ∀ k b, ι0 k = some b → k < (st 0).h.nx := fun k b hk => by
    by_cases c : k < (st 0).h.nx
    · exact c
    · rw [htp k (by omega)] at hk; cases hk
  refine ⟨fun _ h => h.elim, fun _ _ => rfl, fun k hk hne => absurd (htp k hk) hne, ht.1, fun d g hd hg => ⟨0, .inl rfl, Nat.zero_le _, (ht.2 d g hd hg).mono hx, fun _ h => h.elim⟩, fun k b hk => ⟨0, ⟨hlt k b hk, Nat.zero_le _, .inl rfl, fun _ h => h.elim⟩, (hw.ob k b (hD k) (hlt k b hk) hk).mono hx rfl rfl⟩, fun k k' b p p' hne hk hk' hc hc' => ?_, hw.lt, fun _ _ _ h => h.elim, fun _ _ => rfl, fun k b hk hkb => ?_, fun _ _ _ => rfl, Nat.le_refl _, rfl, rfl, rfl, rfl, fun g k e => ⟨hlt k g (hw.gl g k e), hw.gl g k e⟩⟩
  · have e : p = 0 := hc.at_.resolve_right (fun ⟨_, q, _⟩ => q)
    have e' : p' = 0 := hc'.at_.resolve_right (fun ⟨_, q, _⟩ => q)
    subst e e'
    exact hw.inj k k' b (hD k) (hD k') hc.lt hc'.lt hne hk hk'
  · rw [htp k hk] at hkb; cases hkb
theorem runs_keep (hR : Runs P nt ops ih bar st vv) : ∀ p, p ≤ ops.size → (st p).nt = (st 0).nt ∧ (st p).df = (st 0).df ∧ (st p).ro = (st 0).ro
  | 0, _ => ⟨rfl, rfl, rfl⟩
  | p + 1, h => by
    obtain ⟨e1, e2, e3⟩ := runs_keep hR p (by omega)
    obtain ⟨_, q1, q2, q3, _⟩ := cell_put (hR p _ (Array.getElem?_eq_getElem (by omega)))
    exact ⟨q1.trans e1, q2.trans e2, q3.trans e3⟩
theorem inv_end (hR : Runs P nt ops ih bar st vv) (hF : ∀ i o, ops[i]? = some o → Facts nt (bar i) o (st i) (st (i + 1))) (hI : Inv nt ops bar st ι0 a0 w0 S ι a w) (hall : ∀ j, j < ops.size → S j) (hD : ∀ k, D k)
    (hw : Wld ι0 D (st 0).h w0) (htp : Top ι0 (st 0).h) (hnt : (st 0).nt = nt) (hdf : DfR ι0 D (st 0).df a0.defers) : Fin ι0 D (st 0) w0 (st ops.size) ι a w := by
  have nxn : ∀ p, p ≤ ops.size → (st p).h.nx ≤ (st ops.size).h.nx := fun p hp => nx_le hF hp (Nat.le_refl _)
  have hout : ∀ k, (st ops.size).h.nx ≤ k → ι k = none := fun k hk => by
    cases e : ι k with
    | none => rfl
    | some b =>
      obtain ⟨j, j1, j2, j3⟩ := hI.i2 k (by have := nxn 0 (Nat.zero_le _); omega) (by rw [e]; simp)
      have := nxn (j + 1) (hI.sn j j1)
      omega
  have hn9 : (st ops.size).h.nx ≤ 1000000000 := by
    by_cases c : ops.size = 0
    · rw [c]; exact hw.nx
    · have := (hF (ops.size - 1) _ (Array.getElem?_eq_getElem (by omega))).n9
      rwa [Nat.sub_add_cancel (by omega)] at this
  have hcur : ∀ {k p}, Cur nt ops bar st S k p → (st ops.size).h.at_ k = (st p).h.at_ k := fun {k p} hc =>
    at_same hF hc.le (Nat.le_refl _) hc.lt fun j q1 q2 => hc.no j (hall j q2) q1
  obtain ⟨k1, k2, k3⟩ := runs_keep hR ops.size (Nat.le_refl _)
  have st' : Stp ι0 D (st 0).h w0 ι (st ops.size).h w := by
    refine ⟨nxn 0 (Nat.zero_le _), fun k hk => ?_, hI.kap, fun k b q1 q2 q3 => ?_, lw_le hF (Nat.zero_le _) (Nat.le_refl _), fun k q1 q2 => ?_, fun b hb q => ?_, hI.sz, hI.os, hI.tape, hI.output, hn9, fun k b _ hk hb => ?_, hI.lt, fun k k' b _ _ hk hk' hne e1 e2 => ?_, fun g k e => (hI.gl g k e).2⟩
    · rcases hk with hk | hk
      · exact hI.i1 k hk
      · rw [hout k hk, htp k (by have := nxn 0 (Nat.zero_le _); omega)]
    · rcases hI.lnew k b q1 q3 with q | ⟨k0, r1, r2, r3⟩
      · exact .inl q
      · exact .inr ⟨k0, r1, hD k0, r2, r3⟩
    · exact at_below hF (Nat.zero_le _) (Nat.le_refl _) q1 (q2.resolve_left (fun q => q (hD k)))
    · exact hI.fr b hb fun k r1 r2 => q k r1 (hD k) r2
    · obtain ⟨p, hc, ho⟩ := hI.ob k b hb
      rw [hcur hc]
      exact ho.mono lmt_all rfl rfl
    · obtain ⟨p, hc, _⟩ := hI.ob k b e1
      obtain ⟨p', hc', _⟩ := hI.ob k' b e2
      rw [hcur hc, hcur hc']
      exact hI.inj k k' b p p' hne e1 e2 hc hc'
  refine ⟨st', ⟨by rw [k1, hnt]; exact hI.tsz, fun d g hd hg => ?_⟩, ?_, k1, k3⟩
  · rw [k1, hnt] at hd
    obtain ⟨p, p1, p2, p3, p4⟩ := hI.tm d g hd hg
    rw [tmp_same hR hg p2 (Nat.le_refl _) fun j q1 q2 => p4 j (hall j q2) q1]
    exact p3.mono lmt_all
  · rw [k2, hI.df]
    exact hdf.mono (st'.extT htp hw) fun k q => .inl q
theorem any_ok (hi : SoundC P ih) (hR : Runs P nt ops ih bar st vv) (hF : ∀ i o, ops[i]? = some o → Facts nt (bar i) o (st i) (st (i + 1))) (hb : Back ops) (hfree : ∀ i j, i < ops.size → j < ops.size → i ≠ j → Od ops i j ∨ Od ops j i ∨ Free nt ops bar st i j)
    {Q : Exit → Act → World → Prop} (hQ : ∀ S ι a w, Inv nt ops bar st ι0 a0 w0 S ι a w → (∀ j, j < ops.size → S j) → Q .normal a w) :
    ∀ (fuel : Nat) (listed : Array Bool) (ι : Im) (a : Act) (w : World), listed.size = ops.size → ops.size ≤ fuel + (List.range ops.size).countP (fun j => listed.getD j false) → Closed ops (fun j => listed.getD j false = true) →
      Inv nt ops bar st ι0 a0 w0 (fun j => listed.getD j false = true) ι a w → wpAnyIn (FW r) m P .any ops Q fuel listed a w := by
  intro fuel
  have hend : ∀ (listed : Array Bool) (ι : Im) (a : Act) (w : World), listed.size = ops.size → Inv nt ops bar st ι0 a0 w0 (fun j => listed.getD j false = true) ι a w → Region.ready .any ops listed = [] → Q .normal a w := by
    intro listed ι a w hsz hI hr
    refine hQ _ ι a w hI fun j => ?_
    induction j using Nat.strongRecOn with
    | _ j IH =>
      intro hj
      cases e : listed.getD j false with
      | true => rfl
      | false =>
        exfalso
        have hmem : j ∈ Region.ready .any ops listed := by
          rw [mem_ready]
          refine ⟨?_, ops[j], Array.getElem?_eq_getElem hj, fun ed he hB => ?_⟩
          · have hj' : j < listed.size := by omega
            simp [Array.getD, hj'] at e ⊢
            exact e
          · have := hb j _ (Array.getElem?_eq_getElem hj) ed he hB
            exact IH ed.on this (by omega)
        rw [hr] at hmem
        cases hmem
  induction fuel with
  | zero =>
    intro listed ι a w hsz hcnt hcl hI
    have hall : ∀ j, j < ops.size → listed.getD j false = true := fun j hj => by
      have h1 : (List.range ops.size).countP (fun j => listed.getD j false) = (List.range ops.size).length := Nat.le_antisymm List.countP_le_length (by simpa using hcnt)
      rw [List.countP_eq_length] at h1
      exact h1 j (by simpa using hj)
    have hr : Region.ready .any ops listed = [] := by
      cases e : Region.ready .any ops listed with
      | nil => rfl
      | cons x xs =>
        exfalso
        have hx : x ∈ Region.ready .any ops listed := by rw [e]; exact List.mem_cons_self
        rw [mem_ready] at hx
        obtain ⟨q1, o, q2, _⟩ := hx
        have hlt : x < ops.size := (Array.getElem?_eq_some_iff.1 q2).1
        have := hall x hlt
        have hj' : x < listed.size := by omega
        simp [Array.getD, hj'] at this q1
        rw [this] at q1; cases q1
    exact ⟨hr, hend listed ι a w hsz hI hr⟩
  | succ fuel IH =>
    intro listed ι a w hsz hcnt hcl hI
    refine ⟨hend listed ι a w hsz hI, fun i hmem => ?_⟩
    rw [mem_ready] at hmem
    obtain ⟨q1, o, hio, hedge⟩ := hmem
    have hil : i < ops.size := (Array.getElem?_eq_some_iff.1 hio).1
    have hS : ¬ (listed.getD i false = true) := by
      have hj' : i < listed.size := by omega
      simp [Array.getD, hj'] at q1 ⊢
      exact q1
    have hcl' : Closed ops (fun j => listed.getD j false = true ∨ j = i) := fun j oj hoj hj e he hB => by
      rcases hj with hj | rfl
      · exact .inl (hcl j oj hoj hj e he hB)
      · rw [hio] at hoj; injection hoj with hoj; subst hoj
        exact .inl (hedge e he hB)
    have h1 : ∀ j, j < i → ¬ (listed.getD j false = true) → Free nt ops bar st i j := fun j hj hn => by
      rcases hfree i j hil (by omega) (by omega) with c | c | c
      · rcases c _ hcl' (.inr rfl) with q | q
        · exact absurd q hn
        · omega
      · have := c.le hb; omega
      · exact c
    have h2 : ∀ j, listed.getD j false = true → i < j → Free nt ops bar st i j := fun j hj hij => by
      rcases hfree i j hil (hI.sn j hj) (by omega) with c | c | c
      · have := c.le hb; omega
      · exact absurd (c _ hcl hj) hS
      · exact c
    have hset : ∀ j, (listed.setIfInBounds i true).getD j false = true ↔ (listed.getD j false = true ∨ j = i) := fun j => by
      by_cases e : j = i
      · subst e
        have hj' : j < listed.size := by omega
        simp [Array.getD, hj']
      · rw [getD_set_ne false (fun q => e q.symm)]
        exact ⟨.inl, fun q => q.resolve_right e⟩
    have hfun : (fun j => (listed.setIfInBounds i true).getD j false = true) = (fun j => listed.getD j false = true ∨ j = i) := funext fun j => propext (hset j)
    have hO : Opd (lmt ι (st i).h.nx) nt (st i).t a o.op.operands := opd_names (wl_at hR hF hI hio hS h1 h2).gl fun d g hd hdn hg => tm_at hR hF hI hio hS h1 h2 (by unfold namesT; exact List.mem_append_left _ hd) hdn hg
    have hput := cell_put (hR i o hio)
    refine cell_ok hi (hR i o hio) hio hO (fun d e => ?_) (wl_at hR hF hI hio hS h1 h2) (fun k hk => ?_) fun v' w' ι' sr hv => ?_
    · have hd := hput.2.2.2.2 d e
      refine ⟨by rw [hI.tsz]; exact hd, fun g hg => tm_at hR hF hI hio hS h1 h2 ?_ hd hg⟩
      unfold namesT
      refine List.mem_append_right _ (List.mem_append_left _ ?_)
      rw [e]; simp [optL]
    · show (if k < (st i).h.nx then ι k else none) = none
      rw [if_neg (by omega)]
    · have hT : ∀ k, kindO o = 2 → Tgt nt (st i).t o k → lmt ι (st i).h.nx k ≠ none := fun k _ ⟨f, t1, t2, t3⟩ => by
        obtain ⟨x, x1, x2⟩ := addr_mem t1
        obtain ⟨b', hb', _⟩ := (hO x x1 f x2).ptr_inv t2
        rw [t3] at hb'
        rw [hb']; simp
      have hI' := inv_step hR hF hI hio hS h1 h2 sr hT hv hput.1
      refine IH _ _ _ _ (by simpa using hsz) ?_ (by rw [hfun]; exact hcl') (by rw [hfun]; exact hI')
      have := cnt_lt (p := fun j => listed.getD j false) (p' := fun j => (listed.setIfInBounds i true).getD j false) (i := i) (l := List.range ops.size) (fun x hx => (hset x).2 (.inl hx)) (by simpa using hil) (by simpa using hS) ((hset i).2 (.inr rfl))
      omega
end Ev
end Go.Proofs.YtlbjnkopbabcnaaGreatDoor
end


section
namespace Go.Proofs.YtlbjnkopbabcnaaGreatDoor
namespace Ev
set_option linter.unusedVariables false
set_option linter.unusedSimpArgs false
set_option linter.unusedSectionVars false
variable {P : Program} {nt : Nat} {ih : Ih} {ops : Array Oper} {bar : Nat → Bool} {st : Nat → St} {vv : Nat → V} {m : Nat} {ι0 ι ι1 : Im} {a0 a : Act} {w0 w w' : World} {S : Nat → Prop} {i : Nat} {o : Oper} {D : Nat → Prop} {r : Option Nat} {s s' s1 : St} {x : X}
theorem allB_mem {α : Type} {p : α → Bool} : ∀ {l : List α}, allB p l = true → ∀ x ∈ l, p x = true
  | [], _, x, hx => by cases hx
  | y :: l, h, x, hx => by
    have h : ifB (p y) (allB p l) false = true := h
    rw [ifB_eq] at h
    split at h
    · rcases List.mem_cons.1 hx with rfl | hx
      · assumption
      · exact allB_mem h x hx
    · cases h
theorem nth_eq {α : Type} (d : α) : ∀ (n : Nat) (l : List α), nth d n l = l.getD n d
  | 0, [] => rfl
  | 0, x :: l => rfl
  | n + 1, [] => by
    show nth d n ([] : List α) = _
    rw [nth_eq d n []]; simp
  | n + 1, x :: l => by
    show nth d n l = _
    rw [nth_eq d n l]; simp
theorem maskL_mem {d : Nat} : ∀ {l : List Nat}, d ∈ l → (maskL l).testBit d = true
  | x :: l, h => by
    show (Nat.lor (Nat.pow 2 x) (maskL l)).testBit d = true
    have e : Nat.lor (Nat.pow 2 x) (maskL l) = 2 ^ x ||| maskL l := rfl
    rw [e, Nat.testBit_or]
    rcases List.mem_cons.1 h with rfl | h
    · simp
    · rw [maskL_mem h]; simp
noncomputable def barF (L : List Oi) (i : Nat) : Bool := barO L (nth ⟨0, 0, none, 0⟩ i L) i
theorem cell_of {L : List Oi} {f : Fs} (hc : cOper P nt ops o = some f) (hnt : s.nt = nt) (hr : (ifB (!Nat.beq (kindO o) 3 || barF L i) f (locked f)) ih s = some s1) : ∃ v, Cell P nt ops ih (barF L i) o s s1 v := by
  rw [ifB_eq] at hr
  split at hr
  · rename_i c
    obtain ⟨v, hd⟩ := cOper_does hc hr
    refine ⟨v, .inl ⟨hd, ?_⟩⟩
    rcases Bool.or_eq_true _ _ ▸ c with c | c
    · left; intro e; rw [e] at c; cases c
    · exact .inr c
  · rename_i c
    have c1 : kindO o = 3 ∧ barF L i = false := by
      have := Bool.eq_false_iff.2 c
      rw [Bool.or_eq_false_iff] at this
      exact ⟨beq_eq (by simpa using this.1), this.2⟩
    obtain ⟨u, h1, hr⟩ := bnd_some (hr : (bnd (f ih (lkd s)) fun s' => onSt s' fun t' nt' h' df' ro' => onHp h' fun nx' tr' lw' => grd (Nat.ble s.h.nx lw') (some ⟨t', nt', ⟨nx', tr', s.h.lw⟩, df', ro'⟩)) = some s1)
    have hr : grd (Nat.ble s.h.nx u.h.lw) (some (unl s u)) = some s1 := hr
    obtain ⟨h2, hr⟩ := grd_some hr
    injection hr with hr
    obtain ⟨v, hd⟩ := cOper_does hc h1
    exact ⟨v, .inr ⟨c1.1, c1.2, u, hd, ble_le h2, hr.symm⟩⟩
/-- the states between -/
def Chain (P : Program) (nt : Nat) (ops : Array Oper) (ih : Ih) (L : List Oi) (l : List Oper) (i0 : Nat) (s s' : St) (st : Nat → St) : Prop :=
  st i0 = s ∧ st (i0 + l.length) = s' ∧ ∀ j o, l[j]? = some o → ∃ v, Cell P nt ops ih (barF L (i0 + j)) o (st (i0 + j)) (st (i0 + j + 1)) v
theorem Chain.cons {L : List Oi} {l : List Oper} {i0 : Nat} {s2 : St} {v : V} (hc : Cell P nt ops ih (barF L i0) o s s1 v) (h : Chain P nt ops ih L l (i0 + 1) s1 s2 st) : Chain P nt ops ih L (o :: l) i0 s s2 (fun k => if k = i0 then s else st k) := by
  obtain ⟨h1, h2, h3⟩ := h
  refine ⟨if_pos rfl, ?_, fun j o' hj => ?_⟩
  · show (if i0 + (l.length + 1) = i0 then s else st (i0 + (l.length + 1))) = s2
    rw [if_neg (by omega), ← h2]
    congr 1; omega
  · cases j with
    | zero =>
      injection hj with hj
      subst hj
      refine ⟨v, ?_⟩
      show Cell P nt ops ih (barF L i0) o (if i0 = i0 then s else _) (if i0 + 1 = i0 then s else st (i0 + 1)) v
      rw [if_pos rfl, if_neg (by omega), h1]
      exact hc
    | succ j =>
      obtain ⟨v', q⟩ := h3 j o' hj
      refine ⟨v', ?_⟩
      show Cell P nt ops ih (barF L (i0 + (j + 1))) o' (if i0 + (j + 1) = i0 then s else st (i0 + (j + 1))) (if i0 + (j + 1) + 1 = i0 then s else st (i0 + (j + 1) + 1)) v'
      rw [if_neg (by omega), if_neg (by omega), show i0 + (j + 1) = i0 + 1 + j by omega]
      exact q
theorem cD0_chain {L : List Oi} : ∀ {l : List Oper} {i0 : Nat} {F : Fs} {s s' : St}, cD0 P nt ops L l i0 = some F → s.nt = nt → F ih s = some s' → ∃ st, Chain P nt ops ih L l i0 s s' st
  | [], i0, F, s, s', hc, hnt, hr => by
    injection hc with hc
    subst hc
    injection hr with hr
    exact ⟨fun _ => s, rfl, hr, fun j o hj => by cases hj⟩
  | o :: l, i0, F, s, s', hc, hnt, hr => by
    obtain ⟨f, h1, hc⟩ := bnd_some hc
    obtain ⟨g, h2, hc⟩ := bnd_some hc
    injection hc with hc
    subst hc
    have hr : Option.rec (motive := fun _ => Option St) none (g ih) ((ifB (!Nat.beq (kindO o) 3 || barF L i0) f (locked f)) ih s) = some s' := hr
    cases hf : (ifB (!Nat.beq (kindO o) 3 || barF L i0) f (locked f)) ih s with
    | none => rw [hf] at hr; cases hr
    | some s1 =>
      rw [hf] at hr
      obtain ⟨v, hcell⟩ := cell_of h1 hnt hf
      obtain ⟨st, hch⟩ := cD0_chain h2 ((cell_put hcell).2.1.trans hnt) (hr : g ih s1 = some s')
      exact ⟨_, hch.cons hcell⟩
theorem cD_chain {L : List Oi} : ∀ {l : List Oper} {i0 : Nat} {F : Fd2} {s s' : St} {tl : List Nat}, cD P nt ops L l i0 = some F → s.nt = nt → F ih s = some (s', tl) → ∃ st, Chain P nt ops ih L l i0 s s' st ∧ ∀ j o, l[j]? = some o → tl.getD j 0 = tgt nt o (st (i0 + j)).t
  | [], i0, F, s, s', tl, hc, hnt, hr => by
    injection hc with hc
    subst hc
    injection hr with hr
    injection hr with e1 e2
    exact ⟨fun _ => s, ⟨rfl, e1, fun j o hj => by cases hj⟩, fun j o hj => by cases hj⟩
  | o :: l, i0, F, s, s', tl, hc, hnt, hr => by
    obtain ⟨f, h1, hc⟩ := bnd_some hc
    obtain ⟨g, h2, hc⟩ := bnd_some hc
    injection hc with hc
    subst hc
    have hr : Option.rec (motive := fun _ => Option (St × List Nat)) none (fun s1 => Option.rec (motive := fun _ => Option (St × List Nat)) none (fun r => on2 r fun s2 l => some (s2, tgt nt o s.t :: l)) (g ih s1)) ((ifB (!Nat.beq (kindO o) 3 || barF L i0) f (locked f)) ih s) = some (s', tl) := hr
    cases hf : (ifB (!Nat.beq (kindO o) 3 || barF L i0) f (locked f)) ih s with
    | none => rw [hf] at hr; cases hr
    | some s1 =>
      rw [hf] at hr
      have hr : Option.rec (motive := fun _ => Option (St × List Nat)) none (fun r => on2 r fun s2 l => some (s2, tgt nt o s.t :: l)) (g ih s1) = some (s', tl) := hr
      cases hg : g ih s1 with
      | none => rw [hg] at hr; cases hr
      | some q =>
        obtain ⟨s2, tl2⟩ := q
        rw [hg] at hr
        have hr : some (s2, tgt nt o s.t :: tl2) = some (s', tl) := hr
        injection hr with hr
        injection hr with e1 e2
        subst e1 e2
        obtain ⟨v, hcell⟩ := cell_of h1 hnt hf
        obtain ⟨st, hch, htl⟩ := cD_chain h2 ((cell_put hcell).2.1.trans hnt) hg
        refine ⟨_, hch.cons hcell, fun j o' hj => ?_⟩
        cases j with
        | zero =>
          injection hj with hj
          subst hj
          show tgt nt o s.t = tgt nt o (if i0 + 0 = i0 then s else st (i0 + 0)).t
          rw [if_pos (Nat.add_zero i0)]
        | succ j =>
          show tl2.getD j 0 = tgt nt o' (if i0 + (j + 1) = i0 then s else st (i0 + (j + 1))).t
          rw [if_neg (by omega), show i0 + (j + 1) = i0 + 1 + j by omega]
          exact htl j o' hj
theorem edges_ok : ∀ {l : List Oper} {i0 : Nat}, edges l i0 = true → ∀ j o, l[j]? = some o → ∀ e ∈ o.after, Region.binds .any e = true → e.on < i0 + j
  | [], _, _, j, o, hj, _, _, _ => by cases hj
  | y :: l, i0, h, j, o, hj, e, he, hB => by
    have h : ifB (allB (fun e => !Region.binds .any e || Nat.blt e.on i0) y.after.toList) (edges l (Nat.succ i0)) false = true := h
    rw [ifB_eq] at h
    split at h
    · rename_i c
      cases j with
      | zero =>
        injection hj with hj
        subst hj
        have := allB_mem c e (by simpa using he)
        rw [hB] at this
        have := blt_lt (by simpa using this : Nat.blt e.on i0 = true)
        omega
      | succ j =>
        have := edges_ok h j o hj e he hB
        omega
    · cases h
theorem ois_get {l : List Oper} : ∀ {bs : List Nat} {j : Nat} {o : Oper}, l[j]? = some o → (ois ops l bs)[j]? = some (oi ops o (bs.getD j 0)) := by
  induction l with
  | nil => intro bs j o hj; cases hj
  | cons y l ih =>
    intro bs j o hj
    show (oi ops y (nth 0 0 bs) :: ois ops l bs.tail)[j]? = _
    cases j with
    | zero => injection hj with hj; subst hj; rw [nth_eq]; rfl
    | succ j =>
      show (ois ops l bs.tail)[j]? = _
      rw [ih hj]
      cases bs <;> simp
theorem before_od : ∀ i j, i < ops.size → ((Region.before ops).toList.getD i 0).testBit j = true → Od ops i j := by
  have step : ∀ (es : List Edge) (acc : Array Nat) (s0 : Nat) (j : Nat), (es.foldl (fun s e => if Region.binds .any e then s ||| 2 ^ e.on ||| acc.getD e.on 0 else s) s0).testBit j = true → s0.testBit j = true ∨ ∃ e ∈ es, Region.binds .any e = true ∧ (e.on = j ∨ (acc.getD e.on 0).testBit j = true) := by
    intro es
    induction es with
    | nil => intro acc s0 j h; exact .inl h
    | cons e es ih =>
      intro acc s0 j h
      rw [List.foldl_cons] at h
      rcases ih acc _ j h with q | ⟨e', q1, q2, q3⟩
      · split at q
        · rename_i hB
          rw [Nat.testBit_or, Nat.testBit_or] at q
          rcases Bool.or_eq_true _ _ ▸ q with q | q
          · rcases Bool.or_eq_true _ _ ▸ q with q | q
            · exact .inl q
            · rw [Nat.testBit_two_pow] at q
              exact .inr ⟨e, List.mem_cons_self, hB, .inl (by simpa using q)⟩
          · exact .inr ⟨e, List.mem_cons_self, hB, .inr q⟩
        · exact .inl q
      · exact .inr ⟨e', List.mem_cons_of_mem _ q1, q2, q3⟩
  have key : ∀ (l pre : List Oper) (acc : Array Nat), pre ++ l = ops.toList → acc.size = pre.length → (∀ i j, i < acc.size → (acc.getD i 0).testBit j = true → Od ops i j) →
      ∀ i j, i < ops.size → ((l.foldl (fun acc o => acc.push (o.after.foldl (fun s e => if Region.binds .any e then s ||| 2 ^ e.on ||| acc.getD e.on 0 else s) 0)) acc).getD i 0).testBit j = true → Od ops i j := by
    intro l
    induction l with
    | nil =>
      intro pre acc he hs hI i j hi h
      have : acc.size = ops.size := by rw [hs, ← Array.length_toList, ← he]; simp
      exact hI i j (by omega) h
    | cons o l ih =>
      intro pre acc he hs hI i j hi h
      rw [List.foldl_cons] at h
      refine ih (pre ++ [o]) _ (by simpa using he) (by simp [hs]) (fun i j hi h => ?_) i j hi h
      by_cases c : i < acc.size
      · refine hI i j c ?_
        have e : ∀ x, (acc.push x).getD i 0 = acc.getD i 0 := fun x => by simp [Array.getD, c, Nat.lt_succ_of_lt c, Array.getElem_push_lt c]
        rw [e] at h
        exact h
      · have hi' : i = acc.size := by simp at hi; omega
        subst hi'
        have e : ∀ x, (acc.push x).getD acc.size 0 = x := fun x => by simp [Array.getD]
        rw [e, ← Array.foldl_toList] at h
        have hoi : ops[acc.size]? = some o := by
          rw [← Array.getElem?_toList, ← he, hs]
          simp
        rcases step _ acc 0 j h with q | ⟨ed, q1, q2, q3⟩
        · simp at q
        · intro S hS hi
          have h1 := hS _ o hoi hi ed (by simpa using q1) q2
          rcases q3 with q3 | q3
          · rw [← q3]; exact h1
          · by_cases c2 : ed.on < acc.size
            · exact hI ed.on j c2 q3 S hS h1
            · simp [Array.getD, c2] at q3
  intro i j hi h
  refine key ops.toList [] #[] rfl rfl (fun i j hi => by simp at hi) i j hi ?_
  have e : (Region.before ops).toList.getD i 0 = (Region.before ops).getD i 0 := by
    rw [List.getD_eq_getElem?_getD, Array.getElem?_toList, Array.getD_eq_getD_getElem?]
  rw [e] at h
  unfold Region.before at h
  rw [← Array.foldl_toList] at h
  exact h
end Ev
end Go.Proofs.YtlbjnkopbabcnaaGreatDoor
end


section
namespace Go.Proofs.YtlbjnkopbabcnaaGreatDoor
namespace Ev
set_option linter.unusedVariables false
set_option linter.unusedSimpArgs false
set_option linter.unusedSectionVars false
variable {P : Program} {nt : Nat} {ih : Ih} {ops : Array Oper} {st : Nat → St} {vv : Nat → V} {m : Nat} {ι0 ι ι1 : Im} {a0 a : Act} {w0 w w' : World} {S : Nat → Prop} {i : Nat} {o : Oper} {D : Nat → Prop} {r : Option Nat} {s s' s1 : St} {x : X} {h h' : Hp} {v : V}
noncomputable def oiL (ops : Array Oper) : List Oi := ois ops ops.toList (Region.before ops).toList
theorem oiL_get (hi : ops[i]? = some o) : (oiL ops)[i]? = some (oi ops o ((Region.before ops).toList.getD i 0)) := ois_get (by simpa using hi)
theorem back_ok (hd : drawOk ops (oiL ops) = true) : Back ops := by
  obtain ⟨h1, _⟩ := ifB_and hd
  intro i o ho e he hB
  have := edges_ok h1 i o (by simpa using ho) e he hB
  omega
theorem ord_od {oj : Oper} {j : Nat} (hi : ops[i]? = some o) (hj : ops[j]? = some oj) (h : ord (oi ops o ((Region.before ops).toList.getD i 0)) (oi ops oj ((Region.before ops).toList.getD j 0)) i j = true) : Od ops i j ∨ Od ops j i := by
  rcases Bool.or_eq_true _ _ ▸ (h : (((Region.before ops).toList.getD i 0).testBit j || ((Region.before ops).toList.getD j 0).testBit i) = true) with q | q
  · exact .inl (before_od i j (Array.getElem?_eq_some_iff.1 hi).1 q)
  · exact .inr (before_od j i (Array.getElem?_eq_some_iff.1 hj).1 q)
theorem bar_od {j : Nat} {oj : Oper} (hi : ops[i]? = some o) (hj : ops[j]? = some oj) (hb : barF (oiL ops) i = true) (hne : i ≠ j) : Od ops i j ∨ Od ops j i := by
  unfold barF at hb
  rw [nth_eq, List.getD_eq_getElem?_getD, oiL_get hi] at hb
  obtain ⟨_, hb⟩ := ifB_and (hb : (_ && _) = true)
  have hm : ord (oi ops o ((Region.before ops).toList.getD i 0)) (oi ops oj ((Region.before ops).toList.getD j 0)) i j = true := by
    have := allB_mem hb (Nat.beq j i || ord (oi ops o ((Region.before ops).toList.getD i 0)) (oi ops oj ((Region.before ops).toList.getD j 0)) i j) (List.mem_map.2 ⟨(_, j), List.mem_zipIdx_iff_getElem?.2 (oiL_get hj), rfl⟩)
    rcases Bool.or_eq_true _ _ ▸ this with q | q
    · exact absurd (beq_eq q) (Ne.symm hne)
    · exact q
  exact ord_od hi hj hm
theorem tgt_of {t : T} {k : Nat} (h : Tgt nt t o k) : tgt nt o t = k := by
  obtain ⟨f, h1, h2, h3⟩ := h
  unfold tgt
  rw [h1]
  show ifB (Nat.beq (f t).tg 3) (f t).a 0 = k
  rw [h2, ← h3]; rfl
theorem free_ok (hd : drawOk ops (oiL ops) = true) (hdyn : ∀ i j oi oj, (i, j) ∈ dynP (oiL ops) → ops[i]? = some oi → ops[j]? = some oj → tgt nt oi (st i).t ≠ tgt nt oj (st j).t) :
    ∀ i j, i < ops.size → j < ops.size → i ≠ j → Od ops i j ∨ Od ops j i ∨ Free nt ops (barF (oiL ops)) st i j := by
  intro i j hi hj hne
  have hio : ops[i]? = some ops[i] := Array.getElem?_eq_getElem hi
  have hjo : ops[j]? = some ops[j] := Array.getElem?_eq_getElem hj
  generalize ops[i] = oi' at hio
  generalize ops[j] = oj' at hjo
  by_cases hod : Od ops i j ∨ Od ops j i
  · exact hod.imp id .inl
  right; right
  obtain ⟨_, h2⟩ := ifB_and hd
  have hp := allB_mem (allB_mem h2 (_, i) (List.mem_zipIdx_iff_getElem?.2 (oiL_get hio))) (_, j) (List.mem_zipIdx_iff_getElem?.2 (oiL_get hjo))
  have hno : ord (oi ops oi' ((Region.before ops).toList.getD i 0)) (oi ops oj' ((Region.before ops).toList.getD j 0)) i j = false := Bool.eq_false_iff.2 fun q => hod (ord_od hio hjo q)
  have hno' : ord (oi ops oj' ((Region.before ops).toList.getD j 0)) (oi ops oi' ((Region.before ops).toList.getD i 0)) j i = false := Bool.eq_false_iff.2 fun q => hod ((ord_od hjo hio q).symm)
  have nb : barF (oiL ops) i ≠ true := fun q => hod (bar_od hio hjo q hne)
  have nb' : barF (oiL ops) j ≠ true := fun q => hod ((bar_od hjo hio q (Ne.symm hne)).symm)
  have hbeq : Nat.beq i j = false := Bool.eq_false_iff.2 fun q => hne (beq_eq q)
  have hp : (Nat.beq i j || ord (oi ops oi' ((Region.before ops).toList.getD i 0)) (oi ops oj' ((Region.before ops).toList.getD j 0)) i j || ((match oi'.dst with | none => true | some d => !Nat.testBit (maskL (namesT ops oj')) d) && (match oj'.dst with | none => true | some d => !Nat.testBit (maskL (namesT ops oi')) d) && !((Nat.beq (kindO oi') 2 && Nat.beq (kindO oj') 3) || (Nat.beq (kindO oi') 3 && Nat.beq (kindO oj') 2)))) = true := hp
  rw [hbeq, hno, Bool.false_or, Bool.false_or] at hp
  obtain ⟨hp, hk⟩ := ifB_and hp
  obtain ⟨hn1, hn2⟩ := ifB_and hp
  have conf : ∀ {i j : Nat} {oi' oj' : Oper}, ops[i]? = some oi' → ops[j]? = some oj' → i ≠ j → ord (oi ops oi' ((Region.before ops).toList.getD i 0)) (oi ops oj' ((Region.before ops).toList.getD j 0)) i j = false → barF (oiL ops) i ≠ true → ¬ (kindO oi' = 2 ∧ kindO oj' = 3) →
      ∀ o k, ops[j]? = some o → touch nt ops (barF (oiL ops)) st i k → ¬ Dn nt (st j).t o k := by
    intro i j oi' oj' hio hjo hne hno nb hk23 o k ho ht hdn
    rw [hjo] at ho; injection ho with ho; subst ho
    obtain ⟨o2, e, q⟩ := ht
    rw [hio] at e; injection e with e; subst e
    rcases q with q | ⟨q1, q2⟩
    · exact nb q.2
    · rcases hdn with c | ⟨c1, c2⟩
      · exact hk23 ⟨q1, c⟩
      · refine hdyn i j _ _ ?_ hio hjo ((tgt_of q2).trans (tgt_of c2).symm)
        unfold dynP
        rw [List.mem_flatMap]
        refine ⟨(_, i), List.mem_zipIdx_iff_getElem?.2 (oiL_get hio), ?_⟩
        have e2 : Nat.beq (oi ops oi' ((Region.before ops).toList.getD i 0)).kd 2 = true := by
          show Nat.beq (kindO oi') 2 = true
          rw [q1]; rfl
        show (i, j) ∈ ifB (Nat.beq (oi ops oi' ((Region.before ops).toList.getD i 0)).kd 2) _ _
        rw [e2]
        refine List.mem_map.2 ⟨(_, j), List.mem_filter.2 ⟨List.mem_zipIdx_iff_getElem?.2 (oiL_get hjo), ?_⟩, rfl⟩
        have hbq : Nat.beq i j = false := Bool.eq_false_iff.2 fun q => hne (beq_eq q)
        have hkk : (Nat.beq (kindO oj') 1 || Nat.beq (kindO oj') 2) = true := by
          have h3 := kind_lt oj'
          have : kindO oj' ≠ 3 := fun e => hk23 ⟨q1, e⟩
          have : kindO oj' = 1 ∨ kindO oj' = 2 := by omega
          rcases this with e | e <;> rw [e] <;> rfl
        show (!(Nat.beq i j || ord (oi ops oi' ((Region.before ops).toList.getD i 0)) (oi ops oj' ((Region.before ops).toList.getD j 0)) i j) && (Nat.beq (kindO oj') 1 || Nat.beq (kindO oj') 2)) = true
        rw [hbq, hno, hkk]; rfl
  refine ⟨fun o d ho hdj hmem => ?_, fun o d ho hdi hmem => ?_, fun o k ho ht => ?_, fun o k ho ht => ?_, fun o ho q => nb q.2, fun o ho q => nb' q.2⟩
  · rw [hio] at ho; injection ho with ho; subst ho
    have e : oj'.dst = some d := by unfold dstO at hdj; rw [hjo] at hdj; exact hdj
    rw [e] at hn2
    have hn2 : (!Nat.testBit (maskL (namesT ops oi')) d) = true := hn2
    rw [maskL_mem hmem] at hn2
    cases hn2
  · rw [hjo] at ho; injection ho with ho; subst ho
    have e : oi'.dst = some d := by unfold dstO at hdi; rw [hio] at hdi; exact hdi
    rw [e] at hn1
    have hn1 : (!Nat.testBit (maskL (namesT ops oj')) d) = true := hn1
    rw [maskL_mem hmem] at hn1
    cases hn1
  · refine conf hjo hio (Ne.symm hne) hno' nb' (fun ⟨e1, e2⟩ => ?_) o k ho ht
    rw [e1, e2] at hk; cases hk
  · refine conf hio hjo hne hno nb (fun ⟨e1, e2⟩ => ?_) o k ho ht
    rw [e1, e2] at hk; cases hk
theorem draw_core (hP : P.follows .mixedOrders = true) (hi : SoundC P ih) {id : Nat} (hd : drawOk ops (oiL ops) = true) (hch : Chain P s.nt ops ih (oiL ops) ops.toList 0 s s' st)
    (hdyn : ∀ i j oi oj, (i, j) ∈ dynP (oiL ops) → ops[i]? = some oi → ops[j]? = some oj → tgt s.nt oi (st i).t ≠ tgt s.nt oj (st j).t) (hp : Pre ι D s r a w) : (Code.region id ops true).wpIn (FW r) m P (Post ι D s w .normal s') a w := by
  obtain ⟨c1, c2, c3⟩ := hch
  have hex : ∀ i, ∃ v, ∀ o, ops[i]? = some o → Cell P s.nt ops ih (barF (oiL ops) i) o (st i) (st (i + 1)) v := fun i => by
    cases e : ops[i]? with
    | none => exact ⟨undV, fun o ho => by cases ho⟩
    | some o =>
      obtain ⟨v, q⟩ := c3 i o (by simpa using e)
      refine ⟨v, fun o' ho => ?_⟩
      injection ho with ho; subst ho
      simpa using q
  have hR : Runs P s.nt ops ih (barF (oiL ops)) st (fun i => Classical.choose (hex i)) := fun i o ho => Classical.choose_spec (hex i) o ho
  have c2 : st ops.size = s' := by simpa using c2
  have c1' : st 0 = s := c1
  let w0 : World := { w with drawn := w.drawn + 1 }
  have hw0 : Wld ι D (st 0).h w0 := by
    rw [c1']
    exact ⟨hp.wl.nx, fun k b h1 h2 h3 => (hp.wl.ob k b h1 h2 h3).mono (Ext.refl ι) rfl rfl, hp.wl.lt, hp.wl.inj, hp.wl.gl⟩
  have htp : Top ι (st 0).h := by rw [c1']; exact hp.tp
  have htm : TmR ι (st 0).t s.nt a.tmps := by rw [c1']; exact hp.tm
  have hF := can_facts hi hR hp.all hw0 htp htm
  refine wpIn_region_any hP (any_ok (ι0 := ι) (a0 := a) (w0 := w0) hi hR hF (back_ok hd) (free_ok hd hdyn) (fun S ι' a' w' hI hall => ?_) ops.size (Array.replicate ops.size false) ι a w0 (by simp) (by omega) (fun i o _ hi => ?_) ?_)
  · have hf := inv_end hR hF hI hall hp.all hw0 htp (by rw [c1']) (by rw [c1']; exact hp.df)
    rw [c1', c2] at hf
    exact ⟨rfl, ι', ⟨⟨hf.st.nx, hf.st.out, hf.st.kap, hf.st.new, hf.st.lw, hf.st.same, hf.st.fr, hf.st.sz, hf.st.os, hf.st.tape, hf.st.output, hf.st.wl⟩, hf.tm, hf.df, hf.nt, hf.ro⟩⟩
  · exfalso
    by_cases c : i < ops.size <;> simp [Array.getD, c] at hi
  · have e : (fun j => (Array.replicate ops.size false).getD j false = true) = fun _ => False := funext fun j => propext ⟨fun q => by by_cases c : j < ops.size <;> simp [Array.getD, c] at q, fun q => q.elim⟩
    rw [e]
    exact inv_start hw0 hp.all htp htm
theorem nilB_nil {α : Type} {l : List α} (h : nilB l = true) : l = [] := nilB_eq h
theorem sd_draw (hP : P.follows .mixedOrders = true) (hi : SoundC P ih) {id : Nat} {F : Ih → St → Res} (hc : cDraw P s.nt ops (oiL ops) = some F) (hr : F ih s = some (x, s')) (hp : Pre ι D s r a w) : (Code.region id ops true).wpIn (FW r) m P (Post ι D s w x s') a w := by
  obtain ⟨hd, hc⟩ := grd_some hc
  rcases ifB_some hc with ⟨hn, hc⟩ | ⟨hn, hc⟩
  · obtain ⟨f, h1, hc⟩ := bnd_some hc
    injection hc with hc
    subst hc
    have hr : Option.rec (motive := fun _ => Res) none (fun s => some (.normal, s)) (f ih s) = some (x, s') := hr
    cases hf : f ih s with
    | none => rw [hf] at hr; cases hr
    | some s2 =>
      rw [hf] at hr
      injection hr with hr
      injection hr with e1 e2
      subst e1 e2
      obtain ⟨st, hch⟩ := cD0_chain h1 rfl hf
      exact draw_core hP hi hd hch (fun i j oi oj hm => by rw [nilB_nil hn] at hm; cases hm) hp
  · obtain ⟨f, h1, hc⟩ := bnd_some hc
    injection hc with hc
    subst hc
    obtain ⟨⟨s2, tl⟩, h2, hr⟩ := bnd_some hr
    obtain ⟨h3, hr⟩ := grd_some (hr : grd (allB (fun p => !Nat.beq (nth 0 p.1 tl) (nth 0 p.2 tl)) (dynP (oiL ops))) (some (.normal, s2)) = some (x, s'))
    injection hr with hr
    injection hr with e1 e2
    subst e1 e2
    obtain ⟨st, hch, htl⟩ := cD_chain h1 rfl h2
    refine draw_core hP hi hd hch (fun i j oi oj hm hoi hoj he => ?_) hp
    have := allB_mem h3 (i, j) hm
    have e1 := htl i oi (by simpa using hoi)
    have e2 := htl j oj (by simpa using hoj)
    rw [Nat.zero_add] at e1 e2
    have h4 : (!Nat.beq (nth 0 i tl) (nth 0 j tl)) = true := this
    rw [nth_eq, nth_eq, e1, e2, he, Nat.beq_refl] at h4
    cases h4
theorem ev_ok (hP : P.follows .mixedOrders = true) : ∀ n, SoundC P (ev P n)
  | 0 => fun c s x s' h => by cases h
  | n + 1 => by
    have hi := ev_ok hP n
    intro c s x s' hr ι D r m a w hp
    have hq : (bnd (cCode P s.nt c) fun f => f (ev P n) s) = some (x, s') := hr
    clear hr
    obtain ⟨f, hc, hr⟩ := bnd_some hq
    clear hq
    cases c with
    | skip => injection hc with hc; subst hc; refine ⟨?_, fun b e => by cases e⟩; have e : x = .normal := by (injection hr with hr; injection hr with e1 e2; exact e1.symm)
              subst e; exact sd_out (ih := ev P n) (fun Q a w q => wpIn_skip q) hr hp
    | region id ops draw =>
      refine ⟨?_, fun b e => by cases e⟩
      rcases ifB_some (hc : cReg P s.nt ops draw = some f) with ⟨rfl, hc⟩ | ⟨rfl, hc⟩
      · exact sd_draw hP hi hc hr hp
      · obtain ⟨g, h1, hc⟩ := bnd_some hc
        injection hc with hc
        subst hc
        exact sd_region hi h1 hr hp
    | seq b c => injection hc with hc; subst hc; exact ⟨sd_seq hi hr hp, fun b e => by cases e⟩
    | cond c b d =>
      obtain ⟨g, h1, hc⟩ := bnd_some hc
      injection hc with hc; subst hc
      exact ⟨sd_cond h1 hi hr hp, fun b e => by cases e⟩
    | block id b => injection hc with hc; subst hc; exact ⟨sd_block hi hr hp, fun b e => by cases e⟩
    | loop b =>
      injection hc with hc; subst hc
      have hl := sd_loop (m := m) hi hr hp
      refine ⟨hl.wp, fun b' e => ?_⟩
      injection e with e; subst e
      exact hl
    | rangeFunc g ps asg body =>
      obtain ⟨f1, h1, hc⟩ := bnd_some hc
      injection hc with hc; subst hc
      exact ⟨sd_range hi h1 hr hp, fun b e => by cases e⟩
    | exit id => injection hc with hc; subst hc; refine ⟨?_, fun b e => by cases e⟩; have e : x = .exit id := by (injection hr with hr; injection hr with e1 e2; exact e1.symm)
                 subst e; exact sd_out (ih := ev P n) (fun Q a w q => wpIn_exit q) hr hp
    | scope b => injection hc with hc; subst hc; exact ⟨sd_scope hi hr hp, fun b e => by cases e⟩
    | label l => injection hc with hc; subst hc; refine ⟨?_, fun b e => by cases e⟩; have e : x = .normal := by (injection hr with hr; injection hr with e1 e2; exact e1.symm)
                 subst e; exact sd_out (ih := ev P n) (fun Q a w q => wpIn_label q) hr hp
    | goto l => injection hc with hc; subst hc; refine ⟨?_, fun b e => by cases e⟩; have e : x = .goto l := by (injection hr with hr; injection hr with e1 e2; exact e1.symm)
                subst e; exact sd_out (ih := ev P n) (fun Q a w q => wpIn_goto q) hr hp
    | ret => injection hc with hc; subst hc; refine ⟨?_, fun b e => by cases e⟩; have e : x = .ret := by (injection hr with hr; injection hr with e1 e2; exact e1.symm)
             subst e; exact sd_out (ih := ev P n) (fun Q a w q => wpIn_ret q) hr hp
    | refuse q => cases hc
end Ev
end Go.Proofs.YtlbjnkopbabcnaaGreatDoor
end


section
namespace Go.Proofs.YtlbjnkopbabcnaaGreatDoor
namespace Ev
open Go.RowKit
set_option linter.unusedVariables false
set_option linter.unusedSimpArgs false
variable {P : Program} {m : Nat} {v : V} {h h' : Hp}
/-- rows that are only read -/
noncomputable def addAll (l : List L) : Hp → Hp := List.rec (motive := fun _ => Hp → Hp) (fun h => h) (fun c _ ih h => onHp h fun nx tr lw => ih ⟨Nat.succ nx, Tr.set (oRd c) 20 tr nx, lw⟩) l
noncomputable def hS (cs : List L) : Hp := onHp (addAll cs ⟨0, .leaf, 0⟩) fun nx tr _ => ⟨nx, tr, nx⟩
theorem addAll_at : ∀ {l : List L} {h : Hp}, h.nx + l.length ≤ 1000000000 → (addAll l h).nx = h.nx + l.length ∧ (∀ k, k < h.nx → (addAll l h).at_ k = h.at_ k) ∧ ∀ j c, l[j]? = some c → (addAll l h).at_ (h.nx + j) = oRd c
  | [], h, _ => ⟨rfl, fun _ _ => rfl, fun j c e => by cases e⟩
  | c :: l, h, hn => by
    have hn' : h.nx < 1000000000 := by simp at hn; omega
    obtain ⟨e1, e2, e3⟩ := addAll_at (l := l) (h := h.add (oRd c)) (by show h.nx + 1 + l.length ≤ _; simp at hn; omega)
    have q : addAll (c :: l) h = addAll l (h.add (oRd c)) := rfl
    have nn : (h.add (oRd c)).nx = h.nx + 1 := rfl
    rw [q]
    refine ⟨by rw [e1, nn]; simp; omega, fun k hk => ?_, fun j c' hj => ?_⟩
    · rw [e2 k (by omega), add_at hn' _ (by omega), if_neg (by omega)]
    · cases j with
      | zero =>
        injection hj with hj
        subst hj
        rw [Nat.add_zero, e2 h.nx (by omega), add_at hn' _ (Nat.le_refl _), if_pos rfl]
      | succ j =>
        have := e3 j c' hj
        rw [nn] at this
        rw [← this]
        congr 1; omega
/-- a closed call whose answer is true; it turns no variable of a package -/
noncomputable def yes (P : Program) (n f : Nat) (cs : List L) : Bool := Option.rec (motive := fun _ => Bool) false (fun r => on2 r fun v h' => Nat.beq v.tg 1 && (Nat.beq v.a 1 && Nat.ble (hS cs).nx h'.lw)) (evF P (ev P n) f [] (hS cs))
theorem yes_calls (hP : P.follows .mixedOrders = true) {n f : Nat} {cs : List L} (hy : yes P n f cs = true) (gs : List Nat) (hlen : gs.length = cs.length) (hsm : cs.length ≤ 1000000000) (hgm : ∀ g k, gmap g = some k → gs[k]? = some g) (hnd : ∀ k k' g : Nat, gs[k]? = some g → gs[k']? = some g → k = k')
    (w : World) (hW : ∀ (k g : Nat) (c : L), gs[k]? = some g → cs[k]? = some c → ∃ xs ys e fr, (∀ ι, CR ι c xs) ∧ w.heap[g]? = some (Obj.cells ⟨xs ++ ys⟩ e fr)) : Calls P f #[] w fun e w' => e = .returned (.bool true) ∧ Below w.heap.size w w' := by
  unfold yes at hy
  obtain ⟨n1, n2, n3⟩ := addAll_at (l := cs) (h := ⟨0, .leaf, 0⟩) (by show 0 + cs.length ≤ _; omega)
  have nn : (hS cs).nx = cs.length := by show (addAll cs ⟨0, .leaf, 0⟩).nx = _; rw [n1]; show 0 + cs.length = _; omega
  have na : ∀ j c, cs[j]? = some c → (hS cs).at_ j = oRd c := fun j c e => by
    have := n3 j c e
    rw [show (⟨0, .leaf, 0⟩ : Hp).nx + j = j from Nat.zero_add j] at this
    exact this
  cases hr : evF P (ev P n) f [] (hS cs) with
  | none => rw [hr] at hy; cases hy
  | some r =>
    obtain ⟨v, h'⟩ := r
    rw [hr] at hy
    obtain ⟨h1, h2⟩ := ifB_and (hy : (Nat.beq v.tg 1 && (Nat.beq v.a 1 && Nat.ble (hS cs).nx h'.lw)) = true)
    obtain ⟨h2, h3⟩ := ifB_and h2
    have h3 := ble_le h3
    have hlt : ∀ k g : Nat, gs[k]? = some g → k < cs.length := fun k g e => by rw [← hlen]; exact (List.getElem?_eq_some_iff.1 e).1
    have hcs : ∀ k, k < cs.length → ∃ c, cs[k]? = some c := fun k hk => ⟨cs[k], List.getElem?_eq_getElem hk⟩
    have hw : Wld ⟨fun k => gs[k]?, fun _ => 0⟩ (fun _ => True) (hS cs) w := by
      refine ⟨by omega, fun k b _ hk hb => ?_, fun k b hb => ?_, fun k k' b _ _ _ _ hne e1 e2 => absurd (hnd k k' b e1 e2) hne, hgm⟩
      · obtain ⟨c, hc⟩ := hcs k (by omega)
        obtain ⟨xs, ys, e, fr, q1, q2⟩ := hW k b c hb hc
        rw [na k c hc]
        exact ⟨fun e => (by cases e), fun e => (by cases e), fun e => (by cases e), fun _ => ⟨xs, ys, e, fr, q1 _, q2, fun q => absurd rfl q⟩, fun e => (by cases e)⟩
      · obtain ⟨c, hc⟩ := hcs k (hlt k b hb)
        obtain ⟨xs, ys, e, fr, q1, q2⟩ := hW k b c hb hc
        exact (Array.getElem?_eq_some_iff.1 q2).1
    have htp : Top ⟨fun k => gs[k]?, fun _ => 0⟩ (hS cs) := fun k hk => List.getElem?_eq_none (by omega)
    have hc := call_ok (m := 0) (r := none) (ev_ok hP n) hr (fun _ => trivial) hw htp .nil
    refine callsIn_wide.1 (CallsIn.mono (hc : CallsIn Fence.wide 0 P f #[] w _) ?_)
    rintro e w' ⟨v', rfl, ι', st, hv⟩
    obtain ⟨e1, _⟩ := hv.bool_inv (beq_eq h1)
    rw [h2] at e1
    exact ⟨by rw [e1], st.os, st.tape, st.output, st.sz, fun k hk => st.fr k hk fun j hj _ hl => absurd hj (by omega)⟩
/-- rows of numbers -/
noncomputable def intsL (k : IntKind) : List Int → L
  | [] => []
  | x :: l => vInt (idx k) x :: intsL k l
theorem intsL_ok {ι : Im} (k : IntKind) : ∀ l : List Int, CR ι (intsL k l) (l.map (Value.int k))
  | [] => .nil
  | x :: l => .cons rfl (.int k x) (intsL_ok k l)
/-- a variable whose first cells are known -/
theorem cells_known {w : World} {g : Nat} {xs : List Value} (hne : xs ≠ []) (h : ∀ j, j < xs.length → w.cell? ⟨g, j, none⟩ = xs[j]?) : ∃ ys e fr, w.heap[g]? = some (Obj.cells ⟨xs ++ ys⟩ e fr) := by
  have h0 := h 0 (List.length_pos_iff.2 hne)
  rw [List.getElem?_eq_getElem (List.length_pos_iff.2 hne)] at h0
  unfold World.cell? at h0
  split at h0
  · rename_i c e fr hc
    refine ⟨c.toList.drop xs.length, e, fr, ?_⟩
    rw [hc]
    congr 2
    apply Array.ext'
    show c.toList = xs ++ c.toList.drop xs.length
    have ht : c.toList.take xs.length = xs := by
      apply List.ext_getElem?
      intro j
      by_cases hj : j < xs.length
      · rw [List.getElem?_take_of_lt hj, ← h j hj]
        simp [World.cell?, hc]
      · have hl : (c.toList.take xs.length).length ≤ xs.length := by simp; omega
        rw [List.getElem?_eq_none (by omega), List.getElem?_eq_none (by omega)]
    have := List.take_append_drop xs.length c.toList
    rw [ht] at this
    exact this.symm
  · cases h0
end Ev
end Go.Proofs.YtlbjnkopbabcnaaGreatDoor
end
