/- V17 V18 V19 V20 V21 V22 -/
import Derived.Test.YtminplfgadhnnaaGreatDoorTV02
import Derived.RangeFuncLeaves
import Derived.OrdersIn

section
namespace Go.Proofs.YtminplfgadhnnaaGreatDoor
namespace Ev
set_option linter.unusedVariables false
set_option linter.unusedSimpArgs false
variable {ι ι' : Im} {D : Nat → Prop} {h h' : Hp} {w w' : World} {P : Program} {t : T} {nt : Nat} {a : Act} {ih : Ih} {ro : Option Nat} {v : V} {x : X} {s s' : St} {m : Nat}
/-- every machine, in the round of a loop -/
def FW (r : Option Nat) : Fence := { Fence.wide with round := r }
theorem FW_fn (r : Option Nat) (f : FuncId) : (FW r).fn f := trivial
theorem FW_n (r : Option Nat) (m : Nat) : (FW r).depth.isSome = true → 1 ≤ m := fun h => by simp [FW, Fence.wide] at h
theorem FW_room (r : Option Nat) (m : Nat) : (FW r).room m := fun _ h => by simp [FW, Fence.wide] at h
def xE : X → Exit
  | .normal => .normal
  | .exit id => .exit id
  | .goto l => .goto l
  | .ret => .ret
/-- numbers that are not given yet -/
def Top (ι : Im) (h : Hp) : Prop := ∀ k, h.nx ≤ k → ι k = none
theorem Top.fresh (ht : Top ι h) : Fresh ι h h' := fun k hk _ => ht k hk
theorem Top.step (ht : Top ι h) (st : Stp ι D h w ι' h' w') : Top ι' h' := fun k hk => by rw [st.out k (.inr hk)]; exact ht k (Nat.le_trans st.nx hk)
theorem Stp.extT (st : Stp ι D h w ι' h' w') (ht : Top ι h) (hw : Wld ι D h w) : Ext ι ι' := st.ext ht.fresh hw
inductive DfR (ι : Im) (D : Nat → Prop) : List Nat → List Deferred → Prop
  | nil : DfR ι D [] []
  | cons {k b : Nat} {df : List Nat} {ds : List Deferred} (h1 : ι k = some b) (h2 : D k) (t : DfR ι D df ds) : DfR ι D (k :: df) ({ target := .collected b, args := #[] } :: ds)
theorem DfR.mono {D' : Nat → Prop} {df : List Nat} {ds : List Deferred} (hd : DfR ι D df ds) (he : Ext ι ι') (hD : ∀ k, D k → D' k) : DfR ι' D' df ds := by
  induction hd with
  | nil => exact .nil
  | cons h1 h2 _ ih => exact .cons (he _ _ h1).1 (hD _ h2) ih
def RoR (ι : Im) (D : Nat → Prop) (ro r : Option Nat) : Prop := match ro with
  | none => r = none
  | some l => D l ∧ ∃ b, ι l = some b ∧ r = some b
theorem RoR.mono {D' : Nat → Prop} {r : Option Nat} (hd : RoR ι D ro r) (he : Ext ι ι') (hD : ∀ k, D k → D' k) : RoR ι' D' ro r := by
  cases ro with
  | none => exact hd
  | some l => obtain ⟨h1, b, h2, h3⟩ := hd; exact ⟨hD l h1, b, (he l b h2).1, h3⟩
/-- how a world is met -/
structure Pre (ι : Im) (D : Nat → Prop) (s : St) (r : Option Nat) (a : Act) (w : World) : Prop where
  all : ∀ k, D k
  wl : Wld ι D s.h w
  tp : Top ι s.h
  tm : TmR ι s.t s.nt a.tmps
  df : DfR ι D s.df a.defers
  ro : RoR ι D s.ro r
/-- where code ends -/
structure Fin (ι : Im) (D : Nat → Prop) (s : St) (w : World) (s' : St) (ι' : Im) (a' : Act) (w' : World) : Prop where
  st : Stp ι D s.h w ι' s'.h w'
  tm : TmR ι' s'.t s'.nt a'.tmps
  df : DfR ι' (fun k => D k ∨ s.h.nx ≤ k) s'.df a'.defers
  nt : s'.nt = s.nt
  ro : s'.ro = s.ro
def Post (ι : Im) (D : Nat → Prop) (s : St) (w : World) (x : X) (s' : St) (e : Exit) (a' : Act) (w' : World) : Prop := e = xE x ∧ ∃ ι', Fin ι D s w s' ι' a' w'
/-- a loop whose round begins -/
def LoopIn (F : Fence) (m : Nat) (P : Program) (c : Code) (Q : Exit → Act → World → Prop) (a : Act) (w : World) : Prop :=
  ∀ (b : Frame) (k : List Item) (cs : List Frame), b.roundOf = F.round → F.fn b.fn → F.room (cs.length + 1 + m) →
    ∃ e a' w', Q e a' w' ∧ ArrivesIn (Machine.fenced P F) P (lone (b.atR a (.code c :: .inLoop c :: k)) cs w) b k cs e a' w'
theorem LoopIn.wp {F : Fence} {c : Code} {Q : Exit → Act → World → Prop} (hl : LoopIn F m P c Q a w) : (Code.loop c).wpIn F m P Q a w := by
  intro b k cs hro hb hr
  obtain ⟨e, a', w', hq, harr⟩ := hl b k cs hro hb hr
  exact ⟨e, a', w', hq, .of_steps (.one (fenced_calm hb hr rfl) stepR_loop) harr⟩
theorem LoopIn.mono {F : Fence} {c : Code} {Q Q' : Exit → Act → World → Prop} (hl : LoopIn F m P c Q a w) (hq : ∀ e a w, Q e a w → Q' e a w) : LoopIn F m P c Q' a w :=
  fun b k cs h1 h2 h3 => let ⟨e, a', w', q, r⟩ := hl b k cs h1 h2 h3; ⟨e, a', w', hq _ _ _ q, r⟩
/-- code that is reckoned so does so -/
def SoundC (P : Program) (ih : Ih) : Prop := ∀ c s x s', ih c s = some (x, s') → ∀ (ι : Im) (D : Nat → Prop) (r : Option Nat) (m : Nat) (a : Act) (w : World), Pre ι D s r a w →
  c.wpIn (FW r) m P (Post ι D s w x s') a w ∧ ∀ b, c = .loop b → LoopIn (FW r) m P b (Post ι D s w x s') a w
theorem Pre.next {r : Option Nat} {a' : Act} (hp : Pre ι D s r a w) (hf : Fin ι D s w s' ι' a' w') : Pre ι' (fun k => D k ∨ s.h.nx ≤ k) s' r a' w' := by
  have he := hf.st.extT hp.tp hp.wl
  refine ⟨fun k => .inl (hp.all k), hf.st.wl, hp.tp.step hf.st, hf.tm, hf.df, ?_⟩
  rw [hf.ro]
  exact hp.ro.mono he (fun k h => .inl h)
theorem Fin.trans {s1 s2 : St} {w1 w2 : World} {ι1 ι2 : Im} {a1 a2 : Act} (h1 : Fin ι D s w s1 ι1 a1 w1) (h2 : Fin ι1 (fun k => D k ∨ s.h.nx ≤ k) s1 w1 s2 ι2 a2 w2) : Fin ι D s w s2 ι2 a2 w2 := by
  refine ⟨h1.st.trans h2.st, h2.tm, ?_, h2.nt.trans h1.nt, h2.ro.trans h1.ro⟩
  have hn := h1.st.nx
  exact h2.df.mono (Ext.refl _) fun k e2 => e2.elim id fun e2 => .inr (Nat.le_trans hn e2)
theorem Pre.fin {r : Option Nat} (hp : Pre ι D s r a w) : Fin ι D s w s ι a w :=
  ⟨Stp.refl hp.wl, hp.tm, hp.df.mono (Ext.refl ι) (fun _ h => .inl h), rfl, rfl⟩
theorem onX_normal {α : Type} {kn : α} {ke kg : Nat → α} {kr : α} : onX .normal kn ke kg kr = kn := rfl
section rules
variable {r : Option Nat}
theorem sd_out {c : Code} (hc : ∀ Q a w, Q (xE x) a w → c.wpIn (FW r) m P Q a w) (hr : out x ih s = some (x, s')) (hp : Pre ι D s r a w) : c.wpIn (FW r) m P (Post ι D s w x s') a w := by
  have e : s = s' := by injection hr with hr; injection hr
  subst e
  exact hc _ _ _ ⟨rfl, ι, hp.fin⟩
theorem sd_seq {b c : Code} (hi : SoundC P ih) (hr : evSeq b c ih s = some (x, s')) (hp : Pre ι D s r a w) : (Code.seq b c).wpIn (FW r) m P (Post ι D s w x s') a w := by
  obtain ⟨⟨x1, s1⟩, h1, hr⟩ := bnd_some hr
  refine wpIn_seq (wpIn_mono (hi _ _ _ _ h1 ι D r m a w hp).1 ?_)
  rintro e a1 w1 ⟨rfl, ι1, f1⟩
  cases x1 with
  | normal => exact wpIn_mono (hi _ _ _ _ hr ι1 _ r m a1 w1 (hp.next f1)).1 fun e a2 w2 ⟨he, ι2, f2⟩ => ⟨he, ι2, f1.trans f2⟩
  | exit id => injection hr with hr; injection hr with e1 e2; subst e1 e2; exact ⟨rfl, ι1, f1⟩
  | goto id => injection hr with hr; injection hr with e1 e2; subst e1 e2; exact ⟨rfl, ι1, f1⟩
  | ret => injection hr with hr; injection hr with e1 e2; subst e1 e2; exact ⟨rfl, ι1, f1⟩
theorem sd_loop {b : Code} (hi : SoundC P ih) (hr : evLoop b ih s = some (x, s')) (hp : Pre ι D s r a w) : LoopIn (FW r) m P b (Post ι D s w x s') a w := by
  obtain ⟨⟨x1, s1⟩, h1, hr⟩ := bnd_some hr
  have hb := (hi _ _ _ _ h1 ι D r m a w hp).1
  intro b0 k cs hro hf hroom
  obtain ⟨e, a1, w1, ⟨rfl, ι1, f1⟩, harr⟩ := hb b0 (.inLoop b :: k) cs hro hf hroom
  cases x1 with
  | normal =>
    have hl := (hi _ _ _ _ hr ι1 _ r m a1 w1 (hp.next f1)).2 b rfl
    obtain ⟨e2, a2, w2, ⟨he, ι2, f2⟩, harr2⟩ := hl b0 k cs hro hf hroom
    exact ⟨e2, a2, w2, ⟨he, ι2, f1.trans f2⟩, .of_steps (StepsIn.trans harr (.one (fenced_calm hf hroom rfl) stepR_inLoop)) harr2⟩
  | exit id => injection hr with hr; injection hr with e1 e2; subst e1 e2; exact ⟨_, a1, w1, ⟨rfl, ι1, f1⟩, .pass (x := .inLoop b) rfl (fun _ _ => .inl (by simp [xE])) harr⟩
  | goto id => injection hr with hr; injection hr with e1 e2; subst e1 e2; exact ⟨_, a1, w1, ⟨rfl, ι1, f1⟩, .pass (x := .inLoop b) rfl (fun _ _ => .inl (by simp [xE])) harr⟩
  | ret => injection hr with hr; injection hr with e1 e2; subst e1 e2; exact ⟨_, a1, w1, ⟨rfl, ι1, f1⟩, .pass (x := .inLoop b) rfl (fun _ _ => .inl (by simp [xE])) harr⟩
theorem sd_cond {c : Operand} {b d : Code} {f : T → V} (hf : cO s.nt c = some f) (hi : SoundC P ih) (hr : evCond f b d ih s = some (x, s')) (hp : Pre ι D s r a w) : (Code.cond c b d).wpIn (FW r) m P (Post ι D s w x s') a w := by
  obtain ⟨ht, hr⟩ := onB_some hr
  obtain ⟨e, -⟩ := ((hp.tm.opd hp.wl.gl #[c]) c (by simp) f hf).bool_inv ht
  refine wpIn_cond e ?_
  have := (hi _ _ _ _ hr ι D r m a w hp).1
  cases hb : Nat.beq (f s.t).a 1 <;> rw [hb] at this <;> exact this
theorem sd_block {b : Code} {id : Nat} (hi : SoundC P ih) (hr : evBlock id b ih s = some (x, s')) (hp : Pre ι D s r a w) : (Code.block id b).wpIn (FW r) m P (Post ι D s w x s') a w := by
  obtain ⟨⟨x1, s1⟩, h1, hr⟩ := bnd_some hr
  refine wpIn_block (wpIn_mono (hi _ _ _ _ h1 ι D r m a w hp).1 ?_)
  rintro e a1 w1 ⟨rfl, ι1, f1⟩
  cases x1 with
  | normal => injection hr with hr; injection hr with e1 e2; subst e1 e2; exact ⟨rfl, ι1, f1⟩
  | exit i =>
    show if i = id then _ else _
    rcases ifB_some hr with ⟨hb, hr⟩ | ⟨hb, hr⟩
    · rw [if_pos (beq_eq hb)]
      injection hr with hr; injection hr with e1 e2; subst e1 e2; exact ⟨rfl, ι1, f1⟩
    · rw [if_neg (fun e => by subst e; rw [Nat.beq_refl] at hb; cases hb)]
      injection hr with hr; injection hr with e1 e2; subst e1 e2; exact ⟨rfl, ι1, f1⟩
  | goto i => injection hr with hr; injection hr with e1 e2; subst e1 e2; exact ⟨rfl, ι1, f1⟩
  | ret => injection hr with hr; injection hr with e1 e2; subst e1 e2; exact ⟨rfl, ι1, f1⟩
theorem stepR_scope {b : Frame} {k : List Item} {cs : List Frame} {c : Code} : step P (lone (b.atR a (.code (.scope c) :: k)) cs w) = .next (lone (b.atR a (.code c :: .inScope c :: k)) cs w) :=
  step_lone_go (by simp [stepG, stepG.exec, Frame.atR])
theorem stepR_inScope {b : Frame} {k : List Item} {cs : List Frame} {c : Code} : step P (lone (b.atR a (.inScope c :: k)) cs w) = .next (lone (b.atR a k) cs w) :=
  step_lone_go (by simp [stepG, stepG.exec, Frame.atR])
theorem sd_scope {b : Code} (hi : SoundC P ih) (hr : evTo b ih s = some (x, s')) (hp : Pre ι D s r a w) : (Code.scope b).wpIn (FW r) m P (Post ι D s w x s') a w := by
  obtain ⟨⟨x1, s1⟩, h1, hr⟩ := bnd_some hr
  intro b0 k cs hro hf hroom
  obtain ⟨e, a1, w1, ⟨rfl, ι1, f1⟩, harr⟩ := (hi _ _ _ _ h1 ι D r m a w hp).1 b0 (.inScope b :: k) cs hro hf hroom
  have h0 : (lone (b0.atR a (.code (.scope b) :: k)) cs w).fenced P (FW r) := fenced_calm hf hroom rfl
  cases x1 with
  | normal =>
    injection hr with hr; injection hr with e1 e2; subst e1 e2
    exact ⟨_, a1, w1, ⟨rfl, ι1, f1⟩, .head h0 stepR_scope (StepsIn.trans harr (.one (fenced_calm hf hroom rfl) stepR_inScope))⟩
  | exit id =>
    injection hr with hr; injection hr with e1 e2; subst e1 e2
    have hx : exitTo id (.inScope b :: k) = exitTo id k := by simp [exitTo]
    exact ⟨_, a1, w1, ⟨rfl, ι1, f1⟩, fun k' hk => .head h0 stepR_scope (harr.1 k' (by rw [hx]; exact hk)),
      fun hr' hk => let ⟨k₁, h1, h2⟩ := harr.2 hr' (by rw [hx]; exact hk); ⟨k₁, h1, .head h0 stepR_scope h2⟩⟩
  | goto id => cases hr
  | ret => injection hr with hr; injection hr with e1 e2; subst e1 e2; exact ⟨_, a1, w1, ⟨rfl, ι1, f1⟩, .of_steps (.one h0 stepR_scope) harr⟩
end rules
end Ev
end Go.Proofs.YtminplfgadhnnaaGreatDoor
end


section
namespace Go.Proofs.YtminplfgadhnnaaGreatDoor
namespace Ev
set_option linter.unusedVariables false
set_option linter.unusedSimpArgs false
variable {ι ι' : Im} {D : Nat → Prop} {h h' : Hp} {w w' : World} {P : Program} {t : T} {nt : Nat} {a : Act} {ih : Ih} {ro : Option Nat} {v : V} {x : X} {s s' : St} {m : Nat}
theorem tofV_ok : ∀ {l : L} {n : Nat} {t t' : T}, tofV l n t = some t' → ∀ {vs pre : List Value}, LR ι l vs → pre.length = n → n + l.length ≤ nt → TmR ι t nt ⟨pre ++ List.replicate (nt - n) undef⟩ → TmR ι t' nt ⟨(pre ++ vs) ++ List.replicate (nt - (n + l.length)) undef⟩
  | [], n, t, t', hr, vs, pre, hl, hp, hn, ht => by
    injection hr with hr; subst hr
    cases hl
    simpa using ht
  | x :: l, n, t, t', hr, vs, pre, hl, hp, hn, ht => by
    obtain ⟨f, h1, hr⟩ := bnd_some hr
    cases hl with
    | cons hx hl =>
      rename_i u us
      have hn' : n + 1 + l.length ≤ nt := by simp at hn; omega
      have q := tofV_ok hr (pre := pre ++ [u]) hl (by simp [hp]) hn' (by
        have := ht.put h1 hx
        rw [List.setIfInBounds_toArray, List.set_append_right _ _ (by omega), hp, Nat.sub_self, show nt - n = (nt - (n + 1)) + 1 by omega, List.replicate_succ, List.set_cons_zero] at this
        simpa using this)
      have e : n + 1 + l.length = n + (x :: l).length := by simp; omega
      rw [e] at q
      simpa using q
theorem tm_empty (nt : Nat) : TmR ι eT nt ⟨[] ++ List.replicate (nt - 0) undef⟩ := by
  refine ⟨by simp, fun i f hi hf => ?_⟩
  have hu : (⟨[] ++ List.replicate (nt - 0) undef⟩ : Array Value).getD i undef = undef := by simp [Array.getD, hi]
  rw [hu]
  unfold tget at hf
  obtain ⟨f1, h1, hf⟩ := bnd_some hf
  obtain ⟨f2, h2, hf⟩ := bnd_some hf
  obtain ⟨f3, h3, hf⟩ := bnd_some hf
  injection hf with hf
  subst hf
  have e3 : f3 eT = e2 := by
    unfold g3 at h3
    split at h3 <;> first | (injection h3 with h3; subst h3; rfl) | cases h3
  have e2' : f2 e2 = e1 := by
    unfold g2 at h2
    split at h2 <;> first | (injection h2 with h2; subst h2; rfl) | cases h2
  have e1' : f1 e1 = undV := by
    unfold g1 at h1
    split at h1 <;> first | (injection h1 with h1; subst h1; rfl) | cases h1
  show VR ι (f1 (f2 (f3 eT))) undef
  rw [e3, e2', e1']
  exact VR.und
theorem shut_cons {b : Nat} {l : List Nat} (hr : shut (b :: l) h = some h') : ((h.at_ b).tg = 2) ∧ ∃ h1, setB b oDead h = some h1 ∧ shut l h1 = some h' := by
  obtain ⟨h0, hr⟩ := grd_some (hr : grd (Nat.beq (Tr.get 20 h.tr b).tg 2) (bnd (setB b oDead h) (shut l)) = some h')
  obtain ⟨h1, h2, h3⟩ := bnd_some hr
  exact ⟨beq_eq h0, h1, h2, h3⟩
theorem Wld.sub {D' : Nat → Prop} (hw : Wld ι D h w) (hs : ∀ k, D' k → D k) : Wld ι D' h w :=
  ⟨hw.nx, fun k b hD => hw.ob k b (hs k hD), hw.lt, fun k k' b h1 h2 => hw.inj k k' b (hs k h1) (hs k' h2), hw.gl⟩
theorem leaves_ok {F : Fence} {fn : Func} {tmps : Array Value} {R : Ending → World → Prop} {df : List Nat} {ds : List Deferred} (hd : DfR ι D df ds) (hall : ∀ k, D k) (hr : shut df h = some h') (hw : Wld ι D h w)
    (hQ : ∀ w', Stp ι D h w ι h' w' → ∃ v, (results fn tmps).run P w' = .ok v w' ∧ R (.returned v) w') : LeavesInM F m P fn tmps R ds .returning w := by
  induction hd generalizing h w with
  | nil => injection hr with hr; subst hr; exact hQ w (Stp.refl hw)
  | @cons k b df ds h1 h2 t ih =>
    obtain ⟨ht, h1', hs, hr⟩ := shut_cons hr
    obtain ⟨hb, rfl⟩ := setB_some hs
    have hg := (hw.ob k b h2 hb h1).df ht
    have hlt := hw.lt k b h1
    have st : Stp ι D h w ι (h.upd k oDead) (w.putObj b (.deferred none)) := stp_set hw hb h2 h1 (by omega) ⟨World.putObj_size, rfl, rfl, rfl, fun j hj => World.putObj_heap_other hj⟩ ObR.dead
    refine ⟨by simp, .inl ⟨b, _, rfl, run_takeDeferred hg, ?_⟩⟩
    refine ih hr (st.wl.sub fun k hk => .inl hk) fun w2 st2 => hQ w2 (st.trans ?_)
    exact { st2 with new := fun k b a1 a2 hb => (st2.new k b a1 a2 hb).imp id (fun ⟨k0, q1, q2, q3, q4⟩ => ⟨k0, q1, .inl q2, q3, q4⟩), same := fun k hk hh => st2.same k hk (hh.imp (fun hh hD => hh (.inl hD)) id), fr := fun b hb hk => st2.fr b hb (fun k a1 a2 => hk k a1 (.inl a2)), wl := st2.wl.sub fun k _ => .inl (hall k) }
theorem ress_cons {f : T → Hp → Option V} {fs : List (T → Hp → Option V)} {l : L} (hr : ress (f :: fs) t h = some l) : ∃ u us, f t h = some u ∧ ress fs t h = some us ∧ l = u :: us := by
  have hr : (bnd (f t h) fun v => bnd (ress fs t h) fun r => some (v :: r)) = some l := hr
  obtain ⟨u, h1, hr⟩ := bnd_some hr
  obtain ⟨us, h2, hr⟩ := bnd_some hr
  injection hr with hr
  exact ⟨u, us, h1, h2, hr.symm⟩
theorem res_ok {rs : List ResultVar} {fs : List (T → Hp → Option V)} (hc : cRes P nt rs = some fs) (hall : ∀ k, D k) (hw : Wld ι D h w) (ht : TmR ι t nt a.tmps) {l : L} (hr : ress fs t h = some l) :
    ∃ vs, (rs.mapM fun | .tmp t => pure (a.tmps.getD t undef) | .cell x ty => do loadVar ty (← asAddr (a.tmps.getD x undef)) : Sem (List Value)).run P w = .ok vs w ∧ LR ι l vs := by
  induction rs generalizing fs l with
  | nil => injection hc with hc; subst hc; injection hr with hr; subst hr; exact ⟨[], by simp, .nil⟩
  | cons r rs ih =>
    cases r with
    | tmp i =>
      obtain ⟨f, h1, hc⟩ := bnd_some hc
      obtain ⟨fs', h2, hc⟩ := bnd_some hc
      injection hc with hc
      subst hc
      obtain ⟨u, us, h3, h4, rfl⟩ := ress_cons hr
      injection h3 with h3
      subst h3
      obtain ⟨vs, e, hv⟩ := ih h2 h4
      exact ⟨a.tmps.getD i undef :: vs, by simp only [List.mapM_cons, Sem.run_bind, Sem.run_pure, Result.andThen_ok, e], .cons ((ht.opd hw.gl #[.tmp i]) _ (by simp) f h1) hv⟩
    | cell i ty =>
      obtain ⟨f, h1, hc⟩ := bnd_some hc
      obtain ⟨b, h0, hc⟩ := bnd_some hc
      obtain ⟨fs', h2, hc⟩ := bnd_some hc
      injection hc with hc
      subst hc
      obtain ⟨u, us, h3, h4, rfl⟩ := ress_cons hr
      obtain ⟨vs, e, hv⟩ := ih h2 h4
      obtain ⟨q, h3⟩ := onPtr_some h3
      obtain ⟨b', hb', e1⟩ := ((ht.opd hw.gl #[.tmp i]) _ (by simp) f h1).ptr_inv q
      obtain ⟨p1, p2, h3⟩ := row_some h3
      obtain ⟨xs, ys, e', hx, hg, -⟩ := row_cells hw p1 (hall _) hb' p2
      have e1' : a.tmps.getD i undef = .pointer (some ⟨b', (f t).b, none⟩) := e1
      have key : ∃ v', (loadVar ty ⟨b', (f t).b, none⟩).run P w = .ok v' w ∧ VR ι u v' := by
        rcases ifB_some h3 with ⟨rfl, h3⟩ | ⟨rfl, h3⟩
        · obtain ⟨c, h5, h3⟩ := bnd_some h3
          injection h3 with h3
          subst h3
          rw [vdrop_eq] at h5
          obtain ⟨rfl, hlen⟩ := vtake_some h5
          have l1 := hx.len
          obtain ⟨i0, hi0⟩ := aggT_info h0
          refine ⟨_, ?_, .agg ((hx.drop (f t).b).take (P.cellsOf ty))⟩
          have hrun : (loadCells ⟨b', (f t).b, none⟩ (P.cellsOf ty)).run P w = .ok ⟨(xs.drop (f t).b).take (P.cellsOf ty)⟩ w := by
            by_cases hz : P.cellsOf ty = 0
            · rw [hz]; rfl
            · exact run_loadCells_at hg (by rw [List.length_drop] at hlen; omega)
          simp [loadVar, aggT_some h0, run_size hi0, hrun]
        · obtain ⟨y, r, h5, h3⟩ := onCons_some h3
          injection h3 with h3
          subst h3
          rw [vdrop_eq] at h5
          obtain ⟨v', q1, q2⟩ := hd_drop hx h5
          refine ⟨v', ?_, q2⟩
          simp only [loadVar, Sem.run_bind, aggT_some h0, Result.andThen_ok, Bool.false_eq_true, if_false]
          refine run_load_at hg ?_
          have hl := (List.getElem?_eq_some_iff.1 q1).1
          simp [List.getElem?_append_left hl, q1]
      obtain ⟨v', k1, k2⟩ := key
      refine ⟨v' :: vs, ?_, .cons k2 hv⟩
      have k0 : (asAddr (a.tmps.getD i undef)).run P w = .ok ⟨b', (f t).b, none⟩ w := by rw [e1']; rfl
      simp only [List.mapM_cons, Sem.run_bind, Sem.run_pure, Result.andThen_ok, e, k0, k1]
theorem cFn_some {f : Nat} {d : Fd} (hc : cFn P f = some d) : ∃ fn, P.funcs[f]? = some fn ∧ (fn.name == "runtime.NumGoroutine") = false ∧ fn.body = some d.body ∧ d.nt = fn.ntmps ∧ cRes P fn.ntmps fn.results.toList = some d.rs := by
  obtain ⟨fn, h1, hc⟩ := bnd_some hc
  obtain ⟨h2, hc⟩ := grd_some hc
  obtain ⟨b, h3, hc⟩ := bnd_some hc
  obtain ⟨h4, hc⟩ := grd_some hc
  obtain ⟨rs, h5, hc⟩ := bnd_some hc
  rw [fN_eq] at hc
  injection hc with hc
  subst hc
  exact ⟨fn, h1, by simpa using h2, h3, rfl, h5⟩
theorem one_ok {l : L} {vs : List Value} (hl : LR ι l vs) : VR ι (one l) (if h : vs.toArray.size = 1 then vs.toArray[0] else .tuple vs.toArray) := by
  cases hl with
  | nil => exact .tup .nil
  | cons h t =>
    cases t with
    | nil => exact h
    | cons h2 t2 =>
      rw [dif_neg (by simp)]
      exact .tup (.cons h (.cons h2 t2))
theorem flat1_ok {u : Value} (hf : flat1 v = true) (hv : VR ι v u) : VR ι' v u := by
  cases hv with
  | int k n => exact .int k n
  | bool b => exact .bool b
  | nilp => exact .nilp
  | nils => exact .nils
  | nilf => exact .nilf
  | nilm => exact .nilm
  | ptr o h => simp [flat1, vPtr] at hf
  | sl o l c h => simp [flat1, vSl] at hf
  | slu o h hl hc => simp [flat1, vSlu] at hf
  | fn f h1 h2 => simp [flat1, vFn] at hf
  | yld h => simp [flat1, vYld] at hf
  | agg h => simp [flat1, vAgg] at hf
  | tup h => simp [flat1, vTup] at hf
theorem flatL_cons {p : V → Bool} {x : V} {l : L} (hf : flatL p (x :: l) = true) : p x = true ∧ flatL p l = true := by
  have hf : ifB (p x) (flatL p l) false = true := hf
  rw [ifB_eq] at hf
  split at hf
  · exact ⟨by assumption, hf⟩
  · cases hf
theorem flatC_ok {l : L} {us : List Value} (hf : flatL flat1 l = true) (hv : CR ι l us) : CR ι' l us := by
  induction l generalizing us with
  | nil => cases hv; exact .nil
  | cons x l ih =>
    obtain ⟨h1, h2⟩ := flatL_cons hf
    cases hv with
    | cons hs h t => exact .cons hs (flat1_ok h1 h) (ih h2 t)
theorem flat2_ok {u : Value} (hf : flat2 v = true) (hv : VR ι v u) : VR ι' v u := by
  unfold flat2 at hf
  rcases Bool.or_eq_true _ _ ▸ hf with hf | hf
  · exact flat1_ok hf hv
  · obtain ⟨h1, h2⟩ := ifB_and hf
    have h1 := beq_eq h1
    cases hv with
    | agg h => exact .agg (flatC_ok h2 h)
    | _ => simp [vInt, vBool, vNilp, vPtr, vNils, vSl, vSlu, vNilf, vFn, vYld, vNilm, vTup] at h1
theorem flatT_ok {l : L} {us : List Value} (hf : flatL flat2 l = true) (hv : LR ι l us) : LR ι' l us := by
  induction l generalizing us with
  | nil => cases hv; exact .nil
  | cons x l ih =>
    obtain ⟨h1, h2⟩ := flatL_cons hf
    cases hv with
    | cons h t => exact .cons (flat2_ok h1 h) (ih h2 t)
theorem flat_ok {u : Value} (hf : flat v = true) (hv : VR ι v u) : VR ι' v u := by
  unfold flat at hf
  rcases Bool.or_eq_true _ _ ▸ hf with hf | hf
  · exact flat2_ok hf hv
  · obtain ⟨h1, h2⟩ := ifB_and hf
    have h1 := beq_eq h1
    cases hv with
    | tup h => exact .tup (flatT_ok h2 h)
    | _ => simp [vInt, vBool, vNilp, vPtr, vNils, vSl, vSlu, vNilf, vFn, vYld, vNilm, vAgg] at h1
/-- how a call ends -/
def RetR (ι : Im) (D : Nat → Prop) (h : Hp) (w : World) (v : V) (h' : Hp) (e : Ending) (w' : World) : Prop := ∃ v', e = .returned v' ∧ ∃ ι', Stp ι D h w ι' h' w' ∧ VR ι' v v'
theorem swept_ok {v1 : V} {h1 : Hp} {e : Ending} (hq : swept h (v1, h1) = (v, h')) (hw : Wld ι D h w) (hall : ∀ k, D k) (hr : RetR ι D ⟨h.nx, h.tr, h.nx⟩ w v1 h1 e w') : RetR ι D h w v h' e w' := by
  obtain ⟨v', rfl, ι1, st, hv⟩ := hr
  refine ⟨v', rfl, ?_⟩
  have hq : ifB (Nat.ble h.nx h1.lw) (ifB (flat v1) (v1, h) (v1, ⟨h1.nx, h1.tr, h.lw⟩)) (v1, ⟨h1.nx, h1.tr, ifB (Nat.blt h1.lw h.lw) h1.lw h.lw⟩) = (v, h') := hq
  rw [ifB_eq, ifB_eq, ifB_eq] at hq
  have nx := st.nx
  have ex : ∀ k, k < h.nx → ∀ b, ι k = some b → b < w.heap.size := fun k _ b hb => hw.lt k b hb
  by_cases c : Nat.ble h.nx h1.lw = true
  · rw [if_pos c] at hq
    have c' := ble_le c
    have hfr : ∀ b, b < w.heap.size → w'.heap[b]? = w.heap[b]? := fun b hb => st.fr b hb (fun k a1 _ a3 => absurd (Nat.le_trans c' a3) (by have : k < h.nx := a1; omega))
    by_cases c2 : flat v1 = true
    · rw [if_pos c2] at hq
      injection hq with q1 q2
      subst q1 q2
      refine ⟨ι, ⟨Nat.le_refl _, fun _ _ => rfl, fun _ _ => rfl, fun k b h1 h2 => absurd h2 (by omega), Nat.le_refl _, fun _ _ _ => rfl, fun b hb _ => hfr b hb, st.sz, st.os, st.tape, st.output, ?_⟩, flat_ok c2 hv⟩
      refine ⟨hw.nx, fun k b _ hk hb => (hw.ob k b (hall k) hk hb).mono (Ext.refl ι) rfl (hfr b (hw.lt k b hb)), fun k b hb => Nat.lt_of_lt_of_le (hw.lt k b hb) st.sz, fun k k' b _ _ => hw.inj k k' b (hall k) (hall k'), hw.gl⟩
    · rw [if_neg c2] at hq
      injection hq with q1 q2
      subst q1 q2
      refine ⟨ι1, ⟨nx, st.out, st.kap, fun k b a1 a2 hb => .inl ?_, Nat.le_refl _, fun k hk hh => st.same k hk (.inr (Nat.lt_of_lt_of_le hk c')), fun b hb _ => hfr b hb, st.sz, st.os, st.tape, st.output, ?_⟩, hv⟩
      · rcases st.new k b a1 a2 hb with q | ⟨k0, q1, q2, q3, q4⟩
        · exact q
        · have : k0 < h.nx := q1; omega
      · exact ⟨st.wl.nx, st.wl.ob, st.wl.lt, st.wl.inj, st.wl.gl⟩
  · rw [if_neg c] at hq
    injection hq with q1 q2
    subst q1 q2
    have c' : h1.lw < h.nx := not_ble (Bool.eq_false_iff.2 c)
    have hm : (if Nat.blt h1.lw h.lw = true then h1.lw else h.lw) ≤ h.lw ∧ (if Nat.blt h1.lw h.lw = true then h1.lw else h.lw) ≤ h1.lw := by
      split
      · have := blt_lt ‹_›; omega
      · rename_i q
        have : ¬ h1.lw < h.lw := fun e => q (Nat.ble_eq_true_of_le e)
        omega
    generalize (if Nat.blt h1.lw h.lw = true then h1.lw else h.lw) = lw at hm ⊢
    refine ⟨ι1, ⟨nx, st.out, st.kap, fun k b a1 a2 hb => (st.new k b a1 a2 hb).imp id (fun ⟨k0, q1, q2, q3, q4⟩ => ⟨k0, q1, q2, Nat.le_trans hm.2 q3, q4⟩), hm.1, fun k hk hh => st.same k hk (hh.imp id fun q => Nat.lt_of_lt_of_le q hm.2), fun b hb hk => st.fr b hb (fun k a1 a2 a3 => hk k a1 a2 (Nat.le_trans hm.2 a3)), st.sz, st.os, st.tape, st.output, ?_⟩, hv⟩
    exact ⟨st.wl.nx, st.wl.ob, st.wl.lt, st.wl.inj, st.wl.gl⟩
theorem RetR.mk {hw : Wld ι D h w} {v' : Value} (st : Stp ι D h w ι' h' w') (hv : VR ι' v v') : RetR ι D h w v h' (.returned v') w' := ⟨v', rfl, ι', st, hv⟩
theorem call_ok (hi : SoundC P ih) {f : Nat} {args : L} {vs : List Value} {r : Option Nat} (hr : evF P ih f args h = some (v, h')) (hall : ∀ k, D k) (hw : Wld ι D h w) (ht : Top ι h) (hl : LR ι args vs) :
    CallsIn (FW r) m P f ⟨vs⟩ w (RetR ι D h w v h') := by
  obtain ⟨d, h1, hr⟩ := bnd_some hr
  obtain ⟨h2, hr⟩ := grd_some hr
  obtain ⟨t, h3, hr⟩ := bnd_some hr
  obtain ⟨⟨x, s⟩, h4, hr⟩ := bnd_some (hr : (bnd (ih d.body ⟨t, d.nt, ⟨h.nx, h.tr, h.nx⟩, [], none⟩) _) = some (v, h'))
  obtain ⟨⟨v1, h5⟩, h6, hr⟩ := bnd_some (hr : (bnd (onX x (endF d.rs s) (fun _ => none) (fun _ => none) (endF d.rs s)) fun r => some (swept h r)) = some (v, h'))
  injection hr with hr
  obtain ⟨fn, g1, g2, g3, g4, g5⟩ := cFn_some h1
  have hn : args.length ≤ d.nt := by have := ble_le h2; rwa [vlen_eq] at this
  have hlen := hl.len
  have htm := tofV_ok h3 hl (pre := []) rfl (by omega) (tm_empty d.nt)
  have hw0 : Wld ι D ⟨h.nx, h.tr, h.nx⟩ w := ⟨hw.nx, hw.ob, hw.lt, hw.inj, hw.gl⟩
  refine CallsIn.mono (R := RetR ι D ⟨h.nx, h.tr, h.nx⟩ w v1 h5) ?_ (fun e w' q => swept_ok hr hw hall q)
  refine callsIn_of_wp_marks (F := FW none) g1 g3 trivial ?_
  have harg : ((⟨vs⟩ : Array Value) ++ Array.replicate (fn.ntmps - (⟨vs⟩ : Array Value).size) undef) = ⟨([] ++ vs) ++ List.replicate (d.nt - (0 + args.length)) undef⟩ := by
    apply Array.ext'
    simp [g4, hlen]
  rw [harg]
  have hb := (hi _ _ _ _ h4 ι D none m { tmps := ⟨([] ++ vs) ++ List.replicate (d.nt - (0 + args.length)) undef⟩, defers := [] } w ⟨hall, hw0, ht, htm, .nil, rfl⟩).1
  refine wpIn_mono hb ?_
  rintro e a' w' ⟨rfl, ι1, f1⟩
  have key : endF d.rs s = some (v1, h5) → LeavesInM (FW none) m P fn a'.tmps (RetR ι D ⟨h.nx, h.tr, h.nx⟩ w v1 h5) a'.defers .returning w' := by
    intro h6
    obtain ⟨h7, p1, h6⟩ := bnd_some (h6 : (bnd (shut s.df s.h) fun h => bnd (ress d.rs s.t h) fun v => some (one v, h)) = some (v1, h5))
    obtain ⟨l, p2, h6⟩ := bnd_some h6
    injection h6 with h6
    injection h6 with q1 q2
    subst q1 q2
    have hall' : ∀ k, D k ∨ h.nx ≤ k := fun k => .inl (hall k)
    refine leaves_ok f1.df hall' p1 f1.st.wl ?_
    intro w2 st2
    have hw2 := st2.wl.sub (D' := fun k => D k ∨ h.nx ≤ k) fun k q => .inl q
    have htm2 : TmR ι1 s.t fn.ntmps a'.tmps := by have := f1.tm; rwa [f1.nt, g4] at this
    obtain ⟨vs', e1, e2⟩ := res_ok g5 hall' hw2 htm2 p2
    refine ⟨_, ?_, RetR.mk (hw := hw0) (f1.st.trans st2) (one_ok e2)⟩
    unfold results
    rw [Array.mapM_eq_mapM_toList]
    simp only [Sem.run_bind, Sem.run_map, Sem.run_pure]
    have e3 := congrArg (fun r => (r.andThen fun a w => Result.ok a.toArray w).andThen fun vs w => Result.ok (if h : vs.size = 1 then vs[0] else Value.tuple vs) w) e1
    exact e3
  cases x with
  | normal => exact key h6
  | exit id => cases h6
  | goto id => cases h6
  | ret => exact key h6
end Ev
end Go.Proofs.YtminplfgadhnnaaGreatDoor
end


section
namespace Go.Proofs.YtminplfgadhnnaaGreatDoor
namespace Ev
set_option linter.unusedVariables false
set_option linter.unusedSimpArgs false
variable {ι ι' : Im} {D : Nat → Prop} {h h' : Hp} {w w' : World} {P : Program} {t : T} {nt : Nat} {a : Act} {ih : Ih} {ro : Option Nat} {v : V} {x : X} {s s' : St} {m : Nat}
theorem onLp_some {α : Type} {o : Ob} {k : Lp → Option α} {r : α} (hk : onLp o k = some r) : o.tg = 1 ∧ ∃ y, o.lp = some y ∧ k y = some r := by
  unfold onLp at hk
  rcases ifB_some hk with ⟨h1, h2⟩ | ⟨_, h2⟩
  · obtain ⟨y, h3, h4⟩ := bnd_some h2
    exact ⟨beq_eq h1, y, h3, h4⟩
  · cases h2
theorem nilB_eq {α : Type} {l : List α} (h : nilB l = true) : l = [] := by cases l with
  | nil => rfl
  | cons x l => cases h
theorem Lp.to_eq (y : Lp) (st : Nat) (p : Option Code) : y.to st p = oLp ⟨st, p, y.t, y.nt, y.ps, y.asg, y.body⟩ := rfl
theorem lp_get (hall : ∀ k, D k) (hw : Wld ι D h w) {l l' : Nat} {y : Lp} (hl : l < h.nx) (hi : ι l = some l') (ht : (h.at_ l).tg = 1) (hy : (h.at_ l).lp = some y) : ∃ r : Loop, w.heap[l']? = some (.loop r) ∧ LpR ι y r := by
  obtain ⟨x, r, h1, h2, h3⟩ := (hw.ob l l' (hall l) hl hi).lp ht
  rw [hy] at h1
  injection h1 with h1
  subst h1
  exact ⟨r, h2, h3⟩
theorem lp_set (hall : ∀ k, D k) (hw : Wld ι D h w) {l l' st : Nat} {y : Lp} {p : Option Code} {r : Loop} {sta : LoopState} (hi : ι l = some l') (ht : (h.at_ l).tg = 1) (hr : LpR ι y r) (hg : w.heap[l']? = some (.loop r)) (hs : setB l (y.to st p) h = some h') (hsta : stN sta = st) :
    Stp ι D h w ι h' (w.putObj l' (.loop { r with state := sta, pending := p })) := by
  obtain ⟨hb, rfl⟩ := setB_some hs
  have hlt := hw.lt l l' hi
  refine stp_set hw hb (hall l) hi (by omega) ⟨World.putObj_size, rfl, rfl, rfl, fun j hj => World.putObj_heap_other hj⟩ ?_
  refine ⟨fun e => (by cases e), fun _ => ⟨_, _, rfl, World.putObj_heap_same hlt, ?_⟩, fun e => (by cases e), fun e => (by cases e)⟩
  exact { st := hsta, pend := rfl, ps := hr.ps, asg := hr.asg, body := hr.body, tm := hr.tm }
theorem setPs_ok : ∀ {ps : List Nat} {l : L} {t t' : T}, setPs ps l t = some t' → ∀ {vs : List Value} {tmps : Array Value}, LR ι l vs → TmR ι t nt tmps → vs.length = ps.length ∧ TmR ι t' nt ((ps.zip vs).foldl (fun tmps p => tmps.setIfInBounds p.1 p.2) tmps)
  | [], l, t, t', hr, vs, tmps, hl, ht => by
    obtain ⟨h1, hr⟩ := grd_some (hr : grd (Nat.beq (vlen l) 0) (some t) = some t')
    injection hr with hr
    subst hr
    have h1 := beq_eq h1
    rw [vlen_eq] at h1
    have := hl.len
    have h0 : vs.length = 0 := by omega
    exact ⟨by rw [h0]; rfl, by simpa using ht⟩
  | p :: ps, l, t, t', hr, vs, tmps, hl, ht => by
    obtain ⟨x, xs, rfl, hr⟩ := onCons_some hr
    obtain ⟨f, h1, hr⟩ := bnd_some hr
    cases hl with
    | cons hx hl =>
      obtain ⟨e, q⟩ := setPs_ok hr hl (ht.put h1 hx)
      exact ⟨by simp [e], by simpa using q⟩
theorem Wld.all {D' : Nat → Prop} (hw : Wld ι D h w) (hall : ∀ k, D k) : Wld ι D' h w := hw.sub fun k _ => hall k
theorem Stp.all {D' : Nat → Prop} (st : Stp ι D h w ι' h' w') (hall : ∀ k, D k) (hall' : ∀ k, D' k) : Stp ι D' h w ι' h' w' :=
  { st with new := fun k b a1 a2 hb => (st.new k b a1 a2 hb).imp id (fun ⟨k0, q1, _, q3, q4⟩ => ⟨k0, q1, hall' k0, q3, q4⟩), same := fun k hk hh => st.same k hk (hh.imp (fun q => absurd (hall' k) q) id), fr := fun b hb hk => st.fr b hb (fun k a1 _ => hk k a1 (hall' k)), wl := st.wl.sub fun k _ => .inl (hall k) }
theorem round_ok (hi : SoundC P ih) {l l' : Nat} {args : L} {vs : List Value} {r : Option Nat} (hr : evR ih l args h = some (v, h')) (hall : ∀ k, D k) (hw : Wld ι D h w) (htp : Top ι h) (hl : ι l = some l') (hv : LR ι args vs) :
    ∃ rec : Loop, w.heap[l']? = some (.loop rec) ∧ vs.length = rec.params.size ∧ RoundIn (FW r) m P l' rec.fn ((rec.params.zip ⟨vs⟩).foldl (fun tmps (t, a) => tmps.setIfInBounds t a) rec.tmps) rec.assign rec.body w (RetR ι D h w v h') := by
  obtain ⟨h1, y, h2, hr⟩ := onLp_some hr
  have hlt : l < h.nx := by
    by_cases c : l < h.nx
    · exact c
    · rw [htp l (by omega)] at hl; cases hl
  obtain ⟨rec, g1, g2⟩ := lp_get hall hw hlt hl h1 h2
  obtain ⟨t', h3, hr⟩ := bnd_some hr
  rw [fN_eq, fC_eq] at hr
  obtain ⟨⟨e, s⟩, h4, hr⟩ := bnd_some hr
  obtain ⟨q1, q2⟩ := setPs_ok h3 hv g2.tm
  refine ⟨rec, g1, by rw [q1, ← g2.ps]; simp, ?_⟩
  refine roundIn_of_wpIn trivial ?_
  have htm : TmR ι t' y.nt ((rec.params.zip ⟨vs⟩).foldl (fun tmps (t, a) => tmps.setIfInBounds t a) rec.tmps) := by
    rw [← Array.foldl_toList, Array.toList_zip, g2.ps]
    exact q2
  have hasg := (hi _ _ _ _ h4 ι D (some l') m { tmps := _, defers := [] } w ⟨hall, hw, htp, htm, .nil, hall l, l', hl, rfl⟩).1
  rw [g2.asg]
  refine wpIn_mono hasg ?_
  rintro e1 a1 w1 ⟨rfl, ι1, f1⟩
  cases e with
  | exit id => cases hr
  | goto id => cases hr
  | ret => cases hr
  | normal =>
    have hr : bodyR ih l y s = some (v, h') := hr
    unfold bodyR at hr
    rw [onSt_eq] at hr
    obtain ⟨c1, hr⟩ := grd_some hr
    have c1 := nilB_eq c1
    obtain ⟨c2, y1, c3, hr⟩ := onLp_some hr
    obtain ⟨c4, hr⟩ := grd_some hr
    obtain ⟨h5, c5, hr⟩ := bnd_some hr
    rw [fC_eq] at hr
    obtain ⟨⟨e2, s3⟩, c6, hr⟩ := bnd_some hr
    have hr : (grd (nilB s3.df) (onLp (Tr.get 20 s3.h.tr l) fun z => endR l e2 s3.h z)) = some (v, h') := hr
    obtain ⟨d1, hr⟩ := grd_some hr
    obtain ⟨d2, z, d3, hr⟩ := onLp_some hr
    have hl1 : ι1 l = some l' := (f1.st.extT htp hw _ _ hl).1
    have nx1 : h.nx ≤ s.h.nx := f1.st.nx
    have hall1 : ∀ k, D k ∨ h.nx ≤ k := fun k => .inl (hall k)
    obtain ⟨rec1, k1, k2⟩ := lp_get hall1 f1.st.wl (by omega) hl1 c2 c3
    have hrd : rec1.state = .ready := by
      have := k2.st
      rw [beq_eq c4] at this
      cases hst : rec1.state <;> rw [hst] at this <;> first | rfl | cases this
    have st1 := lp_set (sta := .busy) (p := y1.pend) hall1 f1.st.wl hl1 c2 k2 k1 c5 rfl
    refine ⟨_, run_beginRound k1 hrd, ?_⟩
    have ew : ({ rec1 with state := LoopState.busy, pending := y1.pend } : Loop) = { rec1 with state := LoopState.busy } := by rw [← k2.pend]
    rw [ew] at st1
    have tp1 := htp.step f1.st
    have tp2 := tp1.step st1
    have hw2 := st1.wl
    have hdf : a1.defers = [] := by
      have := f1.df
      rw [c1] at this
      generalize a1.defers = ds at this
      cases this; rfl
    have hb := (hi _ _ _ _ c6 ι1 (fun k => D k ∨ h.nx ≤ k) (some l') m a1 _ ⟨hall1, hw2.all (fun k => .inl (hall1 k)), tp2, f1.tm, by rw [hdf]; exact .nil, hall1 l, l', hl1, rfl⟩).1
    rw [g2.body]
    refine wpIn_mono hb ?_
    rintro e3 a3 w3 ⟨rfl, ι3, f3⟩
    have hl3 : ι3 l = some l' := (f3.st.extT tp2 (hw2.all (fun k => .inl (hall1 k))) _ _ hl1).1
    have nx2 : h5.nx = s.h.nx := by obtain ⟨_, rfl⟩ := setB_some c5; rfl
    have nx3 : h5.nx ≤ s3.h.nx := f3.st.nx
    obtain ⟨rec3, p1, p2⟩ := lp_get (fun k => .inl (hall1 k)) f3.st.wl (by omega) hl3 d2 d3
    have tot : Stp ι D h w ι3 s3.h w3 := f1.st.trans (st1.trans (f3.st.all hall1 (fun k => .inl (hall1 k))))
    have fin : ∀ {st : Nat} {p : Option Code} {sta : LoopState} {u : Bool}, (bnd (setB l (z.to st p) s3.h) fun h => some (vBool u, h)) = some (v, h') → stN sta = st → RetR ι D h w v h' (.returned (.bool u)) (w3.putObj l' (.loop { rec3 with state := sta, pending := p })) := by
      intro st p sta u hq hsta
      obtain ⟨h6, j1, hq⟩ := bnd_some hq
      injection hq with hq
      injection hq with e1 e2
      subst e1 e2
      have st4 := lp_set (sta := sta) (fun k => .inl (hall1 k)) f3.st.wl hl3 d2 p2 p1 j1 hsta
      exact ⟨_, rfl, ι3, tot.trans (st4.all (fun k => .inl (hall1 k)) (fun k => .inl (hall k))), .bool u⟩
    cases e2 with
    | normal => exact ⟨_, _, run_endRound none p1, fin (sta := .ready) (p := none) hr rfl⟩
    | exit id => exact ⟨_, _, run_endRound (some (.exit id)) p1, fin (sta := .done) (p := some (.exit id)) hr rfl⟩
    | goto id => exact ⟨_, _, run_endRound (some (.goto id)) p1, fin (sta := .done) (p := some (.goto id)) hr rfl⟩
    | ret => exact ⟨_, _, run_endRound (some .ret) p1, fin (sta := .done) (p := some .ret) hr rfl⟩
end Ev
end Go.Proofs.YtminplfgadhnnaaGreatDoor
end


section
namespace Go.Proofs.YtminplfgadhnnaaGreatDoor
namespace Ev
set_option linter.unusedVariables false
set_option linter.unusedSimpArgs false
variable {ι ι' : Im} {D : Nat → Prop} {h h' : Hp} {w w' : World} {P : Program} {t : T} {nt : Nat} {a : Act} {ih : Ih} {ro : Option Nat} {v : V} {x : X} {s s' : St} {m : Nat}
theorem run_callFunc {f : Nat} {fn : Func} {b : Code} {args : Array Value} (h1 : P.funcs[f]? = some fn) (h2 : (fn.name == "runtime.NumGoroutine") = false) (h3 : fn.body = some b) : (callFunc f args).run P w = .ok (.enter f args) w := by
  have hp : (program).run P w = .ok P w := rfl
  unfold callFunc
  rw [Sem.run_bind, hp, Result.andThen_ok, h1]
  simp [h2, h3]
theorem opr_ok (hi : SoundC P ih) {o : Oper} {f : Fo} (hc : cOp P nt o.op = some f) (hO : Opd ι nt t a o.op.operands) (hw : Wld ι D h w) (htp : Top ι h) (hN : Need nt t D o) (hr : f ih ro t h = some (v, h')) {K : Act → World → Prop} {Q : Exit → Act → World → Prop} {r : Option Nat}
    (hK : ∀ v' w' ι', Stp ι D h w ι' h' w' → VR ι' v v' → K (a.put o.dst v') w') : o.wpIn (FW r) m P a w K Q := by
  refine ⟨fun _ _ => trivial, ?_⟩
  have hdef : ∀ c, o.op ≠ .defer c := by
    intro c e
    rw [e] at hc
    cases hc
  rw [Oper.semAt_eq _ _ _ hdef]
  cases hv : isVal o.op with
  | false =>
    obtain ⟨v', w', ι', hrun, st, hvr⟩ := op_ok hc hv hO hw hN hr htp.fresh
    rcases hrun with hrun | ⟨hrun, rfl⟩
    · rw [hrun]; exact hK v' w' ι' st hvr
    · rw [hrun]; exact hK undef w' ι' st hvr
  | true =>
    generalize hop : o.op = op at hc hv
    cases op with
    | call c =>
      obtain ⟨callee, args, ats⟩ := c
      cases callee with
      | builtin b => cases hv
      | invoke x n => cases hv
      | value g =>
        have hc : (bnd (cO nt g) fun f => bnd (cOs nt args.toList) fun l => some (opCall P f l)) = some f := hc
        obtain ⟨f1, h1, hc⟩ := bnd_some hc
        obtain ⟨l, h2, hc⟩ := bnd_some hc
        injection hc with hc
        subst hc
        have hall : ∀ k, D k := hN.1 (by unfold kindO; rw [hop])
        have v1 := hO g (by simp [hop, Op.operands, Call.operands]) f1 h1
        have vl : LR ι (vals l t) (args.toList.map a.eval) := vals_ok h2 fun x hx f hf => hO x (by simp only [hop, Op.operands, Call.operands]; first | (simp; right; simpa using hx) | (simp; left; simpa using hx) | (simp; simpa using hx)) f hf
        rcases onFn_some (hr : onFn (f1 t) (fun f fs cs => evF P ih f (vapp fs (vapp (vals l t) cs)) h) (fun k => evR ih k (vals l t) h) = some (v, h')) with ⟨ht, hr⟩ | ⟨ht, hr⟩
        · obtain ⟨fs, cs, q1, q2, e⟩ := v1.fn_inv ht
          have hcall := call_ok (m := m - 1) (r := r) hi hr hall hw htp (by rw [vapp_eq, vapp_eq]; exact q1.app (vl.app q2))
          obtain ⟨d, hd, -⟩ := bnd_some hr
          obtain ⟨fn, g1, g2, g3, -⟩ := cFn_some hd
          have hrun : (execOp a.eval o).run P w = .ok (.enter (f1 t).a ⟨fs ++ (args.toList.map a.eval ++ cs)⟩) w := by
            have ea : (⟨fs⟩ ++ args.map a.eval ++ ⟨cs⟩ : Array Value) = ⟨fs ++ (args.toList.map a.eval ++ cs)⟩ := by apply Array.ext'; simp
            simp [execOp, hop, resolve, e, Deferred.ofValue, invoke, ea, run_callFunc g1 g2 g3]
          rw [hrun]
          refine ⟨FW_n r m, hcall.mono ?_⟩
          rintro e1 w1 ⟨v', rfl, ι', st, hvr⟩
          exact hK v' w1 ι' st hvr
        · obtain ⟨l', q1, e⟩ := v1.yld_inv ht
          obtain ⟨rec, g1, g2, g3⟩ := round_ok (m := m - 1) (r := r) hi hr hall hw htp q1 vl
          have hrun : (execOp a.eval o).run P w = .ok (.round l' rec.fn ((rec.params.zip ⟨args.toList.map a.eval⟩).foldl (fun tmps (t, a) => tmps.setIfInBounds t a) rec.tmps) rec.assign rec.body) w := by
            have ea : (args.map a.eval : Array Value) = ⟨args.toList.map a.eval⟩ := by apply Array.ext'; simp
            have := run_yield (P := P) (args := ⟨args.toList.map a.eval⟩) g1 (by simpa using g2)
            simp only [execOp, hop, resolve, e, Deferred.ofValue, invoke, Sem.run_bind, Sem.run_pure, Result.andThen_ok, ea]
            simpa using this
          rw [hrun]
          refine ⟨FW_n r m, g3.mono ?_⟩
          rintro e1 w1 ⟨v', rfl, ι', st, hvr⟩
          exact hK v' w1 ι' st hvr
    | _ => cases hv
end Ev
end Go.Proofs.YtminplfgadhnnaaGreatDoor
end


section
namespace Go.Proofs.YtminplfgadhnnaaGreatDoor
namespace Ev
set_option linter.unusedVariables false
set_option linter.unusedSimpArgs false
variable {ι ι' : Im} {D : Nat → Prop} {h h' : Hp} {w w' : World} {P : Program} {t : T} {nt : Nat} {a : Act} {ih : Ih} {ro : Option Nat} {v : V} {x : X} {s s' : St} {m : Nat}
/-- a temporary is written, or none -/
def PutT (dst : Option Nat) (v : V) (t t1 : T) : Prop := match dst with
  | none => t1 = t
  | some d => ∃ p, tset d = some p ∧ t1 = p v t
/-- what an operation does, in the words of the reckoner -/
def Does (P : Program) (nt : Nat) (ops : Array Oper) (o : Oper) (ih : Ih) (s s1 : St) (v : V) : Prop :=
  PutT o.dst v s.t s1.t ∧ s1.nt = s.nt ∧ s1.df = s.df ∧ s1.ro = s.ro ∧
  ((∃ f, cOp P nt o.op = some f ∧ f ih s.ro s.t s.h = some (v, s1.h)) ∨ (v = undV ∧ s1.h = s.h)) ∧
  (∀ j want, o.guard = some (j, want) → ∃ d g, (ops[j]?).bind (·.dst) = some d ∧ d < nt ∧ tget d = some g ∧ (isB (g s.t) want = true → ∃ f, cOp P nt o.op = some f ∧ f ih s.ro s.t s.h = some (v, s1.h)) ∧ (isB (g s.t) want = false → v = undV ∧ s1.h = s.h)) ∧
  (o.guard = none → ∃ f, cOp P nt o.op = some f ∧ f ih s.ro s.t s.h = some (v, s1.h))
theorem pureOf_cOp {o : Op} {g : T → V} (hg : pureOf nt o = some g) : cOp P nt o = some (pureO g) := by
  unfold pureOf at hg
  split at hg
  · show bnd (cO nt _) _ = _; rw [hg]; rfl
  · show bnd (cO nt _) _ = _; rw [hg]; rfl
  · cases hg
theorem cDst_some {o : Oper} {k : Fs → (T → T) → Option Fs} {F : Fs} (hc : cDst P nt o k = some F) :
    ∃ R no, k R no = some F ∧ (∃ f, cOp P nt o.op = some f ∧ ∀ ih s s1, R ih s = some s1 → ∃ v, PutT o.dst v s.t s1.t ∧ s1.nt = s.nt ∧ s1.df = s.df ∧ s1.ro = s.ro ∧ f ih s.ro s.t s.h = some (v, s1.h)) ∧ ∀ t, PutT o.dst undV t (no t) := by
  unfold cDst at hc
  cases hd : o.dst with
  | none =>
    rw [hd] at hc
    obtain ⟨f, h1, hc⟩ := bnd_some hc
    refine ⟨_, _, hc, ⟨f, h1, fun ih s s1 hr => ?_⟩, fun t => rfl⟩
    obtain ⟨⟨v, h'⟩, h2, hr⟩ := bnd_some (hr : (bnd (f ih s.ro s.t s.h) fun r => on2 r fun _ h' => some ⟨s.t, s.nt, h', s.df, s.ro⟩) = some s1)
    injection hr with hr
    subst hr
    exact ⟨v, rfl, rfl, rfl, rfl, h2⟩
  | some d =>
    rw [hd] at hc
    obtain ⟨p, h1, hc⟩ := bnd_some hc
    split at hc
    · rename_i g hg
      refine ⟨_, _, hc, ⟨_, pureOf_cOp hg, fun ih s s1 hr => ?_⟩, fun t => ⟨p, h1, rfl⟩⟩
      injection hr with hr
      subst hr
      exact ⟨g s.t, ⟨p, h1, rfl⟩, rfl, rfl, rfl, rfl⟩
    · obtain ⟨f, h2, hc⟩ := bnd_some hc
      refine ⟨_, _, hc, ⟨f, h2, fun ih s s1 hr => ?_⟩, fun t => ⟨p, h1, rfl⟩⟩
      obtain ⟨⟨v, h'⟩, h3, hr⟩ := bnd_some (hr : (bnd (f ih s.ro s.t s.h) fun r => on2 r fun v h' => some ⟨p v s.t, s.nt, h', s.df, s.ro⟩) = some s1)
      injection hr with hr
      subst hr
      exact ⟨v, ⟨p, h1, rfl⟩, rfl, rfl, rfl, h3⟩
theorem cOper_does {ops : Array Oper} {o : Oper} {F : Fs} {s1 : St} (hc : cOper P nt ops o = some F) (hr : F ih s = some s1) : ∃ v, Does P nt ops o ih s s1 v := by
  obtain ⟨R, no, hc, ⟨f, hf, hR⟩, hno⟩ := cDst_some hc
  cases hg : o.guard with
  | none =>
    rw [hg] at hc
    injection hc with hc
    subst hc
    obtain ⟨v, h1, h2, h3, h4, h5⟩ := hR _ _ _ hr
    exact ⟨v, h1, h2, h3, h4, .inl ⟨f, hf, h5⟩, (fun j want e => by rw [hg] at e; cases e), fun _ => ⟨f, hf, h5⟩⟩
  | some jw =>
    obtain ⟨j, want⟩ := jw
    rw [hg] at hc
    obtain ⟨d, q1, hc⟩ := bnd_some hc
    obtain ⟨q2, hc⟩ := grd_some hc
    obtain ⟨g, q3, hc⟩ := bnd_some hc
    injection hc with hc
    subst hc
    rcases ifB_some (hr : ifB (isB (g s.t) want) (R ih s) (some ⟨no s.t, s.nt, s.h, s.df, s.ro⟩) = some s1) with ⟨hb, hr⟩ | ⟨hb, hr⟩
    · obtain ⟨v, h1, h2, h3, h4, h5⟩ := hR _ _ _ hr
      refine ⟨v, h1, h2, h3, h4, .inl ⟨f, hf, h5⟩, fun j' want' e => ?_, (fun e => by rw [hg] at e; cases e)⟩
      rw [hg] at e; injection e with e; injection e with e1 e2; subst e1 e2
      exact ⟨d, g, q1, blt_lt q2, q3, fun _ => ⟨f, hf, h5⟩, (fun e => by rw [hb] at e; cases e)⟩
    · injection hr with hr
      subst hr
      refine ⟨undV, hno _, rfl, rfl, rfl, .inr ⟨rfl, rfl⟩, fun j' want' e => ?_, (fun e => by rw [hg] at e; cases e)⟩
      rw [hg] at e; injection e with e; injection e with e1 e2; subst e1 e2
      exact ⟨d, g, q1, blt_lt q2, q3, fun e => (by rw [hb] at e; cases e), fun _ => ⟨rfl, rfl⟩⟩
def asB : Value → Option Bool
  | .bool b => some b
  | _ => none
theorem isB_ok {u : V} {y : Value} {want : Bool} (hv : VR ι u y) : isB u want = (asB y == some want) := by
  cases hv <;> first | (cases want <;> rfl) | skip
  rename_i b
  cases b <;> cases want <;> rfl
theorem does_ok (hi : SoundC P ih) {ops : Array Oper} {o : Oper} {i : Nat} {s1 : St} {r : Option Nat} (hd : Does P nt ops o ih s s1 v) (hio : ops[i]? = some o) (hO : Opd ι nt s.t a o.op.operands)
    (hG : ∀ d, gdT ops o = some d → d < a.tmps.size ∧ ∀ g, tget d = some g → VR ι (g s.t) (a.tmps.getD d undef)) (hw : Wld ι D s.h w) (htp : Top ι s.h) (hN : Need nt s.t D o) {K : Act → World → Prop} {Q : Exit → Act → World → Prop}
    (hK : ∀ v' w' ι', Stp ι D s.h w ι' s1.h w' → VR ι' v v' → K (a.put o.dst v') w') : wpOpIn (FW r) m P ops Q i K a w := by
  obtain ⟨_, _, _, _, _, hg1, hg2⟩ := hd
  unfold wpOpIn
  rw [hio]
  show if Region.wanted o (yielded ops a.tmps) then _ else _
  cases hg : o.guard with
  | none =>
    obtain ⟨f, hf, hr⟩ := hg2 hg
    rw [if_pos (by unfold Region.wanted; rw [hg])]
    exact opr_ok hi hf hO hw htp hN hr hK
  | some jw =>
    obtain ⟨j, want⟩ := jw
    obtain ⟨d, g, q1, q2, q3, q4, q5⟩ := hg1 j want hg
    obtain ⟨hsz, hv⟩ := hG d (by unfold gdT; rw [hg]; exact q1)
    have hv := hv g q3
    have ew : Region.wanted o (yielded ops a.tmps) = isB (g s.t) want := by
      rw [isB_ok hv]
      unfold Region.wanted yielded
      rw [hg]
      simp only [q1, Option.bind_some]
      rw [Array.getElem?_eq_getElem hsz]
      have : a.tmps.getD d undef = a.tmps[d] := by simp [Array.getD, hsz]
      rw [this]
      generalize a.tmps[d] = q
      cases q <;> rfl
    rw [ew]
    cases hb : isB (g s.t) want with
    | true =>
      obtain ⟨f, hf, hr⟩ := q4 hb
      exact opr_ok hi hf hO hw htp hN hr hK
    | false =>
      obtain ⟨e1, e2⟩ := q5 hb
      subst e1
      refine ⟨fun _ _ => trivial, hK undef w ι ?_ VR.und⟩
      rw [e2]; exact Stp.refl hw
theorem need_all {o : Oper} (hall : ∀ k, D k) : Need nt t D o := ⟨fun _ => hall, fun _ _ _ _ _ => hall _, fun _ _ _ _ _ _ => hall _⟩
theorem putT_ok {dst : Option Nat} {t1 : T} {v' : Value} (hp : PutT dst v t t1) (ht : TmR ι t nt a.tmps) (hv : VR ι v v') : TmR ι t1 nt (a.put dst v').tmps := by
  cases dst with
  | none => have hp : t1 = t := hp; subst hp; exact ht
  | some d => obtain ⟨p, h1, rfl⟩ := hp; exact ht.put h1 hv
theorem put_df {dst : Option Nat} {v' : Value} : (a.put dst v').defers = a.defers := by cases dst <;> rfl
/-- one operation after the other -/
theorem step_ok (hi : SoundC P ih) {ops : Array Oper} {o : Oper} {i : Nat} {F : Fs} {s1 : St} {r : Option Nat} (hc : cOper P s.nt ops o = some F) (hr : F ih s = some s1) (hio : ops[i]? = some o) (hp : Pre ι D s r a w) {K : Act → World → Prop} {Q : Exit → Act → World → Prop}
    (hK : ∀ a' w' ι', Fin ι D s w s1 ι' a' w' → K a' w') : wpOpIn (FW r) m P ops Q i K a w := by
  obtain ⟨v, hd⟩ := cOper_does hc hr
  have hd0 := hd
  obtain ⟨c1, c2, c3, c4, -, hgd, -⟩ := hd
  refine does_ok hi hd0 hio (hp.tm.opd hp.wl.gl _) (fun d e => ?_) hp.wl hp.tp (need_all hp.all) (fun v' w' ι' st hv => hK _ _ ι' ?_)
  · cases hg : o.guard with
    | none => unfold gdT at e; rw [hg] at e; cases e
    | some jw =>
      obtain ⟨j, want⟩ := jw
      obtain ⟨d', g, q1, q2, -⟩ := hgd j want hg
      unfold gdT at e; rw [hg] at e
      have e' : (ops[j]?).bind (·.dst) = some d := e
      rw [q1] at e'; injection e' with e'; subst e'
      exact ⟨by rw [hp.tm.1]; exact q2, fun g hg => hp.tm.2 _ g q2 hg⟩
  · have he := st.extT hp.tp hp.wl
    refine ⟨st, ?_, ?_, c2, c4⟩
    · rw [c2]; exact putT_ok c1 (hp.tm.mono he) hv
    · rw [c3, put_df]; exact hp.df.mono he fun k q => .inl q
theorem ops_ok (hi : SoundC P ih) {ops : Array Oper} {r : Option Nat} {Q : Exit → Act → World → Prop} : ∀ {l : List Oper} {js : List Nat} {F : Fs} {s : St} {s1 : St} {ι : Im} {D : Nat → Prop} {a : Act} {w : World}, cL1 P s.nt ops l = some F → F ih s = some s1 → js.map (fun j => ops[j]?) = l.map some → Pre ι D s r a w →
    (∀ a' w' ι', Fin ι D s w s1 ι' a' w' → Q .normal a' w') → wpOpsIn (FW r) m P ops Q js a w
  | [], js, F, s, s1, ι, D, a, w, hc, hr, hj, hp, hQ => by
    injection hc with hc; subst hc
    injection hr with hr; subst hr
    cases js with
    | nil => exact hQ _ _ _ hp.fin
    | cons j js => cases hj
  | o :: l, js, F, s, s1, ι, D, a, w, hc, hr, hj, hp, hQ => by
    obtain ⟨f, h1, hc⟩ := bnd_some hc
    obtain ⟨g, h2, hc⟩ := bnd_some hc
    injection hc with hc
    subst hc
    cases js with
    | nil => cases hj
    | cons j js =>
      simp only [List.map_cons, List.cons.injEq] at hj
      have hr : Option.rec (motive := fun _ => Option St) none (g ih) (f ih s) = some s1 := hr
      cases hf : f ih s with
      | none => rw [hf] at hr; cases hr
      | some s2 =>
        rw [hf] at hr
        have hr : g ih s2 = some s1 := hr
        rw [wpOpsIn_cons]
        refine step_ok hi h1 hf hj.1 hp fun a2 w2 ι2 f2 => ?_
        refine ops_ok hi (by rw [f2.nt]; exact h2) hr hj.2 (hp.next f2) fun a3 w3 ι3 f3 => hQ _ _ _ (f2.trans f3)
theorem sd_region {id : Nat} {ops : Array Oper} {F : Fs} {r : Option Nat} (hi : SoundC P ih) (hc : cL1 P s.nt ops ops.toList = some F) (hr : runR F ih s = some (x, s')) (hp : Pre ι D s r a w) : (Code.region id ops false).wpIn (FW r) m P (Post ι D s w x s') a w := by
  have hr : Option.rec (motive := fun _ => Res) none (fun s => some (.normal, s)) (F ih s) = some (x, s') := hr
  cases hf : F ih s with
  | none => rw [hf] at hr; cases hr
  | some s2 =>
    rw [hf] at hr
    injection hr with hr
    injection hr with e1 e2
    subst e1 e2
    refine wpIn_region (ops_ok hi hc hf ?_ hp fun a' w' ι' f => ⟨rfl, ι', f⟩)
    apply List.ext_getElem?
    intro i
    simp only [List.getElem?_map]
    by_cases c : i < ops.size
    · rw [List.getElem?_range c]; simp [c]
    · rw [List.getElem?_eq_none (by simp; omega), List.getElem?_eq_none (by simp; omega)]; rfl
end Ev
end Go.Proofs.YtminplfgadhnnaaGreatDoor
end


section
namespace Go.Proofs.YtminplfgadhnnaaGreatDoor
namespace Ev
set_option linter.unusedVariables false
set_option linter.unusedSimpArgs false
variable {ι ι' : Im} {D : Nat → Prop} {h h' : Hp} {w w' : World} {P : Program} {t : T} {nt : Nat} {a : Act} {ih : Ih} {ro : Option Nat} {v : V} {x : X} {s s' : St} {m : Nat}
theorem run_enterLoop_inner {l : Nat} {r : Loop} (hl : w.heap[l]? = some (.loop r)) (fn : FuncId) (tmps : Array Value) (ps : Array Tmp) (assign body : Code) :
    (Instr.enterLoop fn tmps ps assign body (some l)).run P w = .ok (w.heap.size, []) (w.alloc (.loop { state := .ready, pending := none, fn, tmps, params := ps, assign, body, defers := r.defers })) := by
  unfold Instr.enterLoop
  simp only [Sem.run_bind, run_getLoop hl, run_newObj_alloc, Result.andThen, Sem.run_pure]
/-- a new record of a loop -/
theorem stp_loop (hw : Wld ι D h w) (htp : Top ι h) {ps : Array Tmp} {asg body : Code} {fn df : Nat} (ht : TmR ι t nt a.tmps) {α : Type} {k : Nat → Hp → Option α} {r : α} (hr : newB (oLp ⟨0, none, t, nt, ps.toList, asg, body⟩) h k = some r) :
    ∃ ι' h', k h.nx h' = some r ∧ h'.nx = h.nx + 1 ∧ ι' h.nx = some w.heap.size ∧ Stp ι D h w ι' h' (w.alloc (.loop { state := .ready, pending := none, fn, tmps := a.tmps, params := ps, assign := asg, body, defers := df })) := by
  obtain ⟨hn, hr⟩ := newB_some hr
  refine ⟨up ι h.nx w.heap.size 0, _, hr, rfl, if_pos rfl, stp_new hw hn (htp _ (Nat.le_refl _)) ?_⟩
  refine ⟨fun e => (by cases e), fun _ => ⟨_, _, rfl, World.alloc_heap_new _ _, ?_⟩, fun e => (by cases e), fun e => (by cases e)⟩
  exact { st := rfl, pend := rfl, ps := rfl, asg := rfl, body := rfl, tm := ht.mono (up_ext (htp _ (Nat.le_refl _)) (.inl hw.new)) }
/-- behind the loop: what a round has left is done -/
theorem after_ok (hi : SoundC P ih) {l l' : Nat} {df : List Nat} {h3 : Hp} {r : Option Nat} (hr : afterR ih l df s h3 = some (x, s')) (hall : ∀ k, D k) (hp : Pre ι D s r a w) {ι3 : Im} {w3 : World} (st : Stp ι D s.h w ι3 h3 w3) (hl : ι3 l = some l') {ds : List Deferred} (hd : DfR ι3 (fun k => D k ∨ s.h.nx ≤ k) df ds) :
    ∃ jump w4, (Instr.endLoop l').run P w3 = .ok jump w4 ∧ (match jump with | none => Post ι D s w x s' .normal { tmps := a.tmps, defers := ds } w4 | some c => c.wpIn (FW r) m P (Post ι D s w x s') { tmps := a.tmps, defers := ds } w4) := by
  unfold afterR at hr
  rw [onSt_eq] at hr
  obtain ⟨h1, y, h2, hr⟩ := onLp_some hr
  obtain ⟨h5, hr⟩ := grd_some hr
  obtain ⟨h4, h6, hr⟩ := bnd_some hr
  have hall' : ∀ k, D k ∨ s.h.nx ≤ k := fun k => .inl (hall k)
  have tp3 := hp.tp.step st
  have hlt : l < h3.nx := by
    by_cases c : l < h3.nx
    · exact c
    · rw [tp3 l (by omega)] at hl; cases hl
  obtain ⟨rec, g1, g2⟩ := lp_get hall' st.wl hlt hl h1 h2
  have hnb : rec.state ≠ .busy := by
    intro e
    have := g2.st
    rw [e] at this
    have h5 : (!Nat.beq y.st 1) = true := h5
    rw [← this] at h5
    cases h5
  have st4 := lp_set (sta := .exhausted) (p := y.pend) hall' st.wl hl h1 g2 g1 h6 rfl
  have ew : ({ rec with state := LoopState.exhausted, pending := y.pend } : Loop) = { rec with state := LoopState.exhausted } := by rw [← g2.pend]
  rw [ew] at st4
  refine ⟨_, _, run_endLoop g1 hnb, ?_⟩
  have tot := st.trans st4
  have he := tot.extT hp.tp hp.wl
  have f4 : Fin ι D s w ⟨s.t, s.nt, h4, df, s.ro⟩ ι3 { tmps := a.tmps, defers := ds } (w3.putObj l' (.loop { rec with state := .exhausted })) := ⟨tot, hp.tm.mono he, hd, rfl, rfl⟩
  generalize (w3.putObj l' (Obj.loop { rec with state := LoopState.exhausted })) = w4 at f4 ⊢
  rw [g2.pend]
  cases hpd : y.pend with
  | none =>
    rw [hpd] at hr
    injection hr with hr
    injection hr with e1 e2
    subst e1 e2
    exact ⟨rfl, ι3, f4⟩
  | some c =>
    rw [hpd] at hr
    have hr : fC (fun c => ih c ⟨s.t, s.nt, h4, df, s.ro⟩) c = some (x, s') := hr
    rw [fC_eq] at hr
    exact wpIn_mono (hi _ _ _ _ hr ι3 _ r m _ _ (hp.next f4)).1 fun e a2 w2 ⟨q1, ι2, f2⟩ => ⟨q1, ι2, f4.trans f2⟩
theorem callR_some {f : T → V} {s : St} {l : Nat} {k : Hp → Res} {y : X × St} (hr : callR P ih f s l h k = some y) : ∃ v h', (f s.t).tg = 8 ∧ evF P ih (f s.t).a (vapp (f s.t).l (vYld l :: (f s.t).m)) h = some (v, h') ∧ k h' = some y := by
  rcases onFn_some hr with ⟨h1, hr⟩ | ⟨h1, hr⟩
  · obtain ⟨⟨v, h'⟩, h2, hr⟩ := bnd_some hr
    exact ⟨v, h', h1, h2, hr⟩
  · cases hr
theorem sd_range {g : Operand} {ps : Array Tmp} {asg body : Code} {f : T → V} {r : Option Nat} (hi : SoundC P ih) (hf : cO s.nt g = some f) (hr : evRange P f ps.toList asg body ih s = some (x, s')) (hp : Pre ι D s r a w) : (Code.rangeFunc g ps asg body).wpIn (FW r) m P (Post ι D s w x s') a w := by
  unfold evRange at hr
  rw [onSt_eq] at hr
  have hall := hp.all
  have v1 := (hp.tm.opd hp.wl.gl #[g]) g (by simp) f hf
  -- the call, from where the record lies
  have call : ∀ {ι2 : Im} {h2 : Hp} {w2 : World} {l l' : Nat} {df : List Nat} {mark : List Deferred}, Stp ι D s.h w ι2 h2 w2 → ι2 l = some l' → DfR ι2 (fun k => D k ∨ s.h.nx ≤ k) df (mark ++ a.defers) →
      callR P ih f s l h2 (fun h3 => afterR ih l df s h3) = some (x, s') →
      ∃ (d : Deferred) (w₁' : World) (f' : FuncId) (args : Array Value) (w₂ : World), (resolve a.eval (rangeCall g l') 0).run P w2 = .ok d w₁' ∧ (invoke d.target d.args).run P w₁' = .ok (.enter f' args) w₂ ∧
        CallsIn (FW r) (m - 1) P f' args w₂ (rangePost (FW r) m P l' (Post ι D s w x s') { a with defers := mark ++ a.defers }) := by
    intro ι2 h2 w2 l l' df mark st hl hd hr
    obtain ⟨v, h3, q1, q2, hr⟩ := callR_some hr
    obtain ⟨fs, cs, p1, p2, e⟩ := v1.fn_inv q1
    have he := st.extT hp.tp hp.wl
    have tp2 := hp.tp.step st
    have hcall := call_ok (m := m - 1) (r := r) hi q2 (fun k => .inl (hall k)) st.wl tp2 (by rw [vapp_eq]; exact (p1.mono he).app (.cons (.yld hl) (p2.mono he)))
    obtain ⟨d, hd', -⟩ := bnd_some q2
    obtain ⟨fn, g1, g2, g3, -⟩ := cFn_some hd'
    refine ⟨{ target := .fn (.func (f s.t).a) ⟨cs⟩, args := ⟨fs⟩ ++ #[.func (.yield l') #[] #[]] }, w2, (f s.t).a, ⟨fs ++ (Value.func (.yield l') #[] #[] :: cs)⟩, w2, ?_, ?_, hcall.mono ?_⟩
    · show (Deferred.ofValue (a.eval g) ((rangeCall g l').args.map a.eval)).run P w2 = _
      rw [e]
      have ea : (rangeCall g l').args.map a.eval = #[Value.func (.yield l') #[] #[]] := by simp [rangeCall, Act.eval]
      rw [ea]
      rfl
    · have ea : ((⟨fs⟩ : Array Value) ++ #[Value.func (.yield l') #[] #[]] ++ ⟨cs⟩) = ⟨fs ++ (Value.func (.yield l') #[] #[] :: cs)⟩ := by apply Array.ext'; simp
      show (callFunc _ _).run P w2 = _
      rw [ea]
      exact run_callFunc g1 g2 g3
    · rintro e1 w3 ⟨v', rfl, ι3, st3, hv⟩
      have he3 := st3.extT tp2 st.wl
      exact after_ok hi hr hall hp (st.trans st3) (he3 _ _ hl).1 (hd.mono he3 (fun k q => q))
  refine wpIn_rangeFunc fun fn _ => ?_
  cases hro : s.ro with
  | none =>
    rw [hro] at hr
    have hro' : r = none := by have := hp.ro; rw [hro] at this; exact this
    obtain ⟨hn, hr⟩ := newB_some hr
    have hob : ObR (up ι s.h.nx w.heap.size 0) oDf (w.alloc (.deferred (some []))) w.heap.size := ⟨fun e => (by cases e), fun e => (by cases e), fun _ => World.alloc_heap_new _ _, fun e => (by cases e)⟩
    have st1 := stp_new (obj := .deferred (some [])) hp.wl hn (hp.tp _ (Nat.le_refl _)) hob
    have he1 := st1.extT hp.tp hp.wl
    have tp1 := hp.tp.step st1
    obtain ⟨ι2, h2, hr, -, hl, st2⟩ := stp_loop (fn := fn) (df := w.heap.size) st1.wl tp1 (hp.tm.mono he1) hr
    have he2 := st2.extT tp1 st1.wl
    have hmark : ι2 s.h.nx = some w.heap.size := (he2 _ _ (if_pos rfl)).1
    obtain ⟨d, w1', f', args, w2, c1, c2, c3⟩ := call (mark := [{ target := .collected w.heap.size, args := #[] }]) (st1.trans st2) hl (.cons hmark (.inr (Nat.le_refl _)) ((hp.df.mono he1 (fun k q => .inl q)).mono he2 (fun k q => q))) hr
    refine ⟨_, [{ target := .collected w.heap.size, args := #[] }], _, d, w1', f', args, w2, ?_, c1, fun _ _ => trivial, c2, FW_n r m, c3⟩
    · rw [hro']
      have := run_enterLoop_outer (P := P) (w := w) fn a.tmps ps asg body
      rw [show (FW none).round = none from rfl, this]
      have e : (w.alloc (.deferred (some []))).heap.size = w.heap.size + 1 := by simp
      rw [e]
  | some l =>
    rw [hro] at hr
    have hror : RoR ι D (some l) r := by have := hp.ro; rwa [hro] at this
    obtain ⟨-, b, hb, rfl⟩ := hror
    obtain ⟨h0, hr⟩ := grd_some hr
    have hlt : l < s.h.nx := by
      by_cases c : l < s.h.nx
      · exact c
      · rw [hp.tp l (by omega)] at hb; cases hb
    obtain ⟨y, rec, -, g1, -⟩ := (hp.wl.ob l b (hall l) hlt hb).lp (beq_eq h0)
    obtain ⟨ι2, h2, hr, -, hl, st2⟩ := stp_loop (fn := fn) (df := rec.defers) hp.wl hp.tp hp.tm hr
    have he2 := st2.extT hp.tp hp.wl
    obtain ⟨d, w1', f', args, w2, c1, c2, c3⟩ := call (mark := []) st2 hl (hp.df.mono he2 (fun k q => .inl q)) hr
    exact ⟨_, _, _, d, w1', f', args, w2, run_enterLoop_inner g1 fn a.tmps ps asg body, c1, fun _ _ => trivial, c2, FW_n _ m, c3⟩
end Ev
end Go.Proofs.YtminplfgadhnnaaGreatDoor
end
