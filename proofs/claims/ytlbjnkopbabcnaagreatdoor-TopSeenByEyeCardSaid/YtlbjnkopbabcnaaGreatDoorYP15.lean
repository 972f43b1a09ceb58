/- PE2 EN5 -/
import Derived.Test.YtlbjnkopbabcnaaGreatDoorYP14
import Derived.Test.YtlbjnkopbabcnaaGreatDoorYP05
import Derived.OrdersIn
import Derived.Scope
/- Walks of package metamer: a chip less another one. -/
section
namespace Go.Proofs.YtlbjnkopbabcnaaGreatDoor
open Go.RowKit Go.Shelf
set_option linter.unusedSimpArgs false
set_option linter.unusedVariables false

set_option maxRecDepth 100000 in
set_option maxHeartbeats 4000000 in
theorem less_any (A : Option Addr) (cA : Nat) (B : Option Addr) (n cB : Nat) (zs us : List Int) (w : World) (hz : Ints w A n zs) (hu : Ints w B n us) (hn : 0 < n) (h8 : n ≤ 8) (h1 : ∀ b, b < n → 0 ≤ zF zs b ∧ zF zs b ≤ 1000) (h2 : ∀ b, b < n → 0 ≤ zF us b ∧ zF us b ≤ 1000) :
    Calls Tryz.prog 64 #[.slice A n cA, .slice B n cB] w fun e w' => ∃ g, e = .returned (.slice (some ⟨g, 0, none⟩) n n) ∧ Ints w' (some ⟨g, 0, none⟩) n (lesL zs us n n) ∧ Below w.heap.size w w' := by
  have hzl := hz.1
  have hmk := run_makeR n (by omega)
  have hcp := fun (W : World) (hW : Below w.heap.size w W) => run_copyR (n := n) hzl (by omega) hz hW cA
  have hcp := hcp w (Below.refl _ _)
  have Hu := Lib.hid hu
  have H1 := Lib.hid h1
  have H2 := Lib.hid h2
  have hR0 : Rw (w.alloc (.cells (zs.map (Value.int .i64)).toArray 2)) w.heap.size (lesL zs us n 0) := by rw [lesL_zero zs us hzl]; exact Rw.new _ _ _ _ rfl
  have HR0 := Lib.hid hR0
  clear hz hu hzl h1 h2 hR0
  go_enter Tryz.func64, Tryz.ntmps64
  go_wp2_with fail
  clear hcp hmk
  go_loopw [16] (fun s16 wx => ∃ (k : Nat) (W : World), k ≤ n ∧ s16 = .int .i64 (k : Nat) ∧ Hid (W = wx) ∧ Hid (Rw W w.heap.size (lesL zs us n k)) ∧ Below w.heap.size w W) (fun s16 _ => n - (intOf s16).toNat)
  case atStart => exact ⟨0, _, Nat.zero_le _, rfl, Lib.hid rfl, HR0, blA⟩
  case round =>
    clear HR0
    obtain ⟨k, W, hk, rfl, HW, HR, hbw⟩ := hrel
    obtain rfl := HW.out
    clear HW
    by_cases hkn : k < n
    · have hki : (k : Int) < (n : Int) := by omega
      obtain ⟨b, off, rfl, lt, c0⟩ := Hu.out.at0 hbw hkn
      have d0 := HR.out.cell (k := k) (by rw [lesL_len]; exact hkn)
      have hset := lesL_set zs us n hkn
      rw [lesL_get zs us n k hkn, if_neg (Nat.lt_irrefl k)] at d0
      have q1 := H1.out k hkn
      have q2 := H2.out k hkn
      obtain ⟨x, hx⟩ : ∃ v, zF zs k = v := ⟨_, rfl⟩
      obtain ⟨y, hy⟩ : ∃ v, us.getD k 0 = v := ⟨_, rfl⟩
      have hy' : zF us k = y := hy
      rw [hx] at d0 q1 hset
      rw [hy'] at q2 hset
      rw [hy] at c0
      have Hset := Lib.hid hset
      obtain ⟨q1, q1'⟩ := q1
      obtain ⟨q2, q2'⟩ := q2
      have fr := HR.out.frozen
      have lr := HR.out.lt
      have hw1 : IntKind.i64.wrap (x - y) = x - y := IntWalk.i64_in _ (by omega)
      clear hset hx hy hy'
      go_wp2_with fail
      go_roundw
      case rel => exact ⟨k + 1, _, by omega, by go_num, Lib.hid rfl, Lib.hid (by rw [← Hset.out]; exact HR.out.set k _), bset hbw (p := ⟨w.heap.size, k, none⟩) (Nat.le_refl _) _⟩
      case measure => simp [intOf]; omega
    · obtain rfl : k = n := by omega
      go_wp2_with fail
      go_ret
      exact ⟨_, rfl, HR.out.ints (lesL_len _ _ _ _), hbw⟩
end Go.Proofs.YtlbjnkopbabcnaaGreatDoor
end

/- XEN4's law inside a fence: a region that draws its order, by a plan that branches. -/
section
namespace Go.Proofs.YtlbjnkopbabcnaaGreatDoor
open Go Go.RowKit Go.Shelf
set_option linter.unusedSimpArgs false
set_option linter.unusedVariables false
section
variable {F : Fence} {n : Nat} {P : Program} {ops : Array Oper} {Q : Exit → Act → World → Prop} {md : Region.Mode}
/-- The operations by a plan. -/
def wpTrI (F : Fence) (n : Nat) (P : Program) (ops : Array Oper) (Q : Exit → Act → World → Prop) : PlT → Act → World → Prop
  | .nil, a, w => Q .normal a w
  | .t i _ r, a, w => ∃ o v, nth ops.toList i = some o ∧ YieldsFenced P ops o v a ∧ wpTrI F n P ops Q r (a.put o.dst v) w
  | .o i _ r, a, w => wpOpIn F n P ops Q i (wpTrI F n P ops Q r) a w
  | .c i j _ _ p q, a, w => wpOpIn F n P ops Q i (wpTrI F n P ops Q p) a w ∧ wpOpIn F n P ops Q j (wpTrI F n P ops Q q) a w

theorem wpAnyIn_tree (hro : F.round = none) (hns : Region.noSelect ops = true) (hQ : ∀ c a d v w, Q (.panic c) (a.put d v) w → Q (.panic c) a w) :
    ∀ (pl : PlT) (m : Nat) (l : Array Bool) (fuel : Nat) (a : Act) (w : World), Msk ops.size l m → planTr md ops pl m = true → lngTr pl ≤ fuel →
      wpTrI F n P ops Q pl a w → wpAnyIn F n P md ops Q fuel l a w
  | .nil, m, l, fuel, a, w, hm, hp, _, h => by
    have := emp_eq (show emp (rdy md ops.toList 0 m) = true from hp)
    exact wpAnyIn_done (by rw [rdy_eq hm, this]) h fuel
  | .t i m' r, m, l, fuel, a, w, hm, hp, hl, h => by
    simp only [planTr, Bool.and_eq_true] at hp
    obtain ⟨⟨⟨h1, h2⟩, h3⟩, h4⟩ := hp
    obtain ⟨o, v, ho, hy, h⟩ := h
    have hmem := hasN_mem _ _ h1
    have hlt := lt_of_rdy hm hmem
    obtain ⟨f, rfl⟩ : ∃ f, fuel = f + 1 := ⟨fuel - 1, by simp only [lngTr] at hl; omega⟩
    simp only [lngTr] at hl
    have h2' : fre md ops o i ops.toList 0 m = true := by unfold freAt at h2; rw [ho] at h2; exact h2
    have hms := hm.set i hlt
    rw [← Nat.eq_of_beq_eq_true h3] at hms
    refine wpAnyIn_first hro (nth_ops ho) (Region.noSelect_spec hns) (fun c a w => hQ c a o.dst v w) f l a w (fun j oj hj hne hun hno => ?_) (by rw [rdy_eq hm]; exact hmem) hy
      (wpAnyIn_tree hro hns hQ r m' _ f _ w hms h4 (by omega) h)
    have hjl := (Array.getElem?_eq_some_iff.1 hj).1
    have hs := fre_spec ops.toList 0 h2' j oj (by simpa using hj)
    rw [Nat.zero_add] at hs
    rw [hm.getD j true hjl] at hun
    simp only [Bool.or_eq_true] at hs
    rcases hs with ((hs | hs) | hs) | hs
    · exact absurd (Nat.eq_of_beq_eq_true hs) hne
    · rw [hun] at hs; cases hs
    · obtain ⟨e, he, hb⟩ := Array.any_eq_true'.1 hs
      simp only [Bool.and_eq_true] at hb
      exact absurd (Nat.eq_of_beq_eq_true hb.2) (hno e he hb.1)
    · exact hs
  | .o i m' r, m, l, fuel, a, w, hm, hp, hl, h => by
    simp only [planTr, Bool.and_eq_true] at hp
    obtain ⟨⟨h1, h3⟩, h4⟩ := hp
    have h1 := one1_eq h1
    have hlt := lt_of_rdy (md := md) hm (i := i) (by rw [h1]; simp)
    obtain ⟨f, rfl⟩ : ∃ f, fuel = f + 1 := ⟨fuel - 1, by simp only [lngTr] at hl; omega⟩
    simp only [lngTr] at hl
    have hms := hm.set i hlt
    rw [← Nat.eq_of_beq_eq_true h3] at hms
    refine wpAnyIn_all (rs := [i]) (by rw [rdy_eq hm, h1]) (by simp) (fun k hk => ?_)
    obtain rfl : k = i := by simpa using hk
    exact wpOpIn_mono (fun a' w' h' => wpAnyIn_tree hro hns hQ r m' _ f a' w' hms h4 (by omega) h') h
  | .c i j mi mj p q, m, l, fuel, a, w, hm, hp, hl, h => by
    simp only [planTr, Bool.and_eq_true] at hp
    obtain ⟨⟨⟨⟨h1, h2⟩, h3⟩, h4⟩, h5⟩ := hp
    have h1 := two2_eq h1
    have hlti := lt_of_rdy (md := md) hm (i := i) (by rw [h1]; simp)
    have hltj := lt_of_rdy (md := md) hm (i := j) (by rw [h1]; simp)
    obtain ⟨f, rfl⟩ : ∃ f, fuel = f + 1 := ⟨fuel - 1, by simp only [lngTr] at hl; omega⟩
    simp only [lngTr] at hl
    have hmi := hm.set i hlti
    have hmj := hm.set j hltj
    rw [← Nat.eq_of_beq_eq_true h2] at hmi
    rw [← Nat.eq_of_beq_eq_true h3] at hmj
    refine wpAnyIn_all (rs := [i, j]) (by rw [rdy_eq hm, h1]) (by simp) (fun k hk => ?_)
    rcases (show k = i ∨ k = j by simpa using hk) with rfl | rfl
    · exact wpOpIn_mono (fun a' w' h' => wpAnyIn_tree hro hns hQ p mi _ f a' w' hmi h4 (by omega) h') h.1
    · exact wpOpIn_mono (fun a' w' h' => wpAnyIn_tree hro hns hQ q mj _ f a' w' hmj h5 (by omega) h') h.2

/-- The beginning. -/
theorem wpIn_region_tree {id : Nat} {a : Act} {w : World} (pl : PlT) (hro : F.round = none) (hm : P.follows .mixedOrders = true) (hns : Region.noSelect ops = true) (hp : planTr .any ops pl 0 = true)
    (hl : Nat.ble (lngTr pl) ops.size = true) (hQ : ∀ c a d v w, Q (.panic c) (a.put d v) w → Q (.panic c) a w) (h : wpTrI F n P ops Q pl a w.drew) :
    (Code.region id ops true).wpIn F n P Q a w :=
  wpIn_region_any hm (wpAnyIn_tree hro hns hQ pl 0 _ _ _ _ (Msk.zero _) hp (Nat.le_of_ble_eq_true hl) h)
theorem treeI_take {i m' : Nat} {r : PlT} {o : Oper} {v : Value} {a : Act} {w : World} (ho : nth ops.toList i = some o) (hw : Region.wanted o (yielded ops a.tmps) = true)
    (hab : ∀ w, o.about P w a.eval = none) (hv : ∀ w, (execOp a.eval o).run P w = .ok (.value v) w) (h : wpTrI F n P ops Q r (a.put o.dst v) w) : wpTrI F n P ops Q (.t i m' r) a w :=
  ⟨o, v, ho, ⟨.inl ⟨hw, hv⟩, hab⟩, h⟩
theorem treeI_pass {i m' : Nat} {r : PlT} {o : Oper} {a : Act} {w : World} (ho : nth ops.toList i = some o) (hw : Region.wanted o (yielded ops a.tmps) = false)
    (hab : ∀ w, o.about P w a.eval = none) (h : wpTrI F n P ops Q r (a.put o.dst undef) w) : wpTrI F n P ops Q (.t i m' r) a w :=
  ⟨o, undef, ho, ⟨.inr ⟨hw, rfl⟩, hab⟩, h⟩
theorem treeI_one {i m' : Nat} {r : PlT} {o : Oper} {a : Act} {w : World} (ho : nth ops.toList i = some o)
    (h : ∀ K' : Act → World → Prop, Hid (∀ a w, wpTrI F n P ops Q r a w → K' a w) → if Region.wanted o (yielded ops a.tmps) = true then Oper.wpIn F n P o a w K' Q else (∀ f, o.about P w a.eval = some f → F.fn f) ∧ K' (a.put o.dst undef) w) :
    wpTrI F n P ops Q (.o i m' r) a w :=
  wpOpIn_step (nth_ops ho) (fun K' hK => h K' (Lib.hid hK))
theorem treeI_skip {i m' : Nat} {r : PlT} {o : Oper} {a : Act} {w : World} (ho : nth ops.toList i = some o) (hw : Region.wanted o (yielded ops a.tmps) = false) (hF : ∀ f, F.fn f)
    (h : wpTrI F n P ops Q r (a.put o.dst undef) w) : wpTrI F n P ops Q (.o i m' r) a w :=
  treeI_one ho fun K' hK => by
    rw [if_neg (by rw [hw]; exact Bool.noConfusion)]
    exact ⟨fun _ _ => hF _, hK.out _ _ h⟩
theorem treeI_two {i j mi mj : Nat} {p q : PlT} {a : Act} {w : World} (h1 : wpTrI F n P ops Q (.o i mi p) a w) (h2 : wpTrI F n P ops Q (.o j mj q) a w) : wpTrI F n P ops Q (.c i j mi mj p q) a w := ⟨h1, h2⟩
theorem treeI_done {a : Act} {w : World} (h : Q .normal a w) : wpTrI F n P ops Q .nil a w := h
end
/-- a scope out of which nothing jumps -/
theorem stepRP_scope {P : Program} {b : Frame} {a : Act} {k : List Item} {cs : List Frame} {w : World} {c : Code} : step P (lone (b.atR a (.code (.scope c) :: k)) cs w) = .next (lone (b.atR a (.code c :: .inScope c :: k)) cs w) :=
  step_lone_go (by simp [stepG, stepG.exec, Frame.atR])
theorem stepRP_inScope {P : Program} {b : Frame} {a : Act} {k : List Item} {cs : List Frame} {w : World} {c : Code} : step P (lone (b.atR a (.inScope c :: k)) cs w) = .next (lone (b.atR a k) cs w) :=
  step_lone_go (by simp [stepG, stepG.exec, Frame.atR])
theorem wpIn_scopeP {F : Fence} {n : Nat} {P : Program} {Q : Exit → Act → World → Prop} {a : Act} {w : World} {c : Code} (h : c.wpIn F n P (Exit.noGoto Q) a w) : (Code.scope c).wpIn F n P Q a w := by
  intro b0 k cs hro hf hroom
  obtain ⟨e, a1, w1, hq, harr⟩ := h b0 (.inScope c :: k) cs hro hf hroom
  have h0 : (lone (b0.atR a (.code (.scope c) :: k)) cs w).fenced P F := fenced_calm hf hroom rfl
  cases e with
  | normal => exact ⟨_, a1, w1, hq, .head h0 stepRP_scope (StepsIn.trans harr (.one (fenced_calm hf hroom rfl) stepRP_inScope))⟩
  | exit id =>
    have hx : exitTo id (.inScope c :: k) = exitTo id k := by simp [exitTo]
    exact ⟨_, a1, w1, hq, fun k' hk => .head h0 stepRP_scope (harr.1 k' (by rw [hx]; exact hk)),
      fun hr' hk => let ⟨k₁, h1, h2⟩ := harr.2 hr' (by rw [hx]; exact hk); ⟨k₁, h1, .head h0 stepRP_scope h2⟩⟩
  | goto id => exact hq.elim
  | ret => exact ⟨_, a1, w1, hq, .of_steps (.one h0 stepRP_scope) harr⟩
  | panic ch => exact ⟨_, a1, w1, hq, .of_steps (.one h0 stepRP_scope) harr⟩
  | outgrown => exact ⟨_, a1, w1, hq, .of_steps (.one h0 stepRP_scope) harr⟩
end Go.Proofs.YtlbjnkopbabcnaaGreatDoor
end
