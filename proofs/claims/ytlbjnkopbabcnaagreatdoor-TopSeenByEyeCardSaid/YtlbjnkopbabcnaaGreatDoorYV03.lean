/- V15 V16 V17 V18 V19 V20 V21 -/
import Derived.Test.YtlbjnkopbabcnaaGreatDoorYV02
import Derived.DeepKeys3
import Derived.RangeFuncLeaves
import Derived.OrdersIn

section
namespace Go.Proofs.YtlbjnkopbabcnaaGreatDoor
namespace Ev
set_option linter.unusedVariables false
set_option linter.unusedSimpArgs false
variable {ι ι' : Im} {D : Nat → Prop} {h h' : Hp} {w w' : World} {P : Program} {t : T} {nt : Nat} {a : Act} {ih : Ih} {ro : Option Nat} {v : V} {o : Oper}
abbrev KN := IntKind × Int
def vK (p : KN) : Value := .int p.1 p.2
def lK (p : KN) : Lit := .int p.1 p.2
theorem inR_wf {k : IntKind} {n : Int} (hk : inR (idx k) n = true) : (Lit.int k n).wf = true := by
  have key : ∀ lo hi : Int, k.min = lo → k.max = hi → lo ≤ n → n ≤ hi → (Lit.int k n).wf = true := fun lo hi e1 e2 h1 h2 => by
    simp [Lit.wf, e1, e2, h1, h2]
  cases n with
  | ofNat m =>
    have hl : m < lim (idx k) := blt_lt hk
    cases k with
    | i8 => exact key (-128) 127 rfl rfl (by have : m < 128 := hl; show (-128 : Int) ≤ (m : Int); omega) (by have : m < 128 := hl; show (m : Int) ≤ 127; omega)
    | i16 => exact key (-32768) 32767 rfl rfl (by show (-32768 : Int) ≤ (m : Int); omega) (by have : m < 32768 := hl; show (m : Int) ≤ 32767; omega)
    | i32 => exact key (-2147483648) 2147483647 rfl rfl (by show (-2147483648 : Int) ≤ (m : Int); omega) (by have : m < 2147483648 := hl; show (m : Int) ≤ 2147483647; omega)
    | i64 => exact key (-9223372036854775808) 9223372036854775807 rfl rfl (by show (-9223372036854775808 : Int) ≤ (m : Int); omega) (by have : m < 9223372036854775808 := hl; show (m : Int) ≤ 9223372036854775807; omega)
    | u8 => exact key 0 255 rfl rfl (by show (0 : Int) ≤ (m : Int); omega) (by have : m < 256 := hl; show (m : Int) ≤ 255; omega)
    | u16 => exact key 0 65535 rfl rfl (by show (0 : Int) ≤ (m : Int); omega) (by have : m < 65536 := hl; show (m : Int) ≤ 65535; omega)
    | u32 => exact key 0 4294967295 rfl rfl (by show (0 : Int) ≤ (m : Int); omega) (by have : m < 4294967296 := hl; show (m : Int) ≤ 4294967295; omega)
    | u64 => exact key 0 18446744073709551615 rfl rfl (by show (0 : Int) ≤ (m : Int); omega) (by have : m < 18446744073709551616 := hl; show (m : Int) ≤ 18446744073709551615; omega)
  | negSucc m =>
    have hl : m < liml (idx k) := blt_lt hk
    cases k with
    | i8 => exact key (-128) 127 rfl rfl (by have : m < 128 := hl; omega) (by omega)
    | i16 => exact key (-32768) 32767 rfl rfl (by have : m < 32768 := hl; omega) (by omega)
    | i32 => exact key (-2147483648) 2147483647 rfl rfl (by have : m < 2147483648 := hl; omega) (by omega)
    | i64 => exact key (-9223372036854775808) 9223372036854775807 rfl rfl (by have : m < 9223372036854775808 := hl; omega) (by omega)
    | u8 => exact absurd hl (Nat.not_lt_zero _)
    | u16 => exact absurd hl (Nat.not_lt_zero _)
    | u32 => exact absurd hl (Nat.not_lt_zero _)
    | u64 => exact absurd hl (Nat.not_lt_zero _)
/-- the lists of cells of a type are lists of numbers of its kinds -/
def KindsOk (P : Program) (d : Nat) (t : TypeId) (ks : List Nat) : Prop :=
  ∀ ps : List KN, ps.map (fun p => idx p.1) = ks → (∀ p ∈ ps, (lK p).wf = true) → P.keyLits d t (ps.map vK) = some (ps.map lK)
theorem split_map {ps : List KN} {k1 k2 : List Nat} (hp : ps.map (fun p => idx p.1) = k1 ++ k2) : ∃ p1 p2, ps = p1 ++ p2 ∧ p1.map (fun p => idx p.1) = k1 ∧ p2.map (fun p => idx p.1) = k2 := by
  obtain ⟨l1, l2, h1, h2, h3⟩ := List.map_eq_append_iff.1 hp
  exact ⟨l1, l2, h1, h2, h3⟩
theorem fields_ok {d : Nat} {p : TypeId → Option (List Nat)} (hp : ∀ t ks, p t = some ks → KindsOk P d t ks) : ∀ {fs : List Field} {o : Nat} {ks : List Nat} (pre : List Value) {ps : List KN}, kindsF p P.cellsOf fs o = some ks → pre.length = o → ps.map (fun p => idx p.1) = ks → (∀ q ∈ ps, (lK q).wf = true) →
    (∀ f ∈ fs, (f.name != "_") = true) ∧ ∃ ls, (fs.mapM fun f => P.keyLits d f.type (((pre ++ ps.map vK).drop f.offset).take (P.cellsOf f.type))) = some ls ∧ ls.flatten = ps.map lK
  | [], o, ks, pre, ps, hk, hl, hps, hw => by
    injection hk with hk
    subst hk
    have : ps = [] := List.map_eq_nil_iff.1 hps
    subst this
    exact ⟨fun f hf => (by cases hf), [], rfl, rfl⟩
  | f :: fs, o, ks, pre, ps, hk, hl, hps, hw => by
    obtain ⟨h1, hk⟩ := grd_some hk
    obtain ⟨h1, h2⟩ := ifB_and h1
    obtain ⟨k1, h3, hk⟩ := bnd_some hk
    obtain ⟨h4, hk⟩ := grd_some hk
    obtain ⟨k2, h5, hk⟩ := bnd_some hk
    injection hk with hk
    subst hk
    obtain ⟨p1, p2, rfl, e1, e2⟩ := split_map hps
    have hl1 : p1.length = P.cellsOf f.type := by rw [← beq_eq h4, ← e1]; simp
    obtain ⟨n1, ls, m1, m2⟩ := fields_ok hp (pre ++ p1.map vK) h5 (by simp [hl, hl1]) e2 (fun q hq => hw q (by simp [hq]))
    have hc := hp _ _ h3 p1 e1 (fun q hq => hw q (by simp [hq]))
    refine ⟨fun g hg => ?_, (p1.map lK) :: ls, ?_, ?_⟩
    · rcases List.mem_cons.1 hg with rfl | hg
      · simpa [bne] using h2
      · exact n1 g hg
    · have ed : (((pre ++ (p1 ++ p2).map vK).drop f.offset).take (P.cellsOf f.type)) = p1.map vK := by
        rw [beq_eq h1, ← hl, List.drop_left, List.map_append, ← hl1]
        simp
      rw [List.map_append, ← List.append_assoc] at ed ⊢
      rw [List.mapM_cons, ed, hc, m1]
      rfl
    · rw [List.flatten_cons, m2, List.map_append]
theorem items_ok {d : Nat} {e : TypeId} {ke : List Nat} (he : KindsOk P d e ke) (hl : ke.length = P.cellsOf e) : ∀ (n j : Nat) (pre : List Value) {ps : List KN}, pre.length = j * P.cellsOf e → ps.map (fun p => idx p.1) = (List.replicate n ke).flatten → (∀ q ∈ ps, (lK q).wf = true) →
    ∃ ls, ((List.range' j n).mapM fun i => P.keyLits d e (((pre ++ ps.map vK).drop (i * P.cellsOf e)).take (P.cellsOf e))) = some ls ∧ ls.flatten = ps.map lK
  | 0, j, pre, ps, hp, hps, hw => by
    have : ps = [] := by simpa using hps
    subst this
    exact ⟨[], rfl, rfl⟩
  | n + 1, j, pre, ps, hp, hps, hw => by
    rw [List.replicate_succ, List.flatten_cons] at hps
    obtain ⟨p1, p2, rfl, e1, e2⟩ := split_map hps
    have hl1 : p1.length = P.cellsOf e := by rw [← hl, ← e1]; simp
    obtain ⟨ls, m1, m2⟩ := items_ok he hl n (j + 1) (pre ++ p1.map vK) (by rw [Nat.succ_mul]; simp [hp, hl1]) e2 (fun q hq => hw q (by simp [hq]))
    have hc := he p1 e1 (fun q hq => hw q (by simp [hq]))
    refine ⟨(p1.map lK) :: ls, ?_, ?_⟩
    · have ed : (((pre ++ (p1 ++ p2).map vK).drop (j * P.cellsOf e)).take (P.cellsOf e)) = p1.map vK := by
        rw [← hp, List.drop_left, List.map_append, ← hl1]
        simp
      rw [List.range'_succ]
      rw [List.map_append, ← List.append_assoc] at ed ⊢
      rw [List.mapM_cons, ed, hc, m1]
      rfl
    · rw [List.flatten_cons, m2, List.map_append]
theorem kinds_ok : ∀ {d : Nat} {t : TypeId} {ks : List Nat}, kindsT P d t = some ks → KindsOk P d t ks
  | 0, t, ks, hk => by cases hk
  | d + 1, t, ks, hk => by
    intro ps hps hw
    unfold kindsT at hk
    cases hu : P.underlying t with
    | none => rw [hu] at hk; cases hk
    | some td =>
      rw [hu] at hk
      cases td
      case int k =>
        injection hk with hk
        subst hk
        have hl1 : ps.length = 1 := by have := congrArg List.length hps; simpa using this
        obtain ⟨p, rfl⟩ := List.length_eq_one_iff.1 hl1
        have e : idx p.1 = idx k := by simpa using hps
        have e := idx_inj e
        have hw' := hw p (by simp)
        obtain ⟨q, m⟩ := p
        simp only at e
        subst e
        have hw'' : (Lit.int q m).wf = true := hw'
        simp [Program.keyLits, hu, vK, lK, hw'']
      case struct fs =>
        obtain ⟨k1, h1, hk⟩ := bnd_some hk
        obtain ⟨h2, hk⟩ := grd_some hk
        injection hk with hk
        subst hk
        obtain ⟨n1, ls, m1, m2⟩ := fields_ok (P := P) (d := d) (fun t ks h => kinds_ok h) [] h1 rfl hps hw
        have hlen : (ps.map vK).length = P.cellsOf t := by rw [← beq_eq h2, ← hps]; simp
        have hall : fs.all (·.name != "_") = true := by
          rw [← Array.all_toList, List.all_eq_true]
          exact n1
        unfold Program.keyLits
        simp only [hu]
        rw [if_pos ⟨hlen, hall⟩]
        rw [List.nil_append] at m1
        rw [m1, Option.map_some, m2]
      case array n e =>
        obtain ⟨k1, h1, hk⟩ := bnd_some hk
        obtain ⟨h2, hk⟩ := grd_some hk
        obtain ⟨h2, h3⟩ := ifB_and h2
        injection hk with hk
        subst hk
        have hl := beq_eq h2
        obtain ⟨ls, m1, m2⟩ := items_ok (kinds_ok h1) hl n 0 [] (by simp) hps hw
        have hlen : (ps.map vK).length = P.cellsOf t := by
          rw [← beq_eq h3, ← hl]
          have := congrArg List.length hps
          simpa using this
        unfold Program.keyLits
        simp only [hu]
        rw [if_pos hlen]
        rw [List.nil_append, ← List.range_eq_range'] at m1
        rw [m1, Option.map_some, m2]
      all_goals (cases hk)
theorem eqL_cons {k : Nat} {ks : List Nat} {l l' : L} : eqL (k :: ks) l l' = onCons l fun x xs => onCons l' fun y ys => onI x fun k1 m => onI y fun k2 n => grd (Nat.beq k1 k && (Nat.beq k2 k && (inR k m && inR k n))) (bnd (eqL ks xs ys) fun r => some (ifB (eqI m n) r false)) := rfl
theorem eqL_some : ∀ {ks : List Nat} {l l' : L} {xs ys : List Value} {r : Bool}, eqL ks l l' = some r → CR ι l xs → CR ι l' ys →
    ∃ ps qs : List KN, xs = ps.map vK ∧ ys = qs.map vK ∧ ps.map (fun p => idx p.1) = ks ∧ qs.map (fun p => idx p.1) = ks ∧ (∀ p ∈ ps, (lK p).wf = true) ∧ (∀ p ∈ qs, (lK p).wf = true) ∧ (r = true ↔ ps.map lK = qs.map lK)
  | [], l, l', xs, ys, r, hr, hx, hy => by
    obtain ⟨h1, hr⟩ := grd_some (hr : grd (Nat.beq (vlen l) 0 && Nat.beq (vlen l') 0) (some true) = some r)
    obtain ⟨h1, h2⟩ := ifB_and h1
    injection hr with hr
    subst hr
    have e1 : l = [] := by have := beq_eq h1; rw [vlen_eq] at this; exact List.length_eq_zero_iff.1 this
    have e2 : l' = [] := by have := beq_eq h2; rw [vlen_eq] at this; exact List.length_eq_zero_iff.1 this
    subst e1 e2
    cases hx
    cases hy
    exact ⟨[], [], rfl, rfl, rfl, rfl, fun p hp => (by cases hp), fun p hp => (by cases hp), by simp⟩
  | k :: ks, l, l', xs, ys, r, hr, hx, hy => by
    rw [eqL_cons] at hr
    obtain ⟨x, l1, q1, hr1⟩ := onCons_some hr
    obtain ⟨y, l2, q2, hr2⟩ := onCons_some hr1
    subst q1 q2
    obtain ⟨t1, hr3⟩ := onI_some hr2
    clear hr hr1
    obtain ⟨t2, hr⟩ := onI_some hr3
    obtain ⟨hk, hr⟩ := grd_some hr
    obtain ⟨c1, hk⟩ := ifB_and hk
    obtain ⟨c2, hk⟩ := ifB_and hk
    obtain ⟨c3, c4⟩ := ifB_and hk
    obtain ⟨r', h1, hr9⟩ := bnd_some hr
    injection hr9 with hfin
    cases hx with
    | cons hs hv htl =>
      cases hy with
      | cons hs' hv' htl' =>
        obtain ⟨q1, e1, rfl, -⟩ := hv.int_inv t1
        obtain ⟨q2, e2, rfl, -⟩ := hv'.int_inv t2
        obtain ⟨ps, qs, rfl, rfl, a1, a2, a3, a4, a5⟩ := eqL_some h1 htl htl'
        have c1 := beq_eq c1
        have c2 := beq_eq c2
        rw [c1] at e1
        rw [c2] at e2
        subst e1
        have := idx_inj e2
        subst this
        refine ⟨(q1, x.n) :: ps, (q1, y.n) :: qs, rfl, rfl, by simp [a1], by simp [a2], ?_, ?_, ?_⟩
        · intro p hp
          rcases List.mem_cons.1 hp with rfl | hp
          · exact inR_wf c3
          · exact a3 p hp
        · intro p hp
          rcases List.mem_cons.1 hp with rfl | hp
          · exact inR_wf c4
          · exact a4 p hp
        · rw [← hfin, eqI_eq, ifB_eq]
          simp only [List.map_cons, List.cons.injEq, lK, Lit.int.injEq, true_and]
          by_cases e : x.n = y.n
          · simp [e, a5, lK]
          · simp [e]
theorem ok_eqA {neg : Bool} {ty ty2 : TypeId} {x y : Operand} {f g : T → V} {ks : List Nat} (ho : o.op = .binOp (if neg = true then .neq else .eql) ty x y ty2) (hT : (∃ fs, P.underlying ty = some (.struct fs)) ∨ (∃ n e, P.underlying ty = some (.array n e))) (hk : P.keyTypeAt 8 ty = true) (hg : P.eqGuardType P.depth ty = false) (hks : kindsT P 8 ty = some ks) (h1 : cO nt x = some f) (h2 : cO nt y = some g)
    (hO : Opd ι nt t a o.op.operands) (hw : Wld ι D h w) (hr : opEqA neg ks f g ih ro t h = some (v, h')) : Res1 P a o ι D h w v h' := by
  have v1 := hO x (by cases neg <;> simp [ho, Op.operands]) f h1
  have v2 := hO y (by cases neg <;> simp [ho, Op.operands]) g h2
  obtain ⟨t1, hr⟩ := onAgg_some hr
  obtain ⟨t2, hr⟩ := onAgg_some hr
  obtain ⟨r, h3, hr⟩ := bnd_some hr
  injection hr with hr
  injection hr with e1 e2
  subst e1 e2
  obtain ⟨xs, hx, ex⟩ := v1.agg_inv t1
  obtain ⟨ys, hy, ey⟩ := v2.agg_inv t2
  obtain ⟨ps, qs, rfl, rfl, a1, a2, a3, a4, a5⟩ := eqL_some h3 hx hy
  have hl : ks.length = P.cellsOf ty := by
    unfold kindsT at hks
    rcases hT with ⟨fs, hu⟩ | ⟨n, e, hu⟩
    · rw [hu] at hks
      obtain ⟨k1, q1, hks⟩ := bnd_some hks
      obtain ⟨q2, hks⟩ := grd_some hks
      injection hks with hks
      subst hks
      exact beq_eq q2
    · rw [hu] at hks
      obtain ⟨k1, q1, hks⟩ := bnd_some hks
      obtain ⟨q2, hks⟩ := grd_some hks
      obtain ⟨q2, q3⟩ := ifB_and q2
      injection hks with hks
      subst hks
      rw [← beq_eq q3, ← beq_eq q2]
      simp
  have fm : ∀ zs : List KN, zs.map (fun p => idx p.1) = ks → (Value.agg ⟨zs.map vK⟩).formed P ty = true := by
    intro zs hz
    have : zs.length = P.cellsOf ty := by rw [← hl, ← hz]; simp
    rcases hT with ⟨fs, hu⟩ | ⟨n, e, hu⟩ <;> simp [Value.formed, hu, this]
  have hK := kinds_ok (P := P) hks
  obtain ⟨r', hr', hiff⟩ := run_equalIn_deep (P := P) 9992 8 ty hk w 8 8 (.agg ⟨ps.map vK⟩) (.agg ⟨qs.map vK⟩) (ps.map lK) (qs.map lK) (fm ps a1) (fm qs a2) (hK ps a1 a3) (hK qs a2 a4)
  have hrr : r' = r := by
    cases r <;> cases r' <;> simp_all
  subst hrr
  have hq : (Op.equal ty (a.eval x) (a.eval y)).run P w = .ok r' w := by rw [ex, ey]; exact hr'
  refine Res1.pure hw (v' := .bool (ifB neg (!r') r')) ?_ (.bool _)
  have hgd : ∀ op, (eqGuard op ty x y (a.eval x) (a.eval y)).run P w = .ok () w := by
    intro op
    rw [ex, ey]
    unfold eqGuard
    cases op <;> simp [hg]
  have hb : binOp .eql ty (a.eval x) (a.eval y) = (do pure (.bool (← Op.equal ty (a.eval x) (a.eval y)))) ∧ binOp .neq ty (a.eval x) (a.eval y) = (do pure (.bool (!(← Op.equal ty (a.eval x) (a.eval y))))) := by
    rw [ex, ey]; exact ⟨rfl, rfl⟩
  have hex : ∀ op, o.op = .binOp op ty x y ty2 → (binOp op ty (a.eval x) (a.eval y)).run P w = .ok (.bool (ifB neg (!r') r')) w → (execOp a.eval o).run P w = .ok (.value (.bool (ifB neg (!r') r'))) w := by
    intro op ho' hr'
    unfold execOp
    rw [ho']
    simp only [hgd, Sem.run_bind, Sem.run_pure, Result.andThen_ok, hr']
  cases neg
  · exact hex .eql ho (by rw [hb.1]; simp only [Sem.run_bind, hq, Result.andThen_ok, Sem.run_pure]; rfl)
  · exact hex .neq ho (by rw [hb.2]; simp only [Sem.run_bind, hq, Result.andThen_ok, Sem.run_pure]; rfl)
end Ev
end Go.Proofs.YtlbjnkopbabcnaaGreatDoor
end


section
namespace Go.Proofs.YtlbjnkopbabcnaaGreatDoor
namespace Ev
set_option linter.unusedVariables false
set_option linter.unusedSimpArgs false
variable {ι ι' : Im} {D : Nat → Prop} {h h' : Hp} {w w' : World} {P : Program} {t : T} {nt : Nat} {a : Act} {ih : Ih} {ro : Option Nat} {v : V} {o : Oper}
/-- types whose values are compared cell by cell -/
def KeyT (P : Program) (ty : TypeId) (ks : List Nat) : Prop := ((∃ fs, P.underlying ty = some (.struct fs)) ∨ (∃ n e, P.underlying ty = some (.array n e))) ∧ P.keyTypeAt 8 ty = true ∧ kindsT P 8 ty = some ks
theorem keysT_some {ty : TypeId} {ks : List Nat} (hk : keysT P ty = some ks) : KeyT P ty ks := by
  unfold keysT at hk
  split at hk
  · rename_i hu; obtain ⟨h1, h2⟩ := grd_some hk; exact ⟨.inl ⟨_, hu⟩, h1, h2⟩
  · rename_i hu; obtain ⟨h1, h2⟩ := grd_some hk; exact ⟨.inr ⟨_, _, hu⟩, h1, h2⟩
  · cases hk
theorem KeyT.len {ty : TypeId} {ks : List Nat} (hT : KeyT P ty ks) : ks.length = P.cellsOf ty := by
  obtain ⟨hT, -, hks⟩ := hT
  unfold kindsT at hks
  rcases hT with ⟨fs, hu⟩ | ⟨n, e, hu⟩
  · rw [hu] at hks
    obtain ⟨k1, q1, hks⟩ := bnd_some hks
    obtain ⟨q2, hks⟩ := grd_some hks
    injection hks with hks
    subst hks
    exact beq_eq q2
  · rw [hu] at hks
    obtain ⟨k1, q1, hks⟩ := bnd_some hks
    obtain ⟨q2, hks⟩ := grd_some hks
    obtain ⟨q2, q3⟩ := ifB_and q2
    injection hks with hks
    subst hks
    rw [← beq_eq q3, ← beq_eq q2]
    simp
theorem KeyT.formed {ty : TypeId} {ks : List Nat} (hT : KeyT P ty ks) (zs : List KN) (hz : zs.map (fun p => idx p.1) = ks) : (Value.agg ⟨zs.map vK⟩).formed P ty = true := by
  have : zs.length = P.cellsOf ty := by rw [← hT.len, ← hz]; simp
  rcases hT.1 with ⟨fs, hu⟩ | ⟨n, e, hu⟩ <;> simp [Value.formed, hu, this]
theorem vK_inj {ps qs : List KN} (e : ps.map lK = qs.map lK) : ps.map vK = qs.map vK := by
  have : ∀ l : List KN, l.map vK = (l.map lK).map Lit.toCell := fun l => by rw [List.map_map]; rfl
  rw [this, this, e]
theorem key_eq {ty : TypeId} {ks : List Nat} (hT : KeyT P ty ks) {c c' : L} {xs ys : List Value} {r : Bool} (he : eqL ks c c' = some r) (hx : CR ι c xs) (hy : CR ι c' ys) (w : World) :
    (Op.equal ty (.agg ⟨xs⟩) (.agg ⟨ys⟩)).run P w = .ok r w ∧ (r = true → xs = ys) := by
  obtain ⟨ps, qs, rfl, rfl, a1, a2, a3, a4, a5⟩ := eqL_some he hx hy
  have hK := kinds_ok (P := P) hT.2.2
  obtain ⟨r', hr', hiff⟩ := run_equalIn_deep (P := P) 9992 8 ty hT.2.1 w 8 8 (.agg ⟨ps.map vK⟩) (.agg ⟨qs.map vK⟩) (ps.map lK) (qs.map lK) (hT.formed ps a1) (hT.formed qs a2) (hK ps a1 a3) (hK qs a2 a4)
  have hrr : r' = r := by
    cases r <;> cases r' <;> simp_all
  subst hrr
  exact ⟨hr', fun e => vK_inj (a5.1 e)⟩
theorem key_ok {ty : TypeId} {ks : List Nat} (hT : KeyT P ty ks) {c : L} {xs : List Value} {r : Bool} (he : eqL ks c c = some r) (hx : CR ι c xs) (w : World) :
    (∀ em, (Instr.checkKey em 10000 ty (.agg ⟨xs⟩)).run P w = .ok () w) ∧ (Instr.keyThatStays (.agg ⟨xs⟩) (.agg ⟨xs⟩)).run P w = .ok (.agg ⟨xs⟩) w := by
  obtain ⟨ps, qs, rfl, -, a1, a2, a3, a4, a5⟩ := eqL_some he hx hx
  have hK := kinds_ok (P := P) hT.2.2
  refine ⟨fun em => run_checkKey_deep em 9992 8 ty hT.2.1 w 8 (.agg ⟨ps.map vK⟩) (ps.map lK) (hT.formed ps a1) (hK ps a1 a3), ?_⟩
  have hs : Instr.sameBits 10000 (.agg ⟨ps.map vK⟩) (.agg ⟨ps.map vK⟩) = true := by
    show Instr.sameBits (9999 + 1) (.agg ⟨ps.map vK⟩) (.agg ⟨ps.map vK⟩) = true
    simp only [Instr.sameBits, beq_self_eq_true, Bool.true_and, List.all_eq_true]
    intro p hp
    obtain ⟨i, hi, e⟩ := List.getElem_of_mem hp
    rw [List.getElem_zip] at e
    rw [← e]
    simp [vK, Instr.sameBits]
  simp [Instr.keyThatStays, hs]
theorem run_find {ty : TypeId} {ks : List Nat} (hT : KeyT P ty ks) (x : Value) (es : List MapEntry) (w : World) : (Instr.findKey ty x es).run P w = (Instr.findAsking ty x es).run P w := by
  refine run_findKey_eq w ?_ x es
  rcases hT.1 with ⟨fs, hu⟩ | ⟨n, e, hu⟩ <;> simp [hu]
theorem onEnt_some {α : Type} {x y : V} {b : Nat} {k : V → V → Nat → Option α} : onEnt (vEnt x y b) k = k x y b := by
  show fN (fun b => k x y b) b = _
  rw [fN_eq]
theorem findE_cons {ks : List Nat} {c : L} {e : V} {l : L} {i : Nat} : findE ks c (e :: l) i = onEnt e fun x _ _ => onAgg x fun kc => bnd (eqL ks c kc) fun r => ifB r (some (some (i, e))) (findE ks c l (Nat.succ i)) := rfl
/-- a key that is sought -/
theorem findE_ok {ty : TypeId} {ks : List Nat} (hT : KeyT P ty ks) {c : L} {xs : List Value} (hx : CR ι c xs) (w : World) {l : L} {es : List MapEntry} {i : Nat} {r : Option (Nat × V)} (hr : findE ks c l i = some r) (he : ER ι l es) :
    (r = none ∧ (Instr.findAsking ty (.agg ⟨xs⟩) es i).run P w = .ok none w) ∨
    ∃ j x y me, r = some (i + j, vEnt x y me.born) ∧ l[j]? = some (vEnt x y me.born) ∧ es[j]? = some me ∧ VR ι x me.key ∧ VR ι y me.val ∧ me.key = .agg ⟨xs⟩ ∧ (Instr.findAsking ty (.agg ⟨xs⟩) es i).run P w = .ok (some (i + j, me.val)) w := by
  induction he generalizing i r with
  | nil =>
    injection hr with hr
    exact .inl ⟨hr.symm, by simp [Instr.findAsking]⟩
  | @cons x y e l es h1 h2 ht ih =>
    rw [findE_cons, onEnt_some] at hr
    obtain ⟨t1, hr⟩ := onAgg_some hr
    obtain ⟨b, q1, hr⟩ := bnd_some hr
    obtain ⟨ys, hy, ey⟩ := h1.agg_inv t1
    obtain ⟨hq, hqe⟩ := key_eq hT q1 hx hy w
    rw [← ey] at hq
    rcases ifB_some hr with ⟨rfl, hr⟩ | ⟨rfl, hr⟩
    · injection hr with hr
      exact .inr ⟨0, x, y, e, hr.symm, rfl, rfl, h1, h2, by rw [ey, hqe rfl], by simp [Instr.findAsking, hq]⟩
    · rcases ih hr with ⟨e1, e2⟩ | ⟨j, x', y', me, e1, e2, e3, e4, e5, e6, e7⟩
      · exact .inl ⟨e1, by simp [Instr.findAsking, hq, e2]⟩
      · refine .inr ⟨j + 1, x', y', me, ?_, by simpa using e2, by simpa using e3, e4, e5, e6, ?_⟩
        · rw [e1]; congr 2; simp only [Nat.succ_eq_add_one]; omega
        · rw [Instr.findAsking]; simp only [Sem.run_bind, hq, Result.andThen_ok]; simp only [Bool.false_eq_true, if_false]; rw [e7]; congr 3; simp only [Nat.succ_eq_add_one]; omega
theorem rowM_some {α : Type} {b : Nat} {k : L → Nat → Option α} {r : α} (hk : rowM h b k = some r) : b < h.nx ∧ (h.at_ b).tg = 5 ∧ k (h.at_ b).l (h.at_ b).sz = some r := by
  unfold rowM onMp at hk
  rw [onHp_eq] at hk
  obtain ⟨h0, hk⟩ := grd_some hk
  rcases ifB_some hk with ⟨h1, h2⟩ | ⟨_, h2⟩
  · rw [fN_eq] at h2; exact ⟨blt_lt h0, beq_eq h1, h2⟩
  · cases h2
theorem onMap_some {α : Type} {z : V} {k0 : Option α} {k : Nat → Option α} {r : α} (hk : onMap z k0 k = some r) : (z.tg = 11 ∧ k z.a = some r) ∨ (z.tg = 10 ∧ k0 = some r) := by
  unfold onMap at hk
  rcases ifB_some hk with ⟨h1, h2⟩ | ⟨_, h2⟩
  · rw [fN_eq] at h2; exact .inl ⟨beq_eq h1, h2⟩
  · rcases ifB_some h2 with ⟨h1, h2⟩ | ⟨_, h2⟩
    · exact .inr ⟨beq_eq h1, h2⟩
    · cases h2
theorem onKey_some {ks : List Nat} {z : V} {k : L → Option (V × Hp)} {r : V × Hp} (hk : onKey ks z k = some r) : z.tg = 12 ∧ (∃ q, eqL ks z.l z.l = some q) ∧ k z.l = some r := by
  obtain ⟨h1, hk⟩ := onAgg_some hk
  obtain ⟨q, h2, hk⟩ := bnd_some hk
  exact ⟨h1, ⟨q, h2⟩, hk⟩
theorem cMap_some {α : Type} {ty : TypeId} {k : TypeId → TypeId → List Nat → Option α} {r : α} (hk : cMap P ty k = some r) : ∃ a e ks, P.underlying ty = some (.map a e) ∧ KeyT P a ks ∧ k a e ks = some r := by
  unfold cMap at hk
  split at hk
  · rename_i hu
    obtain ⟨ks, h1, hk⟩ := bnd_some hk
    exact ⟨_, _, ks, hu, keysT_some h1, hk⟩
  · cases hk
theorem zeroV_ok {ty : TypeId} {z : V} (hz : zeroV P ty = some z) (w : World) : ∃ zv : Value, (zeroValue ty).run P w = .ok zv w ∧ ∀ ι, VR ι z zv := by
  obtain ⟨i, h1, hz⟩ := bnd_some hz
  obtain ⟨zv, h2, hz⟩ := bnd_some hz
  exact ⟨zv, by simp [zeroValue, typeInfo, h1, h2], fun ι => cV_ok hz⟩
theorem onFind_none {k0 : Option (V × Hp)} {k1 : Nat → V → V → V → Nat → Option (V × Hp)} : onFind none k0 k1 = k0 := rfl
theorem onFind_some {k0 : Option (V × Hp)} {k1 : Nat → V → V → V → Nat → Option (V × Hp)} {i b : Nat} {x y : V} : onFind (some (i, vEnt x y b)) k0 k1 = k1 i (vEnt x y b) x y b := by
  show onEnt (vEnt x y b) (fun x y b' => k1 i (vEnt x y b) x y b') = _
  rw [onEnt_some]
theorem ER.len {l : L} {es : List MapEntry} (h : ER ι l es) : l.length = es.length := by
  induction h with
  | nil => rfl
  | cons _ _ _ ih => simp [ih]
theorem ER.push {l : L} {es : List MapEntry} {x y : V} {e : MapEntry} (h : ER ι l es) (h1 : VR ι x e.key) (h2 : VR ι y e.val) : ER ι (l ++ [vEnt x y e.born]) (es ++ [e]) := by
  induction h with
  | nil => exact .cons h1 h2 .nil
  | cons q1 q2 _ ih => exact .cons q1 q2 ih
theorem ER.put {l : L} {es : List MapEntry} {x y : V} {e : MapEntry} (h : ER ι l es) (h1 : VR ι x e.key) (h2 : VR ι y e.val) : ∀ {j : Nat}, j < l.length → ER ι (l.take j ++ [vEnt x y e.born] ++ l.drop (j + 1)) (es.take j ++ [e] ++ es.drop (j + 1)) := by
  induction h with
  | nil => intro j hj; exact absurd hj (Nat.not_lt_zero _)
  | cons q1 q2 t ih =>
    intro j hj
    cases j with
    | zero => exact .cons h1 h2 t
    | succ j => exact .cons q1 q2 (ih (by simpa using hj))
theorem ER.erase {l : L} {es : List MapEntry} (h : ER ι l es) : ∀ {j : Nat}, ER ι (l.eraseIdx j) (es.eraseIdx j) := by
  induction h with
  | nil => intro j; simpa using .nil
  | cons q1 q2 t ih =>
    intro j
    cases j with
    | zero => exact t
    | succ j => exact .cons q1 q2 ih
theorem verase_some : ∀ {n : Nat} {l r : L}, verase n l = some r → r = l.eraseIdx n ∧ n < l.length
  | 0, l, r, h => by
    obtain ⟨x, xs, rfl, h⟩ := onCons_some (h : onCons l (fun _ xs => some xs) = some r)
    injection h with h
    subst h
    simp
  | n + 1, l, r, h => by
    obtain ⟨x, xs, rfl, h⟩ := onCons_some h
    obtain ⟨q, h1, h⟩ := bnd_some h
    injection h with h
    subst h
    obtain ⟨e, hl⟩ := verase_some h1
    subst e
    exact ⟨rfl, by simpa using hl⟩
theorem modify_put {α : Type} (f : α → α) : ∀ {l : List α} {j : Nat} {e : α}, l[j]? = some e → l.modify j f = l.take j ++ [f e] ++ l.drop (j + 1)
  | [], j, e, h => by simp at h
  | a :: l, 0, e, h => by simp at h; subst h; rfl
  | a :: l, j + 1, e, h => by
    have := modify_put f (l := l) (j := j) (e := e) (by simpa using h)
    simpa using this
/-- a map's block -/
theorem mp_get (hw : Wld ι D h w) {b b' : Nat} (hb : b < h.nx) (hD : D b) (hi : ι b = some b') (ht : (h.at_ b).tg = 5) : ∃ es : List MapEntry, ER ι (h.at_ b).l es ∧ w.heap[b']? = some (.map ⟨es⟩ (h.at_ b).sz) :=
  (hw.ob b b' hD hb hi).mp ht
theorem run_getObj {b' n : Nat} {es : Array MapEntry} (hb : w.heap[b']? = some (.map es n)) : (getObj b').run P w = .ok (.map es n) w := by simp [getObj, Sem.run, hb]
theorem run_setObj {b' n : Nat} {es : Array MapEntry} {ob' : Obj} (hb : w.heap[b']? = some (.map es n)) : (setObj b' ob').run P w = .ok () (w.putObj b' ob') := by
  simp [setObj, Sem.run, hb, World.putObj]
theorem mp_set (hw : Wld ι D h w) {b b' n : Nat} {l : L} {es : List MapEntry} {ob : Obj} (hD : D b) (hi : ι b = some b') (ht : (h.at_ b).tg = 5) (hs : setB b (oMp n l) h = some h') (he : ER ι l es) (hg : w.heap[b']? = some ob) :
    Stp ι D h w ι h' (w.putObj b' (.map ⟨es⟩ n)) := by
  obtain ⟨hb, rfl⟩ := setB_some hs
  have hlt : b' < w.heap.size := (Array.getElem?_eq_some_iff.1 hg).1
  refine stp_set hw hb hD hi ⟨by omega, by omega⟩ ⟨World.putObj_size, rfl, rfl, rfl, fun j hj => World.putObj_heap_other hj⟩ ⟨fun e => (by cases e), fun e => (by cases e), fun e => (by cases e), fun e => (by cases e), fun _ => ⟨es, he, ?_⟩⟩
  exact World.putObj_heap_same hlt
theorem ok_map {ty : TypeId} (ho : o.op = .makeMap ty none) (hw : Wld ι D h w) (hr : opMap P ih ro t h = some (v, h')) (hf : Fresh ι h h') : Res1 P a o ι D h w v h' := by
  obtain ⟨hn, hr⟩ := newB_some hr
  injection hr with hr
  injection hr with e1 e2
  subst e1 e2
  have hf0 : ι h.nx = none := hf h.nx (Nat.le_refl _) (Nat.lt_succ_self _)
  refine ⟨.map (some w.heap.size), _, _, .inl ?_, stp_new (c := 0) (obj := .map #[] 0) hw hn hf0 ⟨fun e => (by cases e), fun e => (by cases e), fun e => (by cases e), fun e => (by cases e), fun _ => ⟨[], .nil, by rw [World.alloc_heap_new]; rfl⟩⟩, .map (if_pos rfl)⟩
  simp [execOp, ho, Instr.makeMap]
theorem ansL_ok {ok b : Bool} {z : V} {u : Value} (hz : VR ι z u) : VR ι (ansL ok z b) (if ok = true then .tuple #[u, .bool b] else u) := by
  cases ok with
  | false => exact hz
  | true => exact .tup (.cons hz (.cons (.bool b) .nil))
theorem ok_look {ty k e : TypeId} {ks : List Nat} {z : V} {ok : Bool} {x y : Operand} {f g : T → V} (ho : o.op = .lookup ty x y ok) (hu : P.underlying ty = some (.map k e)) (hT : KeyT P k ks) (hz : zeroV P e = some z) (h1 : cO nt x = some f) (h2 : cO nt y = some g)
    (hO : Opd ι nt t a o.op.operands) (hw : Wld ι D h w) (hD : ∀ k, D k) (hr : opLook ks z ok f g ih ro t h = some (v, h')) : Res1 P a o ι D h w v h' := by
  have v1 := hO x (by simp [ho, Op.operands]) f h1
  have v2 := hO y (by simp [ho, Op.operands]) g h2
  obtain ⟨t2, ⟨q, hq⟩, hr⟩ := onKey_some hr
  obtain ⟨xs, hx, ey⟩ := v2.agg_inv t2
  obtain ⟨hc, -⟩ := key_ok hT hq hx w
  obtain ⟨zv, hzr, hzv⟩ := zeroV_ok hz w
  have fin : ∀ {u : Value} {b : Bool}, (Instr.lookup ty (a.eval x) (a.eval y) ok).run P w = .ok (if ok = true then .tuple #[u, .bool b] else u) w → (execOp a.eval o).run P w = .ok (.value (if ok = true then .tuple #[u, .bool b] else u)) w := by
    intro u b hh
    simp [execOp, ho, hh]
  rcases onMap_some hr with ⟨t1, hr⟩ | ⟨t1, hr⟩
  · obtain ⟨hb, ht, hr⟩ := rowM_some hr
    obtain ⟨b', hb', ex⟩ := v1.map_inv t1
    obtain ⟨es, he, hg⟩ := mp_get hw hb (hD _) hb' ht
    obtain ⟨r, hr1, hr⟩ := bnd_some hr
    rcases findE_ok hT hx w hr1 he with ⟨rfl, e2⟩ | ⟨j, x', y', me, rfl, e2, e3, e4, e5, e6, e7⟩
    · rw [onFind_none] at hr
      injection hr with hr
      injection hr with e1 e3
      subst e1 e3
      refine Res1.pure hw (fin (u := zv) (b := false) ?_) (ansL_ok (hzv ι))
      rw [ex, ey]
      simp [Instr.lookup, run_underlying hu, run_getObj hg, hc, run_find hT, e2, hzr]
    · rw [onFind_some] at hr
      injection hr with hr
      injection hr with e1 e3'
      subst e1 e3'
      refine Res1.pure hw (fin (u := me.val) (b := true) ?_) (ansL_ok e5)
      rw [ex, ey]
      simp [Instr.lookup, run_underlying hu, run_getObj hg, hc, run_find hT, e7]
  · injection hr with hr
    injection hr with e1 e3
    subst e1 e3
    have ex := v1.nilm_inv t1
    refine Res1.pure hw (fin (u := zv) (b := false) ?_) (ansL_ok (hzv ι))
    rw [ex, ey]
    have hff : (Instr.findAsking k (.agg ⟨xs⟩) [] 0).run P w = .ok none w := by simp [Instr.findAsking]
    simp [Instr.lookup, run_underlying hu, hc, run_find hT, hff, hzr]
theorem ok_mapUp {ty k e : TypeId} {ks : List Nat} {m x y : Operand} {f g q : T → V} (ho : o.op = .mapUpdate ty m x y ∨ o.op = .insert ty m x y) (hu : P.underlying ty = some (.map k e)) (hT : KeyT P k ks) (h1 : cO nt m = some f) (h2 : cO nt x = some g) (h3 : cO nt y = some q)
    (hO : Opd ι nt t a o.op.operands) (hw : Wld ι D h w) (hD : ∀ k, D k) (hr : opMapUp ks f g q ih ro t h = some (v, h')) : Res1 P a o ι D h w v h' := by
  have v1 := hO m (by rcases ho with ho | ho <;> simp [ho, Op.operands]) f h1
  have v2 := hO x (by rcases ho with ho | ho <;> simp [ho, Op.operands]) g h2
  have v3 := hO y (by rcases ho with ho | ho <;> simp [ho, Op.operands]) q h3
  obtain ⟨t2, ⟨q', hq⟩, hr⟩ := onKey_some hr
  obtain ⟨-, hr⟩ := grd_some hr
  obtain ⟨xs, hx, ey⟩ := v2.agg_inv t2
  obtain ⟨hc, hst⟩ := key_ok hT hq hx w
  have fin : ∀ {w' : World}, (Instr.mapUpdate ty (a.eval m) (a.eval x) (a.eval y)).run P w = .ok () w' → (execOp a.eval o).run P w = .ok .skip w' ∨ (execOp a.eval o).run P w = .ok (.value undef) w' := by
    intro w' hh
    rcases ho with ho | ho <;> simp [execOp, ho, hh, undef]
  rcases onMap_some hr with ⟨t1, hr⟩ | ⟨t1, hr⟩
  · obtain ⟨hb, ht, hr⟩ := rowM_some hr
    obtain ⟨b', hb', ex⟩ := v1.map_inv t1
    obtain ⟨es, he, hg⟩ := mp_get hw hb (hD _) hb' ht
    obtain ⟨r, hr1, hr⟩ := bnd_some hr
    rcases findE_ok hT hx w hr1 he with ⟨rfl, e2⟩ | ⟨j, x', y', me, rfl, e2, e3, e4, e5, e6, e7⟩
    · rw [onFind_none] at hr
      obtain ⟨h2', hs, hr⟩ := bnd_some hr
      injection hr with hr
      injection hr with e1 e3
      subst e1 e3
      rw [vapp_eq] at hs
      have st := mp_set hw (hD _) hb' ht hs (he.push (e := ⟨a.eval x, a.eval y, (h.at_ (f t).a).sz⟩) v2 v3) hg
      have hrun : (Instr.mapUpdate ty (a.eval m) (a.eval x) (a.eval y)).run P w = .ok () (w.putObj b' (.map ⟨es ++ [⟨a.eval x, a.eval y, (h.at_ (f t).a).sz⟩]⟩ ((h.at_ (f t).a).sz + 1))) := by
        rw [ex, ey]
        simp [Instr.mapUpdate, run_underlying hu, run_getObj hg, hc, run_find hT, e2, run_setObj hg]
      exact ⟨undef, _, ι, (fin hrun).symm.imp id (fun q => ⟨q, rfl⟩), st, .und⟩
    · rw [onFind_some] at hr
      obtain ⟨l', hv', hr⟩ := bnd_some hr
      obtain ⟨h2', hs, hr⟩ := bnd_some hr
      injection hr with hr
      injection hr with e1 e3'
      subst e1 e3'
      obtain ⟨rfl, hlen⟩ := vsetAt_some hv'
      have hj : j < (h.at_ (f t).a).l.length := by simp at hlen; omega
      simp only [Nat.zero_add, List.length_singleton] at hs
      have st := mp_set hw (hD _) hb' ht hs (he.put (e := ⟨a.eval x, a.eval y, me.born⟩) v2 v3 hj) hg
      have hrun : (Instr.mapUpdate ty (a.eval m) (a.eval x) (a.eval y)).run P w = .ok () (w.putObj b' (.map ⟨es.take j ++ [⟨a.eval x, a.eval y, me.born⟩] ++ es.drop (j + 1)⟩ (h.at_ (f t).a).sz)) := by
        have hm := modify_put (fun e : MapEntry => { e with key := Value.agg ⟨xs⟩, val := a.eval y }) e3
        rw [ex, ey]
        simp only [Instr.mapUpdate, Sem.run_bind, run_underlying hu, Result.andThen_ok, run_getObj hg, hc, run_find hT, e7, Nat.zero_add]
        have hk : ((((⟨es⟩ : Array MapEntry)[j]?).map (·.key)).getD (Value.agg ⟨xs⟩)) = Value.agg ⟨xs⟩ := by
          simp [e3, e6]
        rw [hk]
        simp only [Sem.run_bind, hst, Result.andThen_ok, run_setObj hg]
        congr 3
        have : (⟨es⟩ : Array MapEntry).modify j (fun e => { e with key := Value.agg ⟨xs⟩, val := a.eval y }) = ⟨es.modify j (fun e => { e with key := Value.agg ⟨xs⟩, val := a.eval y })⟩ := by simp
        rw [this, hm]
      exact ⟨undef, _, ι, (fin hrun).symm.imp id (fun q => ⟨q, rfl⟩), st, .und⟩
  · cases hr
theorem ok_mapEnt {ty k e : TypeId} {ks : List Nat} {z : V} {m x : Operand} {f g : T → V} (ho : o.op = .mapEntry ty m x) (hu : P.underlying ty = some (.map k e)) (hT : KeyT P k ks) (hz : zeroV P e = some z) (h1 : cO nt m = some f) (h2 : cO nt x = some g)
    (hO : Opd ι nt t a o.op.operands) (hw : Wld ι D h w) (hD : ∀ k, D k) (hr : opMapEnt ks z f g ih ro t h = some (v, h')) : Res1 P a o ι D h w v h' := by
  have v1 := hO m (by simp [ho, Op.operands]) f h1
  have v2 := hO x (by simp [ho, Op.operands]) g h2
  obtain ⟨t2, ⟨q', hq⟩, hr⟩ := onKey_some hr
  obtain ⟨xs, hx, ey⟩ := v2.agg_inv t2
  obtain ⟨hc, hst⟩ := key_ok hT hq hx w
  obtain ⟨zv, hzr, hzv⟩ := zeroV_ok hz w
  have fin : ∀ {w' : World} {u : Value}, (Instr.mapEntry ty (a.eval m) (a.eval x)).run P w = .ok u w' → (execOp a.eval o).run P w = .ok (.value u) w' := by
    intro w' u hh
    simp [execOp, ho, hh]
  rcases onMap_some hr with ⟨t1, hr⟩ | ⟨t1, hr⟩
  · obtain ⟨hb, ht, hr⟩ := rowM_some hr
    obtain ⟨b', hb', ex⟩ := v1.map_inv t1
    obtain ⟨es, he, hg⟩ := mp_get hw hb (hD _) hb' ht
    obtain ⟨r, hr1, hr⟩ := bnd_some hr
    rcases findE_ok hT hx w hr1 he with ⟨rfl, e2⟩ | ⟨j, x', y', me, rfl, e2, e3, e4, e5, e6, e7⟩
    · rw [onFind_none] at hr
      obtain ⟨h2', hs, hr⟩ := bnd_some hr
      injection hr with hr
      injection hr with e1 e3
      subst e1 e3
      rw [vapp_eq] at hs
      have st := mp_set hw (hD _) hb' ht hs (he.push (e := ⟨a.eval x, zv, (h.at_ (f t).a).sz⟩) v2 (hzv ι)) hg
      have hrun : (Instr.mapEntry ty (a.eval m) (a.eval x)).run P w = .ok (.tuple #[zv, goInt (h.at_ (f t).a).sz]) (w.putObj b' (.map ⟨es ++ [⟨a.eval x, zv, (h.at_ (f t).a).sz⟩]⟩ ((h.at_ (f t).a).sz + 1))) := by
        rw [ex, ey]
        simp [Instr.mapEntry, run_underlying hu, run_getObj hg, hc, run_find hT, e2, hzr, run_setObj hg]
      exact ⟨_, _, ι, .inl (fin hrun), st, .tup (.cons (hzv ι) (.cons (.int .i64 _) .nil))⟩
    · rw [onFind_some] at hr
      obtain ⟨l', hv', hr⟩ := bnd_some hr
      obtain ⟨h2', hs, hr⟩ := bnd_some hr
      injection hr with hr
      injection hr with e1 e3'
      subst e1 e3'
      obtain ⟨rfl, hlen⟩ := vsetAt_some hv'
      have hj : j < (h.at_ (f t).a).l.length := by simp at hlen; omega
      simp only [Nat.zero_add, List.length_singleton] at hs
      have st := mp_set hw (hD _) hb' ht hs (he.put (e := ⟨a.eval x, me.val, me.born⟩) v2 e5 hj) hg
      have hrun : (Instr.mapEntry ty (a.eval m) (a.eval x)).run P w = .ok (.tuple #[me.val, goInt me.born]) (w.putObj b' (.map ⟨es.take j ++ [⟨a.eval x, me.val, me.born⟩] ++ es.drop (j + 1)⟩ (h.at_ (f t).a).sz)) := by
        have hm := modify_put (fun e : MapEntry => { e with key := Value.agg ⟨xs⟩ }) e3
        rw [ex, ey]
        simp only [Instr.mapEntry, Sem.run_bind, run_underlying hu, Result.andThen_ok, run_getObj hg, hc, run_find hT, e7, Nat.zero_add]
        have hk : ((((⟨es⟩ : Array MapEntry)[j]?).map (·.key)).getD (Value.agg ⟨xs⟩)) = Value.agg ⟨xs⟩ := by
          simp [e3, e6]
        have hbn : ((((⟨es⟩ : Array MapEntry)[j]?).map (fun e => ((e.born : Nat) : Int))).getD 0) = (me.born : Int) := by
          simp [e3]
        rw [hk]
        simp only [hbn, Sem.run_bind, hst, Result.andThen_ok, run_setObj hg, Sem.run_pure]
        congr 3
        have : (⟨es⟩ : Array MapEntry).modify j (fun e => { e with key := Value.agg ⟨xs⟩ }) = ⟨es.modify j (fun e => { e with key := Value.agg ⟨xs⟩ })⟩ := by simp
        rw [this, hm]
      exact ⟨_, _, ι, .inl (fin hrun), st, .tup (.cons e5 (.cons (.int .i64 _) .nil))⟩
  · cases hr
theorem findB_cons {s : Nat} {e : V} {l : L} {i : Nat} : findB s (e :: l) i = ifB (Nat.beq e.a s) (some (i, e)) (findB s l (Nat.succ i)) := rfl
theorem findB_ok {s : Nat} {l : L} {es : List MapEntry} {i : Nat} {r : Nat × V} (hr : findB s l i = some r) (he : ER ι l es) :
    ∃ j x y me, r = (i + j, vEnt x y me.born) ∧ j < l.length ∧ es[j]? = some me ∧ VR ι x me.key ∧ VR ι y me.val ∧ es.findIdx? (fun e => ((e.born : Nat) : Int) == (s : Int)) = some j := by
  induction he generalizing i r with
  | nil => cases hr
  | @cons x y e l es h1 h2 ht ih =>
    rw [findB_cons] at hr
    rcases ifB_some hr with ⟨hb, hr⟩ | ⟨hb, hr⟩
    · injection hr with hr
      have hb : e.born = s := beq_eq hb
      exact ⟨0, x, y, e, hr.symm, by simp, rfl, h1, h2, by simp [List.findIdx?_cons, hb]⟩
    · have hb : e.born ≠ s := not_beq hb
      obtain ⟨j, x', y', me, e1, e2, e3, e4, e5, e6⟩ := ih hr
      refine ⟨j + 1, x', y', me, ?_, by simpa using e2, by simpa using e3, e4, e5, ?_⟩
      · rw [e1]; congr 1; simp only [Nat.succ_eq_add_one]; omega
      · have hq : ((((e.born : Nat) : Int) == (s : Int)) = false) := by simpa using fun q : (e.born : Int) = (s : Int) => hb (by exact_mod_cast q)
        simp [List.findIdx?_cons, hq, e6]
theorem ok_entSt {ty : TypeId} {m x y : Operand} {f g q : T → V} (ho : o.op = .entryStore ty m x y) (h1 : cO nt m = some f) (h2 : cO nt x = some g) (h3 : cO nt y = some q)
    (hO : Opd ι nt t a o.op.operands) (hw : Wld ι D h w) (hD : ∀ k, D k) (hr : opEntSt f g q ih ro t h = some (v, h')) : Res1 P a o ι D h w v h' := by
  have v1 := hO m (by simp [ho, Op.operands]) f h1
  have v2 := hO x (by simp [ho, Op.operands]) g h2
  have v3 := hO y (by simp [ho, Op.operands]) q h3
  obtain ⟨t2, hr⟩ := onI_some hr
  obtain ⟨s, hs0, hr⟩ := onN_some hr
  obtain ⟨-, hr⟩ := grd_some hr
  obtain ⟨kd, -, ey, -⟩ := v2.int_inv t2
  rw [hs0] at ey
  have fin : ∀ {w' : World}, (Instr.entryStore ty (a.eval m) (a.eval x) (a.eval y)).run P w = .ok () w' → (execOp a.eval o).run P w = .ok .skip w' ∨ (execOp a.eval o).run P w = .ok (.value undef) w' := by
    intro w' hh
    simp [execOp, ho, hh, undef]
  rcases onMap_some hr with ⟨t1, hr⟩ | ⟨t1, hr⟩
  · obtain ⟨hb, ht, hr⟩ := rowM_some hr
    obtain ⟨b', hb', ex⟩ := v1.map_inv t1
    obtain ⟨es, he, hg⟩ := mp_get hw hb (hD _) hb' ht
    cases hfb : findB s (h.at_ (f t).a).l 0 with
    | none => rw [hfb, onFind_none] at hr; cases hr
    | some r =>
      obtain ⟨j, x', y', me, rfl, hj, e3, e4, e5, e6⟩ := findB_ok hfb he
      rw [hfb, onFind_some] at hr
      obtain ⟨l', hv', hr⟩ := bnd_some hr
      obtain ⟨h2', hs, hr⟩ := bnd_some hr
      injection hr with hr
      injection hr with e1 e3'
      subst e1 e3'
      obtain ⟨rfl, hlen⟩ := vsetAt_some hv'
      simp only [Nat.zero_add, List.length_singleton] at hs
      have st := mp_set hw (hD _) hb' ht hs (he.put (e := ⟨me.key, a.eval y, me.born⟩) e4 v3 hj) hg
      have hrun : (Instr.entryStore ty (a.eval m) (a.eval x) (a.eval y)).run P w = .ok () (w.putObj b' (.map ⟨es.take j ++ [⟨me.key, a.eval y, me.born⟩] ++ es.drop (j + 1)⟩ (h.at_ (f t).a).sz)) := by
        have hm := modify_put (fun e : MapEntry => { e with val := a.eval y }) e3
        have hfi : (⟨es⟩ : Array MapEntry).findIdx? (fun e => ((e.born : Nat) : Int) == (s : Int)) = some j := by rw [← e6]; simp
        rw [ex, ey]
        simp only [Instr.entryStore, Sem.run_bind, run_getObj hg, Result.andThen_ok, asInt, asIntOf, Sem.run_pure, hfi, run_setObj hg]
        congr 3
        have : (⟨es⟩ : Array MapEntry).modify j (fun e => { e with val := a.eval y }) = ⟨es.modify j (fun e => { e with val := a.eval y })⟩ := by simp
        rw [this, hm]
      exact ⟨undef, _, ι, (fin hrun).symm.imp id (fun q => ⟨q, rfl⟩), st, .und⟩
  · cases hr
theorem ok_del {ty k e : TypeId} {tys : List TypeId} {ks : List Nat} {x y : Operand} {f g : T → V} {ats : Array TypeId} (ho : o.op = .call { callee := .builtin .delete, args := #[x, y], argTypes := ats }) (ha : ats.toList = ty :: tys) (hu : P.underlying ty = some (.map k e)) (hT : KeyT P k ks) (h1 : cO nt x = some f) (h2 : cO nt y = some g)
    (hO : Opd ι nt t a o.op.operands) (hw : Wld ι D h w) (hD : ∀ k, D k) (hr : opDel ks f g ih ro t h = some (v, h')) : Res1 P a o ι D h w v h' := by
  have v1 := hO x (by simp [ho, Op.operands, Call.operands]) f h1
  have v2 := hO y (by simp [ho, Op.operands, Call.operands]) g h2
  have ha0 : ats[0]? = some ty := by rw [← Array.getElem?_toList, ha]; rfl
  obtain ⟨t2, ⟨q, hq⟩, hr⟩ := onKey_some hr
  obtain ⟨xs, hx, ey⟩ := v2.agg_inv t2
  obtain ⟨hc, -⟩ := key_ok hT hq hx w
  have fin : ∀ {w' : World}, (Builtin.delete_ ats o.type #[a.eval x, a.eval y]).run P w = .ok undef w' → (execOp a.eval o).run P w = .ok (.value undef) w' := by
    intro w' hh
    simp [execOp, ho, resolve, invoke, builtin, hh]
  rcases onMap_some hr with ⟨t1, hr⟩ | ⟨t1, hr⟩
  · obtain ⟨hb, ht, hr⟩ := rowM_some hr
    obtain ⟨b', hb', ex⟩ := v1.map_inv t1
    obtain ⟨es, he, hg⟩ := mp_get hw hb (hD _) hb' ht
    obtain ⟨r, hr1, hr⟩ := bnd_some hr
    rcases findE_ok hT hx w hr1 he with ⟨rfl, e2⟩ | ⟨j, x', y', me, rfl, e2, e3, e4, e5, e6, e7⟩
    · rw [onFind_none] at hr
      injection hr with hr
      injection hr with e1 e3
      subst e1 e3
      have hput : w.putObj b' (.map ⟨es⟩ (h.at_ (f t).a).sz) = w := by
        have hq := Array.getElem?_eq_some_iff.1 hg
        obtain ⟨hq1, hq2⟩ := hq
        have : w.heap.setIfInBounds b' (.map ⟨es⟩ (h.at_ (f t).a).sz) = w.heap := by
          rw [← hq2]; simp [Array.setIfInBounds, hq1]
        unfold World.putObj; rw [this]
      refine Res1.pure hw (fin ?_) .und
      rw [ex, ey]
      simp [Builtin.delete_, ha0, run_underlying hu, run_getObj hg, hc, run_find hT, e2, run_setObj hg, hput, undef]
    · rw [onFind_some] at hr
      obtain ⟨l', hv', hr⟩ := bnd_some hr
      obtain ⟨h2', hs, hr⟩ := bnd_some hr
      injection hr with hr
      injection hr with e1 e3'
      subst e1 e3'
      obtain ⟨rfl, hlen⟩ := verase_some hv'
      simp only [Nat.zero_add] at hs
      have st := mp_set hw (hD _) hb' ht hs (he.erase (j := j)) hg
      refine ⟨undef, _, ι, .inl (fin ?_), st, .und⟩
      rw [ex, ey]
      simp [Builtin.delete_, ha0, run_underlying hu, run_getObj hg, hc, run_find hT, e7, run_setObj hg, undef]
  · injection hr with hr
    injection hr with e1 e3
    subst e1 e3
    have ex := v1.nilm_inv t1
    refine Res1.pure hw (fin ?_) .und
    rw [ex, ey]
    simp [Builtin.delete_, ha0, run_underlying hu, hc, undef]
end Ev
end Go.Proofs.YtlbjnkopbabcnaaGreatDoor
end


section
namespace Go.Proofs.YtlbjnkopbabcnaaGreatDoor
namespace Ev
set_option linter.unusedVariables false
set_option linter.unusedSimpArgs false
variable {ι ι' : Im} {D : Nat → Prop} {h h' : Hp} {w w' : World} {P : Program} {t : T} {nt : Nat} {a : Act} {ih : Ih} {ro : Option Nat} {v : V} {o : Oper}
/-- what an operation wants to know of memory -/
def Need (nt : Nat) (t : T) (D : Nat → Prop) (o : Oper) : Prop :=
  (kindO o = 3 → ∀ k, D k) ∧ (∀ ty x, o.op = .load ty x → ∀ f, cO nt x = some f → D (f t).a) ∧ (∀ ty x y, o.op = .store ty x y → ∀ f, cO nt x = some f → D (f t).a)
def isVal (o : Op) : Bool := match o with
  | .call c => match c.callee with
    | .value _ => true
    | _ => false
  | _ => false
theorem cOs_one {x : Operand} {l : List (T → V)} {f : T → V} (hc : cOs nt [x] = some l) (e : l = [f]) : cO nt x = some f := by
  obtain ⟨g, h1, hc⟩ := bnd_some hc
  obtain ⟨r, h2, hc⟩ := bnd_some hc
  injection hc with hc
  subst hc
  injection e with e1 e2
  subst e1
  exact h1
theorem cOs_cons {xs : List Operand} {f : T → V} {fs : List (T → V)} (hc : cOs nt xs = some (f :: fs)) : ∃ x ys, xs = x :: ys ∧ cO nt x = some f ∧ cOs nt ys = some fs := by
  cases xs with
  | nil => cases hc
  | cons x ys =>
    obtain ⟨g, h1, hc⟩ := bnd_some hc
    obtain ⟨r, h2, hc⟩ := bnd_some hc
    injection hc with hc
    injection hc with e1 e2
    subst e1 e2
    exact ⟨x, ys, rfl, h1, h2⟩
theorem cOs_nil {xs : List Operand} (hc : cOs nt xs = some []) : xs = [] := by
  cases xs with
  | nil => rfl
  | cons x ys =>
    obtain ⟨g, h1, hc⟩ := bnd_some hc
    obtain ⟨r, h2, hc⟩ := bnd_some hc
    injection hc with hc
    cases hc
theorem bi_ok {b : Builtin} {args : Array Operand} {ats : Array TypeId} {l : List (T → V)} {f : Fo} (ho : o.op = .call { callee := .builtin b, args, argTypes := ats }) (h1 : cOs nt args.toList = some l) (h2 : cBi P b l ats.toList = some f)
    (hO : Opd ι nt t a o.op.operands) (hw : Wld ι D h w) (hN : Need nt t D o) (hr : f ih ro t h = some (v, h')) (hf : Fresh ι h h') : Res1 P a o ι D h w v h' := by
  have hargs : ∀ {xs : List Operand}, args.toList = xs → args = ⟨xs⟩ := fun e => Array.toList_inj.1 e
  unfold cBi at h2
  split at h2
  · rename_i g ty tys hats
    obtain ⟨x, ys, e, hx, hy⟩ := cOs_cons h1
    have := cOs_nil hy
    subst this
    have := hargs e
    subst this
    split at h2
    · rename_i hu; injection h2 with h2; subst h2; exact ok_len ho hats hu hx hO hw hr
    · rename_i hu; injection h2 with h2; subst h2; exact ok_lenC ho hats hu hw hr
    · rename_i hu
      split at h2
      · rename_i hq; injection h2 with h2; subst h2; exact ok_lenP ho hats hu hq hw hr
      · cases h2
    · cases h2
  · rename_i g ty tys hats
    obtain ⟨x, ys, e, hx, hy⟩ := cOs_cons h1
    have := cOs_nil hy
    subst this
    have := hargs e
    subst this
    split at h2
    · rename_i hu; injection h2 with h2; subst h2; exact ok_cap ho hats hu hx hO hw hr
    · cases h2
  · rename_i g1 g2 ty ty2 tys hats
    obtain ⟨x, ys, e, hx, hy⟩ := cOs_cons h1
    obtain ⟨y, zs, e', hy2, hz⟩ := cOs_cons hy
    have := cOs_nil hz
    subst this e'
    have := hargs e
    subst this
    split at h2
    · rename_i hu
      split at h2
      · rename_i hu2
        obtain ⟨i, q1, h2⟩ := bnd_some h2
        obtain ⟨z, q2, h2⟩ := bnd_some h2
        injection h2 with h2
        subst h2
        exact ok_app ho hats hu hu2 q1 q2 hx hy2 hO hw (hN.1 (by simp [kindO, ho])) hr hf
      · cases h2
    · cases h2
  · rename_i g1 g2 ty tys hats
    obtain ⟨x, ys, e, hx, hy⟩ := cOs_cons h1
    obtain ⟨y, zs, e', hy2, hz⟩ := cOs_cons hy
    have := cOs_nil hz
    subst this e'
    have := hargs e
    subst this
    split at h2
    · rename_i hu
      obtain ⟨i, q1, h2⟩ := bnd_some h2
      injection h2 with h2
      subst h2
      exact ok_copy ho hats hu q1 hx hy2 hO hw (hN.1 (by simp [kindO, ho])) hr
    · cases h2
  · rename_i g ty tys hats
    obtain ⟨x, ys, e, hx, hy⟩ := cOs_cons h1
    have := cOs_nil hy
    subst this
    have := hargs e
    subst this
    split at h2
    · rename_i hu
      obtain ⟨z, q1, h2⟩ := bnd_some h2
      injection h2 with h2
      subst h2
      exact ok_clear ho hats hu q1 hx hO hw (hN.1 (by simp [kindO, ho])) hr
    · cases h2
  · rename_i g1 g2 ty tys hats
    obtain ⟨x, ys, e, hx, hy⟩ := cOs_cons h1
    obtain ⟨y, zs, e', hy2, hz⟩ := cOs_cons hy
    have := cOs_nil hz
    subst this e'
    have := hargs e
    subst this
    obtain ⟨k, el, ks, hu, hT, h2⟩ := cMap_some h2
    injection h2 with h2
    subst h2
    exact ok_del ho hats hu hT hx hy2 hO hw (hN.1 (by simp [kindO, ho])) hr
  · obtain ⟨x, ys, e, hx, hy⟩ := cOs_cons h1
    have := hargs e
    subst this
    injection h2 with h2
    subst h2
    exact ok_min (mx := false) ho hx hy hO hw hr
  · obtain ⟨x, ys, e, hx, hy⟩ := cOs_cons h1
    have := hargs e
    subst this
    injection h2 with h2
    subst h2
    exact ok_min (mx := true) ho hx hy hO hw hr
  · cases h2
theorem eq_ok {neg : Bool} {ty ty2 : TypeId} {x y : Operand} {f g : T → V} {F : Fo} (ho : o.op = .binOp (if neg = true then .neq else .eql) ty x y ty2) (h1 : cO nt x = some f) (h2 : cO nt y = some g) (hc : cEq P neg ty f g = some F)
    (hO : Opd ι nt t a o.op.operands) (hw : Wld ι D h w) (hr : F ih ro t h = some (v, h')) : Res1 P a o ι D h w v h' := by
  unfold cEq at hc
  split at hc
  · injection hc with hc
    subst hc
    cases neg
    · exact ok_cmp (F := fun a b => ifB false (!eqI a b) (eqI a b)) ho (.inr (.inr (.inr (.inr (.inl ⟨rfl, rfl⟩))))) h1 h2 hO hw hr
    · exact ok_cmp (F := fun a b => ifB true (!eqI a b) (eqI a b)) ho (.inr (.inr (.inr (.inr (.inr ⟨rfl, rfl⟩))))) h1 h2 hO hw hr
  · rename_i hu; injection hc with hc; subst hc; exact ok_eqB ho hu h1 h2 hO hw hr
  · rename_i hu; injection hc with hc; subst hc; exact ok_eqN ho (.inl ⟨rfl, rfl, rfl, _, hu⟩) h1 h2 hO hw hr
  · rename_i hu; injection hc with hc; subst hc; exact ok_eqN ho (.inr (.inl ⟨rfl, rfl, rfl, _, hu⟩)) h1 h2 hO hw hr
  · rename_i hu; injection hc with hc; subst hc; exact ok_eqN ho (.inr (.inr ⟨rfl, rfl, rfl, _, _, _, hu⟩)) h1 h2 hO hw hr
  · rename_i hu
    obtain ⟨k1, hc⟩ := grd_some hc
    obtain ⟨k1, k2⟩ := ifB_and k1
    obtain ⟨ks, k3, hc⟩ := bnd_some hc
    injection hc with hc
    subst hc
    exact ok_eqA ho (.inl ⟨_, hu⟩) k1 (by simpa using k2) k3 h1 h2 hO hw hr
  · rename_i hu
    obtain ⟨k1, hc⟩ := grd_some hc
    obtain ⟨k1, k2⟩ := ifB_and k1
    obtain ⟨ks, k3, hc⟩ := bnd_some hc
    injection hc with hc
    subst hc
    exact ok_eqA ho (.inr ⟨_, _, hu⟩) k1 (by simpa using k2) k3 h1 h2 hO hw hr
  · cases hc
theorem bin_ok {op : BinOp} {ty ty2 : TypeId} {x y : Operand} {f g : T → V} {F : Fo} (ho : o.op = .binOp op ty x y ty2) (h1 : cO nt x = some f) (h2 : cO nt y = some g) (hc : cBin op f g = some F)
    (hO : Opd ι nt t a o.op.operands) (hw : Wld ι D h w) (hr : F ih ro t h = some (v, h')) : Res1 P a o ι D h w v h' := by
  have e1 : (fun a b => addI a b) = fun a b : Int => a + b := by funext a b; exact addI_eq a b
  have e2 : (fun a b => subI a b) = fun a b : Int => a - b := by funext a b; exact subI_eq a b
  have e3 : (fun a b => mulI a b) = fun a b : Int => a * b := by funext a b; exact mulI_eq a b
  have e4 : (fun a b => quoI a b) = fun a b : Int => a.tdiv b := by funext a b; exact quoI_eq a b
  have e5 : (fun a b => remI a b) = fun a b : Int => a.tmod b := by funext a b; exact remI_eq a b
  unfold cBin at hc
  split at hc <;> first | (cases hc; done) | (injection hc with hc; subst hc)
  · exact ok_arith (F := fun a b => addI a b) ho (.inl ⟨rfl, e1⟩) h1 h2 hO hw hr
  · exact ok_arith (F := fun a b => subI a b) ho (.inr (.inl ⟨rfl, e2⟩)) h1 h2 hO hw hr
  · exact ok_arith (F := fun a b => mulI a b) ho (.inr (.inr ⟨rfl, e3⟩)) h1 h2 hO hw hr
  · exact ok_div (F := fun a b => quoI a b) ho (.inl ⟨rfl, e4⟩) h1 h2 hO hw hr
  · exact ok_div (F := fun a b => remI a b) ho (.inr ⟨rfl, e5⟩) h1 h2 hO hw hr
  · exact ok_shift (F := fun k x n => .ofNat (Nat.div x (Nat.pow 2 (shf k n)))) ho (.inl ⟨rfl, rfl⟩) h1 h2 hO hw hr
  · exact ok_shl ho h1 h2 hO hw hr
  · exact ok_bits ho (.inl ⟨rfl, rfl⟩) h1 h2 hO hw hr
  · exact ok_bits ho (.inr (.inl ⟨rfl, rfl⟩)) h1 h2 hO hw hr
  · exact ok_bits ho (.inr (.inr ⟨rfl, rfl⟩)) h1 h2 hO hw hr
  · exact ok_cmp (F := fun a b => ltI a b) ho (.inl ⟨rfl, rfl⟩) h1 h2 hO hw hr
  · exact ok_cmp (F := fun a b => ltI b a) ho (.inr (.inl ⟨rfl, rfl⟩)) h1 h2 hO hw hr
  · exact ok_cmp (F := fun a b => !ltI b a) ho (.inr (.inr (.inl ⟨rfl, rfl⟩))) h1 h2 hO hw hr
  · exact ok_cmp (F := fun a b => !ltI a b) ho (.inr (.inr (.inr (.inl ⟨rfl, rfl⟩)))) h1 h2 hO hw hr
theorem mx_ok {hi mx : Option Operand} {a b : Option (T → V)} (h1 : cOo nt hi = some a) (h2 : cOo nt mx = some b) (h : (b.isNone || a.isSome) = true) : mx = none ∨ hi ≠ none := by
  cases mx with
  | none => exact .inl rfl
  | some y =>
    right
    rintro rfl
    injection h1 with h1
    subst h1
    obtain ⟨g, -, h2⟩ := bnd_some h2
    injection h2 with h2
    subst h2
    cases h
/-- every operation but a call does what is reckoned -/
theorem op_ok {f : Fo} (hc : cOp P nt o.op = some f) (hv : isVal o.op = false) (hO : Opd ι nt t a o.op.operands) (hw : Wld ι D h w) (hN : Need nt t D o) (hr : f ih ro t h = some (v, h')) (hf : Fresh ι h h') : Res1 P a o ι D h w v h' := by
  generalize hop : o.op = op at hc hv
  unfold cOp at hc
  split at hc
  · obtain ⟨f1, h1, hc⟩ := bnd_some hc; injection hc with hc; subst hc; exact ok_move (.inl hop) h1 hO hw hr
  · obtain ⟨f1, h1, hc⟩ := bnd_some hc; injection hc with hc; subst hc; exact ok_move (.inr hop) h1 hO hw hr
  · obtain ⟨f1, h1, hc⟩ := bnd_some hc; obtain ⟨f2, h2, hc⟩ := bnd_some hc; obtain ⟨f3, h3, hc⟩ := bnd_some hc; injection hc with hc; subst hc; exact ok_pick hop h1 h2 h3 hO hw hr
  · obtain ⟨z, h1, hc⟩ := bnd_some hc; injection hc with hc; subst hc; exact ok_alloc hop h1 hw hr hf
  · obtain ⟨f1, h1, hc⟩ := bnd_some hc; injection hc with hc; subst hc; exact ok_box hop h1 hO hw hr hf
  · obtain ⟨z, h1, hc⟩ := bnd_some hc
    split at hc
    · rename_i hu
      obtain ⟨pl, h2, hc⟩ := bnd_some hc
      obtain ⟨ps, h3, hc⟩ := bnd_some hc
      injection hc with hc
      subst hc
      exact ok_build hop h1 (.inl ⟨_, pl, hu, h2, rfl⟩) h3 hO hw hr
    · rename_i hu
      obtain ⟨i, h2, hc⟩ := bnd_some hc
      obtain ⟨ps, h3, hc⟩ := bnd_some hc
      injection hc with hc
      subst hc
      exact ok_build hop h1 (.inr ⟨_, _, i, hu, h2, rfl⟩) h3 hO hw hr
    · cases hc
  · split at hc
    · rename_i hu
      obtain ⟨z, h1, hc⟩ := bnd_some hc
      obtain ⟨ps, h2, hc⟩ := bnd_some hc
      obtain ⟨h3, hc⟩ := grd_some hc
      injection hc with hc
      subst hc
      exact ok_buildS hop hu h1 h2 (ble_le h3) hO hw hr hf
    · cases hc
  · obtain ⟨b, h1, hc⟩ := bnd_some hc
    obtain ⟨f1, h2, hc⟩ := bnd_some hc
    rcases ifB_some hc with ⟨rfl, hc⟩ | ⟨rfl, hc⟩
    · injection hc with hc; subst hc; exact ok_loadA hop h1 h2 hO hw (hN.2.1 _ _ hop _ h2) hr
    · injection hc with hc; subst hc; exact ok_load hop h1 h2 hO hw (hN.2.1 _ _ hop _ h2) hr
  · obtain ⟨i, h0, hc⟩ := bnd_some hc
    obtain ⟨f1, h1, hc⟩ := bnd_some hc
    obtain ⟨f2, h2, hc⟩ := bnd_some hc
    injection hc with hc
    subst hc
    exact ok_store hop h0 h1 h2 hO hw (hN.2.2 _ _ _ hop _ h1) hr
  · obtain ⟨f1, h1, hc⟩ := bnd_some hc; injection hc with hc; subst hc; exact ok_nil hop h1 hO hw hr
  · obtain ⟨f1, h1, hc⟩ := bnd_some hc; obtain ⟨f2, h2, hc⟩ := bnd_some hc; exact eq_ok (neg := false) hop h1 h2 hc hO hw hr
  · obtain ⟨f1, h1, hc⟩ := bnd_some hc; obtain ⟨f2, h2, hc⟩ := bnd_some hc; exact eq_ok (neg := true) hop h1 h2 hc hO hw hr
  · obtain ⟨f1, h1, hc⟩ := bnd_some hc; obtain ⟨f2, h2, hc⟩ := bnd_some hc; exact bin_ok hop h1 h2 hc hO hw hr
  · obtain ⟨f1, h1, hc⟩ := bnd_some hc; injection hc with hc; subst hc; exact ok_not hop h1 hO hw hr
  · obtain ⟨f1, h1, hc⟩ := bnd_some hc; injection hc with hc; subst hc; exact ok_neg hop h1 hO hw hr
  · obtain ⟨q, hs, hc⟩ := bnd_some hc
    split at hc
    · rename_i hd
      obtain ⟨f1, h1, hc⟩ := bnd_some hc
      injection hc with hc
      subst hc
      exact ok_conv hop ⟨q, hs⟩ hd h1 hO hw hr
    · cases hc
  · obtain ⟨l1, h1, hc⟩ := bnd_some hc; obtain ⟨l2, h2, hc⟩ := bnd_some hc; injection hc with hc; subst hc; exact ok_fn hop h1 h2 hO hw hr
  · split at hc
    · rename_i hu
      obtain ⟨z, h1, hc⟩ := bnd_some hc
      obtain ⟨i, h2, hc⟩ := bnd_some hc
      obtain ⟨f1, h3, hc⟩ := bnd_some hc
      obtain ⟨f2, h4, hc⟩ := bnd_some hc
      injection hc with hc
      subst hc
      exact ok_makeS hop hu h1 h2 h3 h4 hO hw hr hf
    · cases hc
  · obtain ⟨f1, h1, hc⟩ := bnd_some hc
    obtain ⟨lo, h2, hc⟩ := bnd_some hc
    obtain ⟨hi, h3, hc⟩ := bnd_some hc
    obtain ⟨mx, h4, hc⟩ := bnd_some hc
    obtain ⟨h5, hc⟩ := grd_some hc
    have h6 := mx_ok h3 h4 h5
    split at hc
    · rename_i hu; obtain ⟨i, h0, hc⟩ := bnd_some hc; injection hc with hc; subst hc; exact ok_slice hop hu ⟨i, h0⟩ h6 h1 h2 h3 h4 hO hw hr
    · rename_i hu; obtain ⟨i, h0, hc⟩ := bnd_some hc; injection hc with hc; subst hc; exact ok_sliceA hop hu ⟨i, h0⟩ h6 h1 h2 h3 h4 hO hw hr
    · cases hc
  · split at hc
    · rename_i hu
      obtain ⟨f1, h1, hc⟩ := bnd_some hc
      obtain ⟨fd, h2, hc⟩ := bnd_some hc
      obtain ⟨h3, hc⟩ := grd_some hc
      injection hc with hc
      subst hc
      exact ok_fieldA hop hu h2 (by simpa using h3) h1 hO hw hr
    · cases hc
  · split at hc
    · rename_i hu
      obtain ⟨f1, h1, hc⟩ := bnd_some hc
      obtain ⟨fd, h2, hc⟩ := bnd_some hc
      obtain ⟨b, h3, hc⟩ := bnd_some hc
      rcases ifB_some hc with ⟨rfl, hc⟩ | ⟨rfl, hc⟩
      · injection hc with hc; subst hc; exact ok_fieldG hop hu h2 h3 h1 hO hw hr
      · injection hc with hc; subst hc; exact ok_field hop hu h2 h3 h1 hO hw hr
    · cases hc
  · obtain ⟨f1, h1, hc⟩ := bnd_some hc
    obtain ⟨f2, h2, hc⟩ := bnd_some hc
    split at hc
    · rename_i hu; obtain ⟨i, h0, hc⟩ := bnd_some hc; injection hc with hc; subst hc; exact ok_idxS hop hu ⟨i, h0⟩ h1 h2 hO hw hr
    · rename_i hu; obtain ⟨i, h0, hc⟩ := bnd_some hc; injection hc with hc; subst hc; exact ok_idxA hop hu ⟨i, h0⟩ h1 h2 hO hw hr
    · cases hc
  · obtain ⟨f1, h1, hc⟩ := bnd_some hc
    obtain ⟨f2, h2, hc⟩ := bnd_some hc
    split at hc
    · rename_i hu
      obtain ⟨b, h3, hc⟩ := bnd_some hc
      obtain ⟨i, hi⟩ := aggT_info h3
      rcases ifB_some hc with ⟨rfl, hc⟩ | ⟨rfl, hc⟩
      · injection hc with hc; subst hc; exact ok_indexG hop hu h3 h1 h2 hO hw hr
      · obtain ⟨h4, hc⟩ := grd_some hc
        injection hc with hc; subst hc; exact ok_index hop hu ⟨i, hi⟩ h3 (beq_eq h4) h1 h2 hO hw hr
    · cases hc
  · obtain ⟨f1, h1, hc⟩ := bnd_some hc; injection hc with hc; subst hc; exact ok_ext hop h1 hO hw hr
  · injection hc with hc; subst hc; exact ok_map hop hw hr hf
  · obtain ⟨k, el, ks, hu, hT, hc⟩ := cMap_some hc
    obtain ⟨z, hz, hc⟩ := bnd_some hc
    obtain ⟨f1, h1, hc⟩ := bnd_some hc
    obtain ⟨f2, h2, hc⟩ := bnd_some hc
    injection hc with hc; subst hc; exact ok_look hop hu hT hz h1 h2 hO hw (hN.1 (by unfold kindO; rw [hop])) hr
  · obtain ⟨k, el, ks, hu, hT, hc⟩ := cMap_some hc
    obtain ⟨f1, h1, hc⟩ := bnd_some hc
    obtain ⟨f2, h2, hc⟩ := bnd_some hc
    obtain ⟨f3, h3, hc⟩ := bnd_some hc
    injection hc with hc; subst hc; exact ok_mapUp (.inl hop) hu hT h1 h2 h3 hO hw (hN.1 (by unfold kindO; rw [hop])) hr
  · obtain ⟨k, el, ks, hu, hT, hc⟩ := cMap_some hc
    obtain ⟨f1, h1, hc⟩ := bnd_some hc
    obtain ⟨f2, h2, hc⟩ := bnd_some hc
    obtain ⟨f3, h3, hc⟩ := bnd_some hc
    injection hc with hc; subst hc; exact ok_mapUp (.inr hop) hu hT h1 h2 h3 hO hw (hN.1 (by unfold kindO; rw [hop])) hr
  · obtain ⟨k, el, ks, hu, hT, hc⟩ := cMap_some hc
    obtain ⟨z, hz, hc⟩ := bnd_some hc
    obtain ⟨f1, h1, hc⟩ := bnd_some hc
    obtain ⟨f2, h2, hc⟩ := bnd_some hc
    injection hc with hc; subst hc; exact ok_mapEnt hop hu hT hz h1 h2 hO hw (hN.1 (by unfold kindO; rw [hop])) hr
  · obtain ⟨f1, h1, hc⟩ := bnd_some hc
    obtain ⟨f2, h2, hc⟩ := bnd_some hc
    obtain ⟨f3, h3, hc⟩ := bnd_some hc
    injection hc with hc; subst hc; exact ok_entSt hop h1 h2 h3 hO hw (hN.1 (by unfold kindO; rw [hop])) hr
  · rename_i c
    obtain ⟨callee, args, ats⟩ := c
    unfold cCall at hc
    cases callee with
    | value f => cases hv
    | invoke r n => cases hc
    | builtin b =>
      obtain ⟨l, h1, hc⟩ := bnd_some hc
      exact bi_ok hop h1 hc hO hw hN hr hf
  · cases hc
end Ev
end Go.Proofs.YtlbjnkopbabcnaaGreatDoor
end


section
namespace Go.Proofs.YtlbjnkopbabcnaaGreatDoor
namespace Ev
set_option linter.unusedVariables false
set_option linter.unusedSimpArgs false
variable {ι ι' : Im} {D : Nat → Prop} {h h' : Hp} {w w' : World} {P : Program} {t : T} {nt : Nat} {a : Act} {ih : Ih} {ro : Option Nat} {v : V} {x : X} {s s' : St} {m : Nat}
/-- every machine, in the round of a loop -/
def FW (r : Option Nat) : Fence := { Fence.wide with round := r }
theorem FW_fn (r : Option Nat) (f : FuncId) : (FW r).fn f := trivial
theorem FW_n (r : Option Nat) (m : Nat) : (FW r).depth.isSome = true → 1 ≤ m := fun h => by simp [FW, Fence.wide] at h
theorem FW_room (r : Option Nat) (m : Nat) : (FW r).room m := fun _ h => by simp [FW, Fence.wide] at h
def xE : X → Exit
  | .normal => .normal
  | .exit id => .exit id
  | .goto l => .goto l
  | .ret => .ret
/-- numbers that are not given yet -/
def Top (ι : Im) (h : Hp) : Prop := ∀ k, h.nx ≤ k → ι k = none
theorem Top.fresh (ht : Top ι h) : Fresh ι h h' := fun k hk _ => ht k hk
theorem Top.step (ht : Top ι h) (st : Stp ι D h w ι' h' w') : Top ι' h' := fun k hk => by rw [st.out k (.inr hk)]; exact ht k (Nat.le_trans st.nx hk)
theorem Stp.extT (st : Stp ι D h w ι' h' w') (ht : Top ι h) (hw : Wld ι D h w) : Ext ι ι' := st.ext ht.fresh hw
inductive DfR (ι : Im) (D : Nat → Prop) : List Nat → List Deferred → Prop
  | nil : DfR ι D [] []
  | cons {k b : Nat} {df : List Nat} {ds : List Deferred} (h1 : ι k = some b) (h2 : D k) (t : DfR ι D df ds) : DfR ι D (k :: df) ({ target := .collected b, args := #[] } :: ds)
theorem DfR.mono {D' : Nat → Prop} {df : List Nat} {ds : List Deferred} (hd : DfR ι D df ds) (he : Ext ι ι') (hD : ∀ k, D k → D' k) : DfR ι' D' df ds := by
  induction hd with
  | nil => exact .nil
  | cons h1 h2 _ ih => exact .cons (he _ _ h1).1 (hD _ h2) ih
def RoR (ι : Im) (D : Nat → Prop) (ro r : Option Nat) : Prop := match ro with
  | none => r = none
  | some l => D l ∧ ∃ b, ι l = some b ∧ r = some b
theorem RoR.mono {D' : Nat → Prop} {r : Option Nat} (hd : RoR ι D ro r) (he : Ext ι ι') (hD : ∀ k, D k → D' k) : RoR ι' D' ro r := by
  cases ro with
  | none => exact hd
  | some l => obtain ⟨h1, b, h2, h3⟩ := hd; exact ⟨hD l h1, b, (he l b h2).1, h3⟩
/-- how a world is met -/
structure Pre (ι : Im) (D : Nat → Prop) (s : St) (r : Option Nat) (a : Act) (w : World) : Prop where
  all : ∀ k, D k
  wl : Wld ι D s.h w
  tp : Top ι s.h
  tm : TmR ι s.t s.nt a.tmps
  df : DfR ι D s.df a.defers
  ro : RoR ι D s.ro r
/-- where code ends -/
structure Fin (ι : Im) (D : Nat → Prop) (s : St) (w : World) (s' : St) (ι' : Im) (a' : Act) (w' : World) : Prop where
  st : Stp ι D s.h w ι' s'.h w'
  tm : TmR ι' s'.t s'.nt a'.tmps
  df : DfR ι' (fun k => D k ∨ s.h.nx ≤ k) s'.df a'.defers
  nt : s'.nt = s.nt
  ro : s'.ro = s.ro
def Post (ι : Im) (D : Nat → Prop) (s : St) (w : World) (x : X) (s' : St) (e : Exit) (a' : Act) (w' : World) : Prop := e = xE x ∧ ∃ ι', Fin ι D s w s' ι' a' w'
/-- a loop whose round begins -/
def LoopIn (F : Fence) (m : Nat) (P : Program) (c : Code) (Q : Exit → Act → World → Prop) (a : Act) (w : World) : Prop :=
  ∀ (b : Frame) (k : List Item) (cs : List Frame), b.roundOf = F.round → F.fn b.fn → F.room (cs.length + 1 + m) →
    ∃ e a' w', Q e a' w' ∧ ArrivesIn (Machine.fenced P F) P (lone (b.atR a (.code c :: .inLoop c :: k)) cs w) b k cs e a' w'
theorem LoopIn.wp {F : Fence} {c : Code} {Q : Exit → Act → World → Prop} (hl : LoopIn F m P c Q a w) : (Code.loop c).wpIn F m P Q a w := by
  intro b k cs hro hb hr
  obtain ⟨e, a', w', hq, harr⟩ := hl b k cs hro hb hr
  exact ⟨e, a', w', hq, .of_steps (.one (fenced_calm hb hr rfl) stepR_loop) harr⟩
theorem LoopIn.mono {F : Fence} {c : Code} {Q Q' : Exit → Act → World → Prop} (hl : LoopIn F m P c Q a w) (hq : ∀ e a w, Q e a w → Q' e a w) : LoopIn F m P c Q' a w :=
  fun b k cs h1 h2 h3 => let ⟨e, a', w', q, r⟩ := hl b k cs h1 h2 h3; ⟨e, a', w', hq _ _ _ q, r⟩
/-- code that is reckoned so does so -/
def SoundC (P : Program) (ih : Ih) : Prop := ∀ c s x s', ih c s = some (x, s') → ∀ (ι : Im) (D : Nat → Prop) (r : Option Nat) (m : Nat) (a : Act) (w : World), Pre ι D s r a w →
  c.wpIn (FW r) m P (Post ι D s w x s') a w ∧ ∀ b, c = .loop b → LoopIn (FW r) m P b (Post ι D s w x s') a w
theorem Pre.next {r : Option Nat} {a' : Act} (hp : Pre ι D s r a w) (hf : Fin ι D s w s' ι' a' w') : Pre ι' (fun k => D k ∨ s.h.nx ≤ k) s' r a' w' := by
  have he := hf.st.extT hp.tp hp.wl
  refine ⟨fun k => .inl (hp.all k), hf.st.wl, hp.tp.step hf.st, hf.tm, hf.df, ?_⟩
  rw [hf.ro]
  exact hp.ro.mono he (fun k h => .inl h)
theorem Fin.trans {s1 s2 : St} {w1 w2 : World} {ι1 ι2 : Im} {a1 a2 : Act} (h1 : Fin ι D s w s1 ι1 a1 w1) (h2 : Fin ι1 (fun k => D k ∨ s.h.nx ≤ k) s1 w1 s2 ι2 a2 w2) : Fin ι D s w s2 ι2 a2 w2 := by
  refine ⟨h1.st.trans h2.st, h2.tm, ?_, h2.nt.trans h1.nt, h2.ro.trans h1.ro⟩
  have hn := h1.st.nx
  exact h2.df.mono (Ext.refl _) fun k e2 => e2.elim id fun e2 => .inr (Nat.le_trans hn e2)
theorem Pre.fin {r : Option Nat} (hp : Pre ι D s r a w) : Fin ι D s w s ι a w :=
  ⟨Stp.refl hp.wl, hp.tm, hp.df.mono (Ext.refl ι) (fun _ h => .inl h), rfl, rfl⟩
theorem onX_normal {α : Type} {kn : α} {ke kg : Nat → α} {kr : α} : onX .normal kn ke kg kr = kn := rfl
section rules
variable {r : Option Nat}
theorem sd_out {c : Code} (hc : ∀ Q a w, Q (xE x) a w → c.wpIn (FW r) m P Q a w) (hr : out x ih s = some (x, s')) (hp : Pre ι D s r a w) : c.wpIn (FW r) m P (Post ι D s w x s') a w := by
  have e : s = s' := by injection hr with hr; injection hr
  subst e
  exact hc _ _ _ ⟨rfl, ι, hp.fin⟩
theorem sd_seq {b c : Code} (hi : SoundC P ih) (hr : evSeq b c ih s = some (x, s')) (hp : Pre ι D s r a w) : (Code.seq b c).wpIn (FW r) m P (Post ι D s w x s') a w := by
  obtain ⟨⟨x1, s1⟩, h1, hr⟩ := bnd_some hr
  refine wpIn_seq (wpIn_mono (hi _ _ _ _ h1 ι D r m a w hp).1 ?_)
  rintro e a1 w1 ⟨rfl, ι1, f1⟩
  cases x1 with
  | normal => exact wpIn_mono (hi _ _ _ _ hr ι1 _ r m a1 w1 (hp.next f1)).1 fun e a2 w2 ⟨he, ι2, f2⟩ => ⟨he, ι2, f1.trans f2⟩
  | exit id => injection hr with hr; injection hr with e1 e2; subst e1 e2; exact ⟨rfl, ι1, f1⟩
  | goto id => injection hr with hr; injection hr with e1 e2; subst e1 e2; exact ⟨rfl, ι1, f1⟩
  | ret => injection hr with hr; injection hr with e1 e2; subst e1 e2; exact ⟨rfl, ι1, f1⟩
theorem sd_loop {b : Code} (hi : SoundC P ih) (hr : evLoop b ih s = some (x, s')) (hp : Pre ι D s r a w) : LoopIn (FW r) m P b (Post ι D s w x s') a w := by
  obtain ⟨⟨x1, s1⟩, h1, hr⟩ := bnd_some hr
  have hb := (hi _ _ _ _ h1 ι D r m a w hp).1
  intro b0 k cs hro hf hroom
  obtain ⟨e, a1, w1, ⟨rfl, ι1, f1⟩, harr⟩ := hb b0 (.inLoop b :: k) cs hro hf hroom
  cases x1 with
  | normal =>
    have hl := (hi _ _ _ _ hr ι1 _ r m a1 w1 (hp.next f1)).2 b rfl
    obtain ⟨e2, a2, w2, ⟨he, ι2, f2⟩, harr2⟩ := hl b0 k cs hro hf hroom
    exact ⟨e2, a2, w2, ⟨he, ι2, f1.trans f2⟩, .of_steps (StepsIn.trans harr (.one (fenced_calm hf hroom rfl) stepR_inLoop)) harr2⟩
  | exit id => injection hr with hr; injection hr with e1 e2; subst e1 e2; exact ⟨_, a1, w1, ⟨rfl, ι1, f1⟩, .pass (x := .inLoop b) rfl (fun _ _ => .inl (by simp [xE])) harr⟩
  | goto id => injection hr with hr; injection hr with e1 e2; subst e1 e2; exact ⟨_, a1, w1, ⟨rfl, ι1, f1⟩, .pass (x := .inLoop b) rfl (fun _ _ => .inl (by simp [xE])) harr⟩
  | ret => injection hr with hr; injection hr with e1 e2; subst e1 e2; exact ⟨_, a1, w1, ⟨rfl, ι1, f1⟩, .pass (x := .inLoop b) rfl (fun _ _ => .inl (by simp [xE])) harr⟩
theorem sd_cond {c : Operand} {b d : Code} {f : T → V} (hf : cO s.nt c = some f) (hi : SoundC P ih) (hr : evCond f b d ih s = some (x, s')) (hp : Pre ι D s r a w) : (Code.cond c b d).wpIn (FW r) m P (Post ι D s w x s') a w := by
  obtain ⟨ht, hr⟩ := onB_some hr
  obtain ⟨e, -⟩ := ((hp.tm.opd hp.wl.gl #[c]) c (by simp) f hf).bool_inv ht
  refine wpIn_cond e ?_
  have := (hi _ _ _ _ hr ι D r m a w hp).1
  cases hb : Nat.beq (f s.t).a 1 <;> rw [hb] at this <;> exact this
theorem sd_block {b : Code} {id : Nat} (hi : SoundC P ih) (hr : evBlock id b ih s = some (x, s')) (hp : Pre ι D s r a w) : (Code.block id b).wpIn (FW r) m P (Post ι D s w x s') a w := by
  obtain ⟨⟨x1, s1⟩, h1, hr⟩ := bnd_some hr
  refine wpIn_block (wpIn_mono (hi _ _ _ _ h1 ι D r m a w hp).1 ?_)
  rintro e a1 w1 ⟨rfl, ι1, f1⟩
  cases x1 with
  | normal => injection hr with hr; injection hr with e1 e2; subst e1 e2; exact ⟨rfl, ι1, f1⟩
  | exit i =>
    show if i = id then _ else _
    rcases ifB_some hr with ⟨hb, hr⟩ | ⟨hb, hr⟩
    · rw [if_pos (beq_eq hb)]
      injection hr with hr; injection hr with e1 e2; subst e1 e2; exact ⟨rfl, ι1, f1⟩
    · rw [if_neg (fun e => by subst e; rw [Nat.beq_refl] at hb; cases hb)]
      injection hr with hr; injection hr with e1 e2; subst e1 e2; exact ⟨rfl, ι1, f1⟩
  | goto i => injection hr with hr; injection hr with e1 e2; subst e1 e2; exact ⟨rfl, ι1, f1⟩
  | ret => injection hr with hr; injection hr with e1 e2; subst e1 e2; exact ⟨rfl, ι1, f1⟩
theorem stepR_scope {b : Frame} {k : List Item} {cs : List Frame} {c : Code} : step P (lone (b.atR a (.code (.scope c) :: k)) cs w) = .next (lone (b.atR a (.code c :: .inScope c :: k)) cs w) :=
  step_lone_go (by simp [stepG, stepG.exec, Frame.atR])
theorem stepR_inScope {b : Frame} {k : List Item} {cs : List Frame} {c : Code} : step P (lone (b.atR a (.inScope c :: k)) cs w) = .next (lone (b.atR a k) cs w) :=
  step_lone_go (by simp [stepG, stepG.exec, Frame.atR])
theorem sd_scope {b : Code} (hi : SoundC P ih) (hr : evTo b ih s = some (x, s')) (hp : Pre ι D s r a w) : (Code.scope b).wpIn (FW r) m P (Post ι D s w x s') a w := by
  obtain ⟨⟨x1, s1⟩, h1, hr⟩ := bnd_some hr
  intro b0 k cs hro hf hroom
  obtain ⟨e, a1, w1, ⟨rfl, ι1, f1⟩, harr⟩ := (hi _ _ _ _ h1 ι D r m a w hp).1 b0 (.inScope b :: k) cs hro hf hroom
  have h0 : (lone (b0.atR a (.code (.scope b) :: k)) cs w).fenced P (FW r) := fenced_calm hf hroom rfl
  cases x1 with
  | normal =>
    injection hr with hr; injection hr with e1 e2; subst e1 e2
    exact ⟨_, a1, w1, ⟨rfl, ι1, f1⟩, .head h0 stepR_scope (StepsIn.trans harr (.one (fenced_calm hf hroom rfl) stepR_inScope))⟩
  | exit id =>
    injection hr with hr; injection hr with e1 e2; subst e1 e2
    have hx : exitTo id (.inScope b :: k) = exitTo id k := by simp [exitTo]
    exact ⟨_, a1, w1, ⟨rfl, ι1, f1⟩, fun k' hk => .head h0 stepR_scope (harr.1 k' (by rw [hx]; exact hk)),
      fun hr' hk => let ⟨k₁, h1, h2⟩ := harr.2 hr' (by rw [hx]; exact hk); ⟨k₁, h1, .head h0 stepR_scope h2⟩⟩
  | goto id => cases hr
  | ret => injection hr with hr; injection hr with e1 e2; subst e1 e2; exact ⟨_, a1, w1, ⟨rfl, ι1, f1⟩, .of_steps (.one h0 stepR_scope) harr⟩
end rules
end Ev
end Go.Proofs.YtlbjnkopbabcnaaGreatDoor
end


section
namespace Go.Proofs.YtlbjnkopbabcnaaGreatDoor
namespace Ev
set_option linter.unusedVariables false
set_option linter.unusedSimpArgs false
variable {ι ι' : Im} {D : Nat → Prop} {h h' : Hp} {w w' : World} {P : Program} {t : T} {nt : Nat} {a : Act} {ih : Ih} {ro : Option Nat} {v : V} {x : X} {s s' : St} {m : Nat}
theorem tofV_ok : ∀ {l : L} {n : Nat} {t t' : T}, tofV l n t = some t' → ∀ {vs pre : List Value}, LR ι l vs → pre.length = n → n + l.length ≤ nt → TmR ι t nt ⟨pre ++ List.replicate (nt - n) undef⟩ → TmR ι t' nt ⟨(pre ++ vs) ++ List.replicate (nt - (n + l.length)) undef⟩
  | [], n, t, t', hr, vs, pre, hl, hp, hn, ht => by
    injection hr with hr; subst hr
    cases hl
    simpa using ht
  | x :: l, n, t, t', hr, vs, pre, hl, hp, hn, ht => by
    obtain ⟨f, h1, hr⟩ := bnd_some hr
    cases hl with
    | cons hx hl =>
      rename_i u us
      have hn' : n + 1 + l.length ≤ nt := by simp at hn; omega
      have q := tofV_ok hr (pre := pre ++ [u]) hl (by simp [hp]) hn' (by
        have := ht.put h1 hx
        rw [List.setIfInBounds_toArray, List.set_append_right _ _ (by omega), hp, Nat.sub_self, show nt - n = (nt - (n + 1)) + 1 by omega, List.replicate_succ, List.set_cons_zero] at this
        simpa using this)
      have e : n + 1 + l.length = n + (x :: l).length := by simp; omega
      rw [e] at q
      simpa using q
theorem tm_empty (nt : Nat) : TmR ι eT nt ⟨[] ++ List.replicate (nt - 0) undef⟩ := by
  refine ⟨by simp, fun i f hi hf => ?_⟩
  have hu : (⟨[] ++ List.replicate (nt - 0) undef⟩ : Array Value).getD i undef = undef := by simp [Array.getD, hi]
  rw [hu]
  unfold tget at hf
  obtain ⟨f1, h1, hf⟩ := bnd_some hf
  obtain ⟨f2, h2, hf⟩ := bnd_some hf
  obtain ⟨f3, h3, hf⟩ := bnd_some hf
  injection hf with hf
  subst hf
  have e3 : f3 eT = e2 := by
    unfold g3 at h3
    split at h3 <;> first | (injection h3 with h3; subst h3; rfl) | cases h3
  have e2' : f2 e2 = e1 := by
    unfold g2 at h2
    split at h2 <;> first | (injection h2 with h2; subst h2; rfl) | cases h2
  have e1' : f1 e1 = undV := by
    unfold g1 at h1
    split at h1 <;> first | (injection h1 with h1; subst h1; rfl) | cases h1
  show VR ι (f1 (f2 (f3 eT))) undef
  rw [e3, e2', e1']
  exact VR.und
theorem shut_cons {b : Nat} {l : List Nat} (hr : shut (b :: l) h = some h') : ((h.at_ b).tg = 2) ∧ ∃ h1, setB b oDead h = some h1 ∧ shut l h1 = some h' := by
  obtain ⟨h0, hr⟩ := grd_some (hr : grd (Nat.beq (Tr.get 20 h.tr b).tg 2) (bnd (setB b oDead h) (shut l)) = some h')
  obtain ⟨h1, h2, h3⟩ := bnd_some hr
  exact ⟨beq_eq h0, h1, h2, h3⟩
theorem Wld.sub {D' : Nat → Prop} (hw : Wld ι D h w) (hs : ∀ k, D' k → D k) : Wld ι D' h w :=
  ⟨hw.nx, fun k b hD => hw.ob k b (hs k hD), hw.lt, fun k k' b h1 h2 => hw.inj k k' b (hs k h1) (hs k' h2), hw.gl⟩
theorem leaves_ok {F : Fence} {fn : Func} {tmps : Array Value} {R : Ending → World → Prop} {df : List Nat} {ds : List Deferred} (hd : DfR ι D df ds) (hall : ∀ k, D k) (hr : shut df h = some h') (hw : Wld ι D h w)
    (hQ : ∀ w', Stp ι D h w ι h' w' → ∃ v, (results fn tmps).run P w' = .ok v w' ∧ R (.returned v) w') : LeavesInM F m P fn tmps R ds .returning w := by
  induction hd generalizing h w with
  | nil => injection hr with hr; subst hr; exact hQ w (Stp.refl hw)
  | @cons k b df ds h1 h2 t ih =>
    obtain ⟨ht, h1', hs, hr⟩ := shut_cons hr
    obtain ⟨hb, rfl⟩ := setB_some hs
    have hg := (hw.ob k b h2 hb h1).df ht
    have hlt := hw.lt k b h1
    have st : Stp ι D h w ι (h.upd k oDead) (w.putObj b (.deferred none)) := stp_set hw hb h2 h1 ⟨by omega, by omega⟩ ⟨World.putObj_size, rfl, rfl, rfl, fun j hj => World.putObj_heap_other hj⟩ ObR.dead
    refine ⟨by simp, .inl ⟨b, _, rfl, run_takeDeferred hg, ?_⟩⟩
    refine ih hr (st.wl.sub fun k hk => .inl hk) fun w2 st2 => hQ w2 (st.trans ?_)
    exact { st2 with new := fun k b a1 a2 hb => (st2.new k b a1 a2 hb).imp id (fun ⟨k0, q1, q2, q3, q4⟩ => ⟨k0, q1, .inl q2, q3, q4⟩), same := fun k hk hh => st2.same k hk (hh.imp (fun hh hD => hh (.inl hD)) id), fr := fun b hb hk => st2.fr b hb (fun k a1 a2 => hk k a1 (.inl a2)), wl := st2.wl.sub fun k _ => .inl (hall k) }
theorem ress_cons {f : T → Hp → Option V} {fs : List (T → Hp → Option V)} {l : L} (hr : ress (f :: fs) t h = some l) : ∃ u us, f t h = some u ∧ ress fs t h = some us ∧ l = u :: us := by
  have hr : (bnd (f t h) fun v => bnd (ress fs t h) fun r => some (v :: r)) = some l := hr
  obtain ⟨u, h1, hr⟩ := bnd_some hr
  obtain ⟨us, h2, hr⟩ := bnd_some hr
  injection hr with hr
  exact ⟨u, us, h1, h2, hr.symm⟩
theorem res_ok {rs : List ResultVar} {fs : List (T → Hp → Option V)} (hc : cRes P nt rs = some fs) (hall : ∀ k, D k) (hw : Wld ι D h w) (ht : TmR ι t nt a.tmps) {l : L} (hr : ress fs t h = some l) :
    ∃ vs, (rs.mapM fun | .tmp t => pure (a.tmps.getD t undef) | .cell x ty => do loadVar ty (← asAddr (a.tmps.getD x undef)) : Sem (List Value)).run P w = .ok vs w ∧ LR ι l vs := by
  induction rs generalizing fs l with
  | nil => injection hc with hc; subst hc; injection hr with hr; subst hr; exact ⟨[], by simp, .nil⟩
  | cons r rs ih =>
    cases r with
    | tmp i =>
      obtain ⟨f, h1, hc⟩ := bnd_some hc
      obtain ⟨fs', h2, hc⟩ := bnd_some hc
      injection hc with hc
      subst hc
      obtain ⟨u, us, h3, h4, rfl⟩ := ress_cons hr
      injection h3 with h3
      subst h3
      obtain ⟨vs, e, hv⟩ := ih h2 h4
      exact ⟨a.tmps.getD i undef :: vs, by simp only [List.mapM_cons, Sem.run_bind, Sem.run_pure, Result.andThen_ok, e], .cons ((ht.opd hw.gl #[.tmp i]) _ (by simp) f h1) hv⟩
    | cell i ty =>
      obtain ⟨f, h1, hc⟩ := bnd_some hc
      obtain ⟨b, h0, hc⟩ := bnd_some hc
      obtain ⟨fs', h2, hc⟩ := bnd_some hc
      injection hc with hc
      subst hc
      obtain ⟨u, us, h3, h4, rfl⟩ := ress_cons hr
      obtain ⟨vs, e, hv⟩ := ih h2 h4
      obtain ⟨q, h3⟩ := onPtr_some h3
      obtain ⟨b', hb', e1⟩ := ((ht.opd hw.gl #[.tmp i]) _ (by simp) f h1).ptr_inv q
      obtain ⟨p1, p2, h3⟩ := row_some h3
      obtain ⟨xs, ys, e', hx, hg, -⟩ := row_cells hw p1 (hall _) hb' p2
      have e1' : a.tmps.getD i undef = .pointer (some ⟨b', (f t).b, none⟩) := e1
      have key : ∃ v', (loadVar ty ⟨b', (f t).b, none⟩).run P w = .ok v' w ∧ VR ι u v' := by
        rcases ifB_some h3 with ⟨rfl, h3⟩ | ⟨rfl, h3⟩
        · obtain ⟨c, h5, h3⟩ := bnd_some h3
          injection h3 with h3
          subst h3
          rw [vdrop_eq] at h5
          obtain ⟨rfl, hlen⟩ := vtake_some h5
          have l1 := hx.len
          obtain ⟨i0, hi0⟩ := aggT_info h0
          refine ⟨_, ?_, .agg ((hx.drop (f t).b).take (P.cellsOf ty))⟩
          have hrun : (loadCells ⟨b', (f t).b, none⟩ (P.cellsOf ty)).run P w = .ok ⟨(xs.drop (f t).b).take (P.cellsOf ty)⟩ w := by
            by_cases hz : P.cellsOf ty = 0
            · rw [hz]; rfl
            · exact run_loadCells_at hg (by rw [List.length_drop] at hlen; omega)
          simp [loadVar, aggT_some h0, run_size hi0, hrun]
        · obtain ⟨y, r, h5, h3⟩ := onCons_some h3
          injection h3 with h3
          subst h3
          rw [vdrop_eq] at h5
          obtain ⟨v', q1, q2⟩ := hd_drop hx h5
          refine ⟨v', ?_, q2⟩
          simp only [loadVar, Sem.run_bind, aggT_some h0, Result.andThen_ok, Bool.false_eq_true, if_false]
          refine run_load_at hg ?_
          have hl := (List.getElem?_eq_some_iff.1 q1).1
          simp [List.getElem?_append_left hl, q1]
      obtain ⟨v', k1, k2⟩ := key
      refine ⟨v' :: vs, ?_, .cons k2 hv⟩
      have k0 : (asAddr (a.tmps.getD i undef)).run P w = .ok ⟨b', (f t).b, none⟩ w := by rw [e1']; rfl
      simp only [List.mapM_cons, Sem.run_bind, Sem.run_pure, Result.andThen_ok, e, k0, k1]
theorem cFn_some {f : Nat} {d : Fd} (hc : cFn P f = some d) : ∃ fn, P.funcs[f]? = some fn ∧ (fn.name == "runtime.NumGoroutine") = false ∧ fn.body = some d.body ∧ d.nt = fn.ntmps ∧ cRes P fn.ntmps fn.results.toList = some d.rs := by
  obtain ⟨fn, h1, hc⟩ := bnd_some hc
  obtain ⟨h2, hc⟩ := grd_some hc
  obtain ⟨b, h3, hc⟩ := bnd_some hc
  obtain ⟨h4, hc⟩ := grd_some hc
  obtain ⟨rs, h5, hc⟩ := bnd_some hc
  rw [fN_eq] at hc
  injection hc with hc
  subst hc
  exact ⟨fn, h1, by simpa using h2, h3, rfl, h5⟩
theorem one_ok {l : L} {vs : List Value} (hl : LR ι l vs) : VR ι (one l) (if h : vs.toArray.size = 1 then vs.toArray[0] else .tuple vs.toArray) := by
  cases hl with
  | nil => exact .tup .nil
  | cons h t =>
    cases t with
    | nil => exact h
    | cons h2 t2 =>
      rw [dif_neg (by simp)]
      exact .tup (.cons h (.cons h2 t2))
theorem flat1_ok {u : Value} (hf : flat1 v = true) (hv : VR ι v u) : VR ι' v u := by
  cases hv with
  | int k n => exact .int k n
  | bool b => exact .bool b
  | nilp => exact .nilp
  | nils => exact .nils
  | nilf => exact .nilf
  | nilm => exact .nilm
  | ptr o h => simp [flat1, vPtr] at hf
  | sl o l c h => simp [flat1, vSl] at hf
  | slu o h hl hc => simp [flat1, vSlu] at hf
  | fn f h1 h2 => simp [flat1, vFn] at hf
  | yld h => simp [flat1, vYld] at hf
  | map h => simp [flat1, vMap] at hf
  | slz => simp [flat1, vSlz] at hf
  | agg h => simp [flat1, vAgg] at hf
  | tup h => simp [flat1, vTup] at hf
theorem flatL_cons {p : V → Bool} {x : V} {l : L} (hf : flatL p (x :: l) = true) : p x = true ∧ flatL p l = true := by
  have hf : ifB (p x) (flatL p l) false = true := hf
  rw [ifB_eq] at hf
  split at hf
  · exact ⟨by assumption, hf⟩
  · cases hf
theorem flatC_ok {l : L} {us : List Value} (hf : flatL flat1 l = true) (hv : CR ι l us) : CR ι' l us := by
  induction l generalizing us with
  | nil => cases hv; exact .nil
  | cons x l ih =>
    obtain ⟨h1, h2⟩ := flatL_cons hf
    cases hv with
    | cons hs h t => exact .cons hs (flat1_ok h1 h) (ih h2 t)
theorem flat2_ok {u : Value} (hf : flat2 v = true) (hv : VR ι v u) : VR ι' v u := by
  unfold flat2 at hf
  rcases Bool.or_eq_true _ _ ▸ hf with hf | hf
  · exact flat1_ok hf hv
  · obtain ⟨h1, h2⟩ := ifB_and hf
    have h1 := beq_eq h1
    cases hv with
    | agg h => exact .agg (flatC_ok h2 h)
    | _ => simp [vInt, vBool, vNilp, vPtr, vNils, vSl, vSlu, vNilf, vFn, vYld, vNilm, vMap, vSlz, vTup] at h1
theorem flatT_ok {l : L} {us : List Value} (hf : flatL flat2 l = true) (hv : LR ι l us) : LR ι' l us := by
  induction l generalizing us with
  | nil => cases hv; exact .nil
  | cons x l ih =>
    obtain ⟨h1, h2⟩ := flatL_cons hf
    cases hv with
    | cons h t => exact .cons (flat2_ok h1 h) (ih h2 t)
theorem flat_ok {u : Value} (hf : flat v = true) (hv : VR ι v u) : VR ι' v u := by
  unfold flat at hf
  rcases Bool.or_eq_true _ _ ▸ hf with hf | hf
  · exact flat2_ok hf hv
  · obtain ⟨h1, h2⟩ := ifB_and hf
    have h1 := beq_eq h1
    cases hv with
    | tup h => exact .tup (flatT_ok h2 h)
    | _ => simp [vInt, vBool, vNilp, vPtr, vNils, vSl, vSlu, vNilf, vFn, vYld, vNilm, vMap, vSlz, vAgg] at h1
/-- how a call ends -/
def RetR (ι : Im) (D : Nat → Prop) (h : Hp) (w : World) (v : V) (h' : Hp) (e : Ending) (w' : World) : Prop := ∃ v', e = .returned v' ∧ ∃ ι', Stp ι D h w ι' h' w' ∧ VR ι' v v'
theorem swept_ok {v1 : V} {h1 : Hp} {e : Ending} (hq : swept h (v1, h1) = (v, h')) (hw : Wld ι D h w) (hall : ∀ k, D k) (hr : RetR ι D ⟨h.nx, h.tr, h.nx⟩ w v1 h1 e w') : RetR ι D h w v h' e w' := by
  obtain ⟨v', rfl, ι1, st, hv⟩ := hr
  refine ⟨v', rfl, ?_⟩
  have hq : ifB (Nat.ble h.nx h1.lw) (ifB (flat v1) (v1, h) (v1, ⟨h1.nx, h1.tr, h.lw⟩)) (v1, ⟨h1.nx, h1.tr, ifB (Nat.blt h1.lw h.lw) h1.lw h.lw⟩) = (v, h') := hq
  rw [ifB_eq, ifB_eq, ifB_eq] at hq
  have nx := st.nx
  have ex : ∀ k, k < h.nx → ∀ b, ι k = some b → b < w.heap.size := fun k _ b hb => hw.lt k b hb
  by_cases c : Nat.ble h.nx h1.lw = true
  · rw [if_pos c] at hq
    have c' := ble_le c
    have hfr : ∀ b, b < w.heap.size → w'.heap[b]? = w.heap[b]? := fun b hb => st.fr b hb (fun k a1 _ a3 => absurd (Nat.le_trans c' a3) (by have : k < h.nx := a1; omega))
    by_cases c2 : flat v1 = true
    · rw [if_pos c2] at hq
      injection hq with q1 q2
      subst q1 q2
      refine ⟨ι, ⟨Nat.le_refl _, fun _ _ => rfl, fun _ _ => rfl, fun k b h1 h2 => absurd h2 (by omega), Nat.le_refl _, fun _ _ _ => rfl, fun b hb _ => hfr b hb, st.sz, st.os, st.tape, st.output, ?_⟩, flat_ok c2 hv⟩
      refine ⟨hw.nx, fun k b _ hk hb => (hw.ob k b (hall k) hk hb).mono (Ext.refl ι) rfl (hfr b (hw.lt k b hb)), fun k b hb => Nat.lt_of_lt_of_le (hw.lt k b hb) st.sz, fun k k' b _ _ => hw.inj k k' b (hall k) (hall k'), hw.gl⟩
    · rw [if_neg c2] at hq
      injection hq with q1 q2
      subst q1 q2
      refine ⟨ι1, ⟨nx, st.out, st.kap, fun k b a1 a2 hb => .inl ?_, Nat.le_refl _, fun k hk hh => st.same k hk (.inr (Nat.lt_of_lt_of_le hk c')), fun b hb _ => hfr b hb, st.sz, st.os, st.tape, st.output, ?_⟩, hv⟩
      · rcases st.new k b a1 a2 hb with q | ⟨k0, q1, q2, q3, q4⟩
        · exact q
        · have : k0 < h.nx := q1; omega
      · exact ⟨st.wl.nx, st.wl.ob, st.wl.lt, st.wl.inj, st.wl.gl⟩
  · rw [if_neg c] at hq
    injection hq with q1 q2
    subst q1 q2
    have c' : h1.lw < h.nx := not_ble (Bool.eq_false_iff.2 c)
    have hm : (if Nat.blt h1.lw h.lw = true then h1.lw else h.lw) ≤ h.lw ∧ (if Nat.blt h1.lw h.lw = true then h1.lw else h.lw) ≤ h1.lw := by
      split
      · have := blt_lt ‹_›; omega
      · rename_i q
        have : ¬ h1.lw < h.lw := fun e => q (Nat.ble_eq_true_of_le e)
        omega
    generalize (if Nat.blt h1.lw h.lw = true then h1.lw else h.lw) = lw at hm ⊢
    refine ⟨ι1, ⟨nx, st.out, st.kap, fun k b a1 a2 hb => (st.new k b a1 a2 hb).imp id (fun ⟨k0, q1, q2, q3, q4⟩ => ⟨k0, q1, q2, Nat.le_trans hm.2 q3, q4⟩), hm.1, fun k hk hh => st.same k hk (hh.imp id fun q => Nat.lt_of_lt_of_le q hm.2), fun b hb hk => st.fr b hb (fun k a1 a2 a3 => hk k a1 a2 (Nat.le_trans hm.2 a3)), st.sz, st.os, st.tape, st.output, ?_⟩, hv⟩
    exact ⟨st.wl.nx, st.wl.ob, st.wl.lt, st.wl.inj, st.wl.gl⟩
theorem RetR.mk {hw : Wld ι D h w} {v' : Value} (st : Stp ι D h w ι' h' w') (hv : VR ι' v v') : RetR ι D h w v h' (.returned v') w' := ⟨v', rfl, ι', st, hv⟩
theorem call_ok (hi : SoundC P ih) {f : Nat} {args : L} {vs : List Value} {r : Option Nat} (hr : evF P ih f args h = some (v, h')) (hall : ∀ k, D k) (hw : Wld ι D h w) (ht : Top ι h) (hl : LR ι args vs) :
    CallsIn (FW r) m P f ⟨vs⟩ w (RetR ι D h w v h') := by
  obtain ⟨d, h1, hr⟩ := bnd_some hr
  obtain ⟨h2, hr⟩ := grd_some hr
  obtain ⟨t, h3, hr⟩ := bnd_some hr
  obtain ⟨⟨x, s⟩, h4, hr⟩ := bnd_some (hr : (bnd (ih d.body ⟨t, d.nt, ⟨h.nx, h.tr, h.nx⟩, [], none⟩) _) = some (v, h'))
  obtain ⟨⟨v1, h5⟩, h6, hr⟩ := bnd_some (hr : (bnd (onX x (endF d.rs s) (fun _ => none) (fun _ => none) (endF d.rs s)) fun r => some (swept h r)) = some (v, h'))
  injection hr with hr
  obtain ⟨fn, g1, g2, g3, g4, g5⟩ := cFn_some h1
  have hn : args.length ≤ d.nt := by have := ble_le h2; rwa [vlen_eq] at this
  have hlen := hl.len
  have htm := tofV_ok h3 hl (pre := []) rfl (by omega) (tm_empty d.nt)
  have hw0 : Wld ι D ⟨h.nx, h.tr, h.nx⟩ w := ⟨hw.nx, hw.ob, hw.lt, hw.inj, hw.gl⟩
  refine CallsIn.mono (R := RetR ι D ⟨h.nx, h.tr, h.nx⟩ w v1 h5) ?_ (fun e w' q => swept_ok hr hw hall q)
  refine callsIn_of_wp_marks (F := FW none) g1 g3 trivial ?_
  have harg : ((⟨vs⟩ : Array Value) ++ Array.replicate (fn.ntmps - (⟨vs⟩ : Array Value).size) undef) = ⟨([] ++ vs) ++ List.replicate (d.nt - (0 + args.length)) undef⟩ := by
    apply Array.ext'
    simp [g4, hlen]
  rw [harg]
  have hb := (hi _ _ _ _ h4 ι D none m { tmps := ⟨([] ++ vs) ++ List.replicate (d.nt - (0 + args.length)) undef⟩, defers := [] } w ⟨hall, hw0, ht, htm, .nil, rfl⟩).1
  refine wpIn_mono hb ?_
  rintro e a' w' ⟨rfl, ι1, f1⟩
  have key : endF d.rs s = some (v1, h5) → LeavesInM (FW none) m P fn a'.tmps (RetR ι D ⟨h.nx, h.tr, h.nx⟩ w v1 h5) a'.defers .returning w' := by
    intro h6
    obtain ⟨h7, p1, h6⟩ := bnd_some (h6 : (bnd (shut s.df s.h) fun h => bnd (ress d.rs s.t h) fun v => some (one v, h)) = some (v1, h5))
    obtain ⟨l, p2, h6⟩ := bnd_some h6
    injection h6 with h6
    injection h6 with q1 q2
    subst q1 q2
    have hall' : ∀ k, D k ∨ h.nx ≤ k := fun k => .inl (hall k)
    refine leaves_ok f1.df hall' p1 f1.st.wl ?_
    intro w2 st2
    have hw2 := st2.wl.sub (D' := fun k => D k ∨ h.nx ≤ k) fun k q => .inl q
    have htm2 : TmR ι1 s.t fn.ntmps a'.tmps := by have := f1.tm; rwa [f1.nt, g4] at this
    obtain ⟨vs', e1, e2⟩ := res_ok g5 hall' hw2 htm2 p2
    refine ⟨_, ?_, RetR.mk (hw := hw0) (f1.st.trans st2) (one_ok e2)⟩
    unfold results
    rw [Array.mapM_eq_mapM_toList]
    simp only [Sem.run_bind, Sem.run_map, Sem.run_pure]
    have e3 := congrArg (fun r => (r.andThen fun a w => Result.ok a.toArray w).andThen fun vs w => Result.ok (if h : vs.size = 1 then vs[0] else Value.tuple vs) w) e1
    exact e3
  cases x with
  | normal => exact key h6
  | exit id => cases h6
  | goto id => cases h6
  | ret => exact key h6
end Ev
end Go.Proofs.YtlbjnkopbabcnaaGreatDoor
end


section
namespace Go.Proofs.YtlbjnkopbabcnaaGreatDoor
namespace Ev
set_option linter.unusedVariables false
set_option linter.unusedSimpArgs false
variable {ι ι' : Im} {D : Nat → Prop} {h h' : Hp} {w w' : World} {P : Program} {t : T} {nt : Nat} {a : Act} {ih : Ih} {ro : Option Nat} {v : V} {x : X} {s s' : St} {m : Nat}
theorem onLp_some {α : Type} {o : Ob} {k : Lp → Option α} {r : α} (hk : onLp o k = some r) : o.tg = 1 ∧ ∃ y, o.lp = some y ∧ k y = some r := by
  unfold onLp at hk
  rcases ifB_some hk with ⟨h1, h2⟩ | ⟨_, h2⟩
  · obtain ⟨y, h3, h4⟩ := bnd_some h2
    exact ⟨beq_eq h1, y, h3, h4⟩
  · cases h2
theorem nilB_eq {α : Type} {l : List α} (h : nilB l = true) : l = [] := by cases l with
  | nil => rfl
  | cons x l => cases h
theorem Lp.to_eq (y : Lp) (st : Nat) (p : Option Code) : y.to st p = oLp ⟨st, p, y.t, y.nt, y.ps, y.asg, y.body⟩ := rfl
theorem lp_get (hall : ∀ k, D k) (hw : Wld ι D h w) {l l' : Nat} {y : Lp} (hl : l < h.nx) (hi : ι l = some l') (ht : (h.at_ l).tg = 1) (hy : (h.at_ l).lp = some y) : ∃ r : Loop, w.heap[l']? = some (.loop r) ∧ LpR ι y r := by
  obtain ⟨x, r, h1, h2, h3⟩ := (hw.ob l l' (hall l) hl hi).lp ht
  rw [hy] at h1
  injection h1 with h1
  subst h1
  exact ⟨r, h2, h3⟩
theorem lp_set (hall : ∀ k, D k) (hw : Wld ι D h w) {l l' st : Nat} {y : Lp} {p : Option Code} {r : Loop} {sta : LoopState} (hi : ι l = some l') (ht : (h.at_ l).tg = 1) (hr : LpR ι y r) (hg : w.heap[l']? = some (.loop r)) (hs : setB l (y.to st p) h = some h') (hsta : stN sta = st) :
    Stp ι D h w ι h' (w.putObj l' (.loop { r with state := sta, pending := p })) := by
  obtain ⟨hb, rfl⟩ := setB_some hs
  have hlt := hw.lt l l' hi
  refine stp_set hw hb (hall l) hi ⟨by omega, by omega⟩ ⟨World.putObj_size, rfl, rfl, rfl, fun j hj => World.putObj_heap_other hj⟩ ?_
  refine ⟨fun e => (by cases e), fun _ => ⟨_, _, rfl, World.putObj_heap_same hlt, ?_⟩, fun e => (by cases e), fun e => (by cases e), fun e => (by cases e)⟩
  exact { st := hsta, pend := rfl, ps := hr.ps, asg := hr.asg, body := hr.body, tm := hr.tm }
theorem setPs_ok : ∀ {ps : List Nat} {l : L} {t t' : T}, setPs ps l t = some t' → ∀ {vs : List Value} {tmps : Array Value}, LR ι l vs → TmR ι t nt tmps → vs.length = ps.length ∧ TmR ι t' nt ((ps.zip vs).foldl (fun tmps p => tmps.setIfInBounds p.1 p.2) tmps)
  | [], l, t, t', hr, vs, tmps, hl, ht => by
    obtain ⟨h1, hr⟩ := grd_some (hr : grd (Nat.beq (vlen l) 0) (some t) = some t')
    injection hr with hr
    subst hr
    have h1 := beq_eq h1
    rw [vlen_eq] at h1
    have := hl.len
    have h0 : vs.length = 0 := by omega
    exact ⟨by rw [h0]; rfl, by simpa using ht⟩
  | p :: ps, l, t, t', hr, vs, tmps, hl, ht => by
    obtain ⟨x, xs, rfl, hr⟩ := onCons_some hr
    obtain ⟨f, h1, hr⟩ := bnd_some hr
    cases hl with
    | cons hx hl =>
      obtain ⟨e, q⟩ := setPs_ok hr hl (ht.put h1 hx)
      exact ⟨by simp [e], by simpa using q⟩
theorem Wld.all {D' : Nat → Prop} (hw : Wld ι D h w) (hall : ∀ k, D k) : Wld ι D' h w := hw.sub fun k _ => hall k
theorem Stp.all {D' : Nat → Prop} (st : Stp ι D h w ι' h' w') (hall : ∀ k, D k) (hall' : ∀ k, D' k) : Stp ι D' h w ι' h' w' :=
  { st with new := fun k b a1 a2 hb => (st.new k b a1 a2 hb).imp id (fun ⟨k0, q1, _, q3, q4⟩ => ⟨k0, q1, hall' k0, q3, q4⟩), same := fun k hk hh => st.same k hk (hh.imp (fun q => absurd (hall' k) q) id), fr := fun b hb hk => st.fr b hb (fun k a1 _ => hk k a1 (hall' k)), wl := st.wl.sub fun k _ => .inl (hall k) }
theorem round_ok (hi : SoundC P ih) {l l' : Nat} {args : L} {vs : List Value} {r : Option Nat} (hr : evR ih l args h = some (v, h')) (hall : ∀ k, D k) (hw : Wld ι D h w) (htp : Top ι h) (hl : ι l = some l') (hv : LR ι args vs) :
    ∃ rec : Loop, w.heap[l']? = some (.loop rec) ∧ vs.length = rec.params.size ∧ RoundIn (FW r) m P l' rec.fn ((rec.params.zip ⟨vs⟩).foldl (fun tmps (t, a) => tmps.setIfInBounds t a) rec.tmps) rec.assign rec.body w (RetR ι D h w v h') := by
  obtain ⟨h1, y, h2, hr⟩ := onLp_some hr
  have hlt : l < h.nx := by
    by_cases c : l < h.nx
    · exact c
    · rw [htp l (by omega)] at hl; cases hl
  obtain ⟨rec, g1, g2⟩ := lp_get hall hw hlt hl h1 h2
  obtain ⟨t', h3, hr⟩ := bnd_some hr
  rw [fN_eq, fC_eq] at hr
  obtain ⟨⟨e, s⟩, h4, hr⟩ := bnd_some hr
  obtain ⟨q1, q2⟩ := setPs_ok h3 hv g2.tm
  refine ⟨rec, g1, by rw [q1, ← g2.ps]; simp, ?_⟩
  refine roundIn_of_wpIn trivial ?_
  have htm : TmR ι t' y.nt ((rec.params.zip ⟨vs⟩).foldl (fun tmps (t, a) => tmps.setIfInBounds t a) rec.tmps) := by
    rw [← Array.foldl_toList, Array.toList_zip, g2.ps]
    exact q2
  have hasg := (hi _ _ _ _ h4 ι D (some l') m { tmps := _, defers := [] } w ⟨hall, hw, htp, htm, .nil, hall l, l', hl, rfl⟩).1
  rw [g2.asg]
  refine wpIn_mono hasg ?_
  rintro e1 a1 w1 ⟨rfl, ι1, f1⟩
  cases e with
  | exit id => cases hr
  | goto id => cases hr
  | ret => cases hr
  | normal =>
    have hr : bodyR ih l y s = some (v, h') := hr
    unfold bodyR at hr
    rw [onSt_eq] at hr
    obtain ⟨c1, hr⟩ := grd_some hr
    have c1 := nilB_eq c1
    obtain ⟨c2, y1, c3, hr⟩ := onLp_some hr
    obtain ⟨c4, hr⟩ := grd_some hr
    obtain ⟨h5, c5, hr⟩ := bnd_some hr
    rw [fC_eq] at hr
    obtain ⟨⟨e2, s3⟩, c6, hr⟩ := bnd_some hr
    have hr : (grd (nilB s3.df) (onLp (Tr.get 20 s3.h.tr l) fun z => endR l e2 s3.h z)) = some (v, h') := hr
    obtain ⟨d1, hr⟩ := grd_some hr
    obtain ⟨d2, z, d3, hr⟩ := onLp_some hr
    have hl1 : ι1 l = some l' := (f1.st.extT htp hw _ _ hl).1
    have nx1 : h.nx ≤ s.h.nx := f1.st.nx
    have hall1 : ∀ k, D k ∨ h.nx ≤ k := fun k => .inl (hall k)
    obtain ⟨rec1, k1, k2⟩ := lp_get hall1 f1.st.wl (by omega) hl1 c2 c3
    have hrd : rec1.state = .ready := by
      have := k2.st
      rw [beq_eq c4] at this
      cases hst : rec1.state <;> rw [hst] at this <;> first | rfl | cases this
    have st1 := lp_set (sta := .busy) (p := y1.pend) hall1 f1.st.wl hl1 c2 k2 k1 c5 rfl
    refine ⟨_, run_beginRound k1 hrd, ?_⟩
    have ew : ({ rec1 with state := LoopState.busy, pending := y1.pend } : Loop) = { rec1 with state := LoopState.busy } := by rw [← k2.pend]
    rw [ew] at st1
    have tp1 := htp.step f1.st
    have tp2 := tp1.step st1
    have hw2 := st1.wl
    have hdf : a1.defers = [] := by
      have := f1.df
      rw [c1] at this
      generalize a1.defers = ds at this
      cases this; rfl
    have hb := (hi _ _ _ _ c6 ι1 (fun k => D k ∨ h.nx ≤ k) (some l') m a1 _ ⟨hall1, hw2.all (fun k => .inl (hall1 k)), tp2, f1.tm, by rw [hdf]; exact .nil, hall1 l, l', hl1, rfl⟩).1
    rw [g2.body]
    refine wpIn_mono hb ?_
    rintro e3 a3 w3 ⟨rfl, ι3, f3⟩
    have hl3 : ι3 l = some l' := (f3.st.extT tp2 (hw2.all (fun k => .inl (hall1 k))) _ _ hl1).1
    have nx2 : h5.nx = s.h.nx := by obtain ⟨_, rfl⟩ := setB_some c5; rfl
    have nx3 : h5.nx ≤ s3.h.nx := f3.st.nx
    obtain ⟨rec3, p1, p2⟩ := lp_get (fun k => .inl (hall1 k)) f3.st.wl (by omega) hl3 d2 d3
    have tot : Stp ι D h w ι3 s3.h w3 := f1.st.trans (st1.trans (f3.st.all hall1 (fun k => .inl (hall1 k))))
    have fin : ∀ {st : Nat} {p : Option Code} {sta : LoopState} {u : Bool}, (bnd (setB l (z.to st p) s3.h) fun h => some (vBool u, h)) = some (v, h') → stN sta = st → RetR ι D h w v h' (.returned (.bool u)) (w3.putObj l' (.loop { rec3 with state := sta, pending := p })) := by
      intro st p sta u hq hsta
      obtain ⟨h6, j1, hq⟩ := bnd_some hq
      injection hq with hq
      injection hq with e1 e2
      subst e1 e2
      have st4 := lp_set (sta := sta) (fun k => .inl (hall1 k)) f3.st.wl hl3 d2 p2 p1 j1 hsta
      exact ⟨_, rfl, ι3, tot.trans (st4.all (fun k => .inl (hall1 k)) (fun k => .inl (hall k))), .bool u⟩
    cases e2 with
    | normal => exact ⟨_, _, run_endRound none p1, fin (sta := .ready) (p := none) hr rfl⟩
    | exit id => exact ⟨_, _, run_endRound (some (.exit id)) p1, fin (sta := .done) (p := some (.exit id)) hr rfl⟩
    | goto id => exact ⟨_, _, run_endRound (some (.goto id)) p1, fin (sta := .done) (p := some (.goto id)) hr rfl⟩
    | ret => exact ⟨_, _, run_endRound (some .ret) p1, fin (sta := .done) (p := some .ret) hr rfl⟩
end Ev
end Go.Proofs.YtlbjnkopbabcnaaGreatDoor
end


section
namespace Go.Proofs.YtlbjnkopbabcnaaGreatDoor
namespace Ev
set_option linter.unusedVariables false
set_option linter.unusedSimpArgs false
variable {ι ι' : Im} {D : Nat → Prop} {h h' : Hp} {w w' : World} {P : Program} {t : T} {nt : Nat} {a : Act} {ih : Ih} {ro : Option Nat} {v : V} {x : X} {s s' : St} {m : Nat}
theorem run_callFunc {f : Nat} {fn : Func} {b : Code} {args : Array Value} (h1 : P.funcs[f]? = some fn) (h2 : (fn.name == "runtime.NumGoroutine") = false) (h3 : fn.body = some b) : (callFunc f args).run P w = .ok (.enter f args) w := by
  have hp : (program).run P w = .ok P w := rfl
  unfold callFunc
  rw [Sem.run_bind, hp, Result.andThen_ok, h1]
  simp [h2, h3]
theorem opr_ok (hi : SoundC P ih) {o : Oper} {f : Fo} (hc : cOp P nt o.op = some f) (hO : Opd ι nt t a o.op.operands) (hw : Wld ι D h w) (htp : Top ι h) (hN : Need nt t D o) (hr : f ih ro t h = some (v, h')) {K : Act → World → Prop} {Q : Exit → Act → World → Prop} {r : Option Nat}
    (hK : ∀ v' w' ι', Stp ι D h w ι' h' w' → VR ι' v v' → K (a.put o.dst v') w') : o.wpIn (FW r) m P a w K Q := by
  refine ⟨fun _ _ => trivial, ?_⟩
  have hdef : ∀ c, o.op ≠ .defer c := by
    intro c e
    rw [e] at hc
    cases hc
  rw [Oper.semAt_eq _ _ _ hdef]
  cases hv : isVal o.op with
  | false =>
    obtain ⟨v', w', ι', hrun, st, hvr⟩ := op_ok hc hv hO hw hN hr htp.fresh
    rcases hrun with hrun | ⟨hrun, rfl⟩
    · rw [hrun]; exact hK v' w' ι' st hvr
    · rw [hrun]; exact hK undef w' ι' st hvr
  | true =>
    generalize hop : o.op = op at hc hv
    cases op with
    | call c =>
      obtain ⟨callee, args, ats⟩ := c
      cases callee with
      | builtin b => cases hv
      | invoke x n => cases hv
      | value g =>
        have hc : (bnd (cO nt g) fun f => bnd (cOs nt args.toList) fun l => some (opCall P f l)) = some f := hc
        obtain ⟨f1, h1, hc⟩ := bnd_some hc
        obtain ⟨l, h2, hc⟩ := bnd_some hc
        injection hc with hc
        subst hc
        have hall : ∀ k, D k := hN.1 (by unfold kindO; rw [hop])
        have v1 := hO g (by simp [hop, Op.operands, Call.operands]) f1 h1
        have vl : LR ι (vals l t) (args.toList.map a.eval) := vals_ok h2 fun x hx f hf => hO x (by simp only [hop, Op.operands, Call.operands]; first | (simp; right; simpa using hx) | (simp; left; simpa using hx) | (simp; simpa using hx)) f hf
        rcases onFn_some (hr : onFn (f1 t) (fun f fs cs => evF P ih f (vapp fs (vapp (vals l t) cs)) h) (fun k => evR ih k (vals l t) h) = some (v, h')) with ⟨ht, hr⟩ | ⟨ht, hr⟩
        · obtain ⟨fs, cs, q1, q2, e⟩ := v1.fn_inv ht
          have hcall := call_ok (m := m - 1) (r := r) hi hr hall hw htp (by rw [vapp_eq, vapp_eq]; exact q1.app (vl.app q2))
          obtain ⟨d, hd, -⟩ := bnd_some hr
          obtain ⟨fn, g1, g2, g3, -⟩ := cFn_some hd
          have hrun : (execOp a.eval o).run P w = .ok (.enter (f1 t).a ⟨fs ++ (args.toList.map a.eval ++ cs)⟩) w := by
            have ea : (⟨fs⟩ ++ args.map a.eval ++ ⟨cs⟩ : Array Value) = ⟨fs ++ (args.toList.map a.eval ++ cs)⟩ := by apply Array.ext'; simp
            simp [execOp, hop, resolve, e, Deferred.ofValue, invoke, ea, run_callFunc g1 g2 g3]
          rw [hrun]
          refine ⟨FW_n r m, hcall.mono ?_⟩
          rintro e1 w1 ⟨v', rfl, ι', st, hvr⟩
          exact hK v' w1 ι' st hvr
        · obtain ⟨l', q1, e⟩ := v1.yld_inv ht
          obtain ⟨rec, g1, g2, g3⟩ := round_ok (m := m - 1) (r := r) hi hr hall hw htp q1 vl
          have hrun : (execOp a.eval o).run P w = .ok (.round l' rec.fn ((rec.params.zip ⟨args.toList.map a.eval⟩).foldl (fun tmps (t, a) => tmps.setIfInBounds t a) rec.tmps) rec.assign rec.body) w := by
            have ea : (args.map a.eval : Array Value) = ⟨args.toList.map a.eval⟩ := by apply Array.ext'; simp
            have := run_yield (P := P) (args := ⟨args.toList.map a.eval⟩) g1 (by simpa using g2)
            simp only [execOp, hop, resolve, e, Deferred.ofValue, invoke, Sem.run_bind, Sem.run_pure, Result.andThen_ok, ea]
            simpa using this
          rw [hrun]
          refine ⟨FW_n r m, g3.mono ?_⟩
          rintro e1 w1 ⟨v', rfl, ι', st, hvr⟩
          exact hK v' w1 ι' st hvr
    | _ => cases hv
end Ev
end Go.Proofs.YtlbjnkopbabcnaaGreatDoor
end
