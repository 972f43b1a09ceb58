/- V6 V7 V8 V9 V10 V11 V12 V13 V14 -/
import Derived.Test.YtlbjnkopbabcnaaGreatDoorYV01
import Derived.Laws.MakeOwn
import Derived.Great.BuildSlice

section
namespace Go.Proofs.YtlbjnkopbabcnaaGreatDoor
namespace Ev
set_option linter.unusedVariables false
set_option linter.unusedSimpArgs false
variable {ι ι' : Im} {D : Nat → Prop} {h h' : Hp} {w w' : World} {P : Program} {t : T} {nt : Nat} {a : Act} {ih : Ih} {ro : Option Nat} {v : V} {o : Oper}
theorem ok_move {x : Operand} {f : T → V} (ho : o.op = .move x ∨ o.op = .assign x) (hc : cO nt x = some f) (hO : Opd ι nt t a o.op.operands) (hw : Wld ι D h w) (hr : pureO f ih ro t h = some (v, h')) : Res1 P a o ι D h w v h' := by
  injection hr with hr
  injection hr with h1 h2
  subst h1 h2
  refine Res1.pure hw (v' := a.eval x) ?_ (hO x (by rcases ho with ho | ho <;> simp [ho, Op.operands]) f hc)
  rcases ho with ho | ho <;> simp [execOp, ho]
theorem ok_pick {c x y : Operand} {fc f g : T → V} (ho : o.op = .pick c x y) (h1 : cO nt c = some fc) (h2 : cO nt x = some f) (h3 : cO nt y = some g) (hO : Opd ι nt t a o.op.operands) (hw : Wld ι D h w) (hr : opPick fc f g ih ro t h = some (v, h')) : Res1 P a o ι D h w v h' := by
  have v1 := hO c (by simp [ho, Op.operands]) fc h1
  have v2 := hO x (by simp [ho, Op.operands]) f h2
  have v3 := hO y (by simp [ho, Op.operands]) g h3
  obtain ⟨ht, hr⟩ := onB_some hr
  injection hr with hr
  injection hr with e1 e2
  subst e2
  obtain ⟨e3, e4⟩ := v1.bool_inv ht
  rw [ifB_eq] at e1
  refine Res1.pure hw (v' := if Nat.beq (fc t).a 1 = true then a.eval x else a.eval y) ?_ ?_
  · simp [execOp, ho, e3, asBool]
  · subst e1
    split
    · exact v2
    · exact v3
theorem ok_alloc {e : TypeId} {z : L} (ho : o.op = .alloc e) (hz : zeroC P e = some z) (hw : Wld ι D h w) (hr : opAlloc z ih ro t h = some (v, h')) (hf : Fresh ι h h') : Res1 P a o ι D h w v h' := by
  obtain ⟨hn, hr⟩ := newB_some hr
  injection hr with hr
  injection hr with e1 e2
  subst e1 e2
  have hf0 : ι h.nx = none := hf h.nx (Nat.le_refl _) (Nat.lt_succ_self _)
  obtain ⟨zv, z1, z2, z3⟩ := run_zero (ι := ι) hz w
  refine ⟨.pointer (some ⟨w.heap.size, 0, none⟩), _, _, .inl ?_, stp_new (c := 0) (obj := .cells zv.cells e) hw hn hf0 ⟨fun _ => ⟨zv.cells.toList, [], e, z2.mono (up_ext hf0 (.inl hw.new)), by rw [World.alloc_heap_new]; simp, fun e => absurd rfl e⟩, fun e => (by cases e), fun e => (by cases e), fun e => (by cases e), fun e => (by cases e)⟩, .ptr 0 (if_pos rfl)⟩
  simp [execOp, ho, Instr.alloc, z1, newVar, newRow, newObj, Sem.run]
theorem ok_box {e : TypeId} {x : Operand} {f : T → V} (ho : o.op = .box e x) (hc : cO nt x = some f) (hO : Opd ι nt t a o.op.operands) (hw : Wld ι D h w) (hr : opBox f ih ro t h = some (v, h')) (hf : Fresh ι h h') : Res1 P a o ι D h w v h' := by
  have v1 := hO x (by simp [ho, Op.operands]) f hc
  obtain ⟨hk, hr⟩ := grd_some hr
  obtain ⟨hn, hr⟩ := newB_some hr
  injection hr with hr
  injection hr with e1 e2
  subst e1 e2
  have hf0 : ι h.nx = none := hf h.nx (Nat.le_refl _) (Nat.lt_succ_self _)
  refine ⟨.pointer (some ⟨w.heap.size, 0, none⟩), _, _, .inl ?_, stp_new (c := 0) (obj := .cells (a.eval x).cells e) hw hn hf0 ⟨fun _ => ⟨(a.eval x).cells.toList, [], e, (v1.cells hk).mono (up_ext hf0 (.inl hw.new)), by rw [World.alloc_heap_new]; simp, fun e => absurd rfl e⟩, fun e => (by cases e), fun e => (by cases e), fun e => (by cases e), fun e => (by cases e)⟩, .ptr 0 (if_pos rfl)⟩
  simp [execOp, ho, Instr.box, newVar, newRow, newObj, Sem.run]
theorem ok_load {ty : TypeId} {x : Operand} {f : T → V} (ho : o.op = .load ty x) (hb : aggT P ty = some false) (hc : cO nt x = some f) (hO : Opd ι nt t a o.op.operands) (hw : Wld ι D h w) (hD : D (f t).a) (hr : opLoad f ih ro t h = some (v, h')) : Res1 P a o ι D h w v h' := by
  have v1 := hO x (by simp [ho, Op.operands]) f hc
  obtain ⟨ht, hr⟩ := onPtr_some hr
  obtain ⟨h0, h1, hr⟩ := rowR_some hr
  obtain ⟨y, ys, hy, hr⟩ := onCons_some hr
  injection hr with hr
  injection hr with e1 e2
  subst e1 e2
  obtain ⟨b', hb', e3⟩ := v1.ptr_inv ht
  obtain ⟨xs, us, e, fr, hx, hg⟩ := rowR_cells hw h0 hD hb' h1
  rw [vdrop_eq] at hy
  obtain ⟨u, us', hu, -, hv, -⟩ := (hx.drop (f t).b).hd hy
  refine Res1.pure hw (v' := u) ?_ hv
  have hl : (⟨xs ++ us⟩ : Array Value)[(f t).b]? = some u := by
    have h9 : xs[(f t).b]? = some u := by
      have := congrArg List.head? hu
      simpa [List.head?_drop] using this
    have hlt := (List.getElem?_eq_some_iff.1 h9).1
    simpa [List.getElem?_append_left hlt] using h9
  have hcell : w.cell? ⟨b', (f t).b, none⟩ = some u := by simp only [World.cell?, hg, Option.isSome_none, Bool.false_eq_true, if_false]; exact hl
  simp [execOp, ho, e3, Instr.loadAt, Instr.sureAddr, loadVar, aggT_some hb, hcell]
theorem ok_loadA {ty : TypeId} {x : Operand} {f : T → V} (ho : o.op = .load ty x) (hb : aggT P ty = some true) (hc : cO nt x = some f) (hO : Opd ι nt t a o.op.operands) (hw : Wld ι D h w) (hD : D (f t).a) (hr : opLoadA (P.cellsOf ty) f ih ro t h = some (v, h')) : Res1 P a o ι D h w v h' := by
  have v1 := hO x (by simp [ho, Op.operands]) f hc
  obtain ⟨ht, hr⟩ := onPtr_some hr
  obtain ⟨h0, h1, hr⟩ := rowR_some hr
  obtain ⟨y, hy, hr⟩ := bnd_some hr
  injection hr with hr
  injection hr with e1 e2
  subst e1 e2
  obtain ⟨b', hb', e3⟩ := v1.ptr_inv ht
  obtain ⟨xs, us, e, fr, hx, hg⟩ := rowR_cells hw h0 hD hb' h1
  obtain ⟨rfl, hl⟩ := vtake_some hy
  rw [vdrop_eq] at hl ⊢
  have l1 := hx.len
  obtain ⟨i, hi⟩ := aggT_info hb
  refine Res1.pure hw (v' := .agg ⟨(xs.drop (f t).b).take (P.cellsOf ty)⟩) ?_ (.agg ((hx.drop _).take _))
  have hrun : (loadCells ⟨b', (f t).b, none⟩ (P.cellsOf ty)).run P w = .ok ⟨(xs.drop (f t).b).take (P.cellsOf ty)⟩ w := by
    by_cases hz : P.cellsOf ty = 0
    · rw [hz]; rfl
    · exact run_loadCells_at hg (by simp at hl; omega)
  simp [execOp, ho, e3, Instr.loadAt, Instr.sureAddr, loadVar, aggT_some hb, run_size hi, hrun]
theorem run_storeVar {ty : TypeId} {i : TypeInfo} {ad : Addr} {x : Value} (hi : P.info? ty = some i) (hs : x.cells.size = P.cellsOf ty) (hr : (storeCells ad x.cells.toList).run P w = .ok () w') : (storeVar ty ad x).run P w = .ok () w' := by
  simp [storeVar, run_size hi, hs, hr]
theorem ok_store {ty : TypeId} {x y : Operand} {f g : T → V} {i : TypeInfo} (ho : o.op = .store ty x y) (hi : P.info? ty = some i) (h1 : cO nt x = some f) (h2 : cO nt y = some g) (hO : Opd ι nt t a o.op.operands) (hw : Wld ι D h w) (hD : D (f t).a) (hr : opStore (P.cellsOf ty) f g ih ro t h = some (v, h')) : Res1 P a o ι D h w v h' := by
  have v1 := hO x (by simp [ho, Op.operands]) f h1
  have v2 := hO y (by simp [ho, Op.operands]) g h2
  obtain ⟨ht, hr⟩ := onPtr_some hr
  obtain ⟨hk, hr⟩ := grd_some hr
  obtain ⟨hk, hl⟩ := ifB_and hk
  obtain ⟨h'', hp, hr⟩ := bnd_some hr
  injection hr with hr
  injection hr with e1 e2
  subst e1 e2
  obtain ⟨b', hb', e3⟩ := v1.ptr_inv ht
  have hc := v2.cells hk
  obtain ⟨w', hs, hst, -⟩ := putCells_ok (P := P) hw hp hD hb' hc
  refine ⟨undef, w', ι, .inr ⟨?_, rfl⟩, hst, .und⟩
  have hn : (a.eval y).cells.size = P.cellsOf ty := by
    have := hc.len
    rw [← vlen_eq, beq_eq hl] at this
    simpa using this.symm
  simp [execOp, ho, e3, Instr.storeAt, Instr.sureAddr, run_storeVar hi hn hs]
theorem ok_nil {x : Operand} {f : T → V} (ho : o.op = .nilCheck x) (hc : cO nt x = some f) (hO : Opd ι nt t a o.op.operands) (hw : Wld ι D h w) (hr : opNil f ih ro t h = some (v, h')) : Res1 P a o ι D h w v h' := by
  have v1 := hO x (by simp [ho, Op.operands]) f hc
  obtain ⟨hk, hr⟩ := grd_some hr
  injection hr with hr
  injection hr with e1 e2
  subst e1 e2
  refine Res1.pure hw (v' := a.eval x) ?_ v1
  obtain ⟨dst, op, type, pos, after, guard⟩ := o
  simp only at ho
  subst ho
  simp only [execOp]
  generalize a.eval x = u at v1 ⊢
  generalize f t = z at v1 hk
  cases v1 <;> first | rfl | (exact absurd hk (by show ¬ (false = true); decide))
theorem ok_not {ty : TypeId} {x : Operand} {f : T → V} (ho : o.op = .unOp .not ty x) (hc : cO nt x = some f) (hO : Opd ι nt t a o.op.operands) (hw : Wld ι D h w) (hr : opNot f ih ro t h = some (v, h')) : Res1 P a o ι D h w v h' := by
  have v1 := hO x (by simp [ho, Op.operands]) f hc
  obtain ⟨ht, hr⟩ := onB_some hr
  injection hr with hr
  injection hr with e1 e2
  subst e1 e2
  obtain ⟨e3, -⟩ := v1.bool_inv ht
  exact Res1.pure hw (v' := .bool (!Nat.beq (f t).a 1)) (by simp [execOp, ho, e3, Op.unary]) (.bool _)
/-- numbers in range -/
theorem inR_wrap {k : IntKind} {n : Int} (hk : inR (idx k) n = true) : k.wrap n = n := by
  cases k with
  | i8 =>
    have e : ∀ n : Int, -128 ≤ n → n ≤ 127 → IntKind.i8.wrap n = n := fun n h1 h2 => by
      have w1 : IntKind.i8.wrap n = if 128 ≤ n % 256 then n % 256 - 256 else n % 256 := by simp [IntKind.wrap, IntKind.bits, IntKind.signed]
      rw [w1]
      split <;> omega
    cases n with
    | ofNat m => have hl : m < 128 := blt_lt hk; exact e (m : Int) (by omega) (by omega)
    | negSucc m => have hl : m < 128 := blt_lt hk; exact e _ (by omega) (by omega)
  | i16 =>
    have e : ∀ n : Int, -32768 ≤ n → n ≤ 32767 → IntKind.i16.wrap n = n := fun n h1 h2 => by
      have w1 : IntKind.i16.wrap n = if 32768 ≤ n % 65536 then n % 65536 - 65536 else n % 65536 := by simp [IntKind.wrap, IntKind.bits, IntKind.signed]
      rw [w1]
      split <;> omega
    cases n with
    | ofNat m => have hl : m < 32768 := blt_lt hk; exact e (m : Int) (by omega) (by omega)
    | negSucc m => have hl : m < 32768 := blt_lt hk; exact e _ (by omega) (by omega)
  | i32 =>
    have e : ∀ n : Int, -2147483648 ≤ n → n ≤ 2147483647 → IntKind.i32.wrap n = n := fun n h1 h2 => by
      have w1 : IntKind.i32.wrap n = if 2147483648 ≤ n % 4294967296 then n % 4294967296 - 4294967296 else n % 4294967296 := by simp [IntKind.wrap, IntKind.bits, IntKind.signed]
      rw [w1]
      split <;> omega
    cases n with
    | ofNat m => have hl : m < 2147483648 := blt_lt hk; exact e (m : Int) (by omega) (by omega)
    | negSucc m => have hl : m < 2147483648 := blt_lt hk; exact e _ (by omega) (by omega)
  | i64 =>
    have e : ∀ n : Int, -9223372036854775808 ≤ n → n ≤ 9223372036854775807 → IntKind.i64.wrap n = n := fun n h1 h2 => by
      have w1 : IntKind.i64.wrap n = if 9223372036854775808 ≤ n % 18446744073709551616 then n % 18446744073709551616 - 18446744073709551616 else n % 18446744073709551616 := by simp [IntKind.wrap, IntKind.bits, IntKind.signed]
      rw [w1]
      split <;> omega
    cases n with
    | ofNat m => have hl : m < 9223372036854775808 := blt_lt hk; exact e (m : Int) (by omega) (by omega)
    | negSucc m => have hl : m < 9223372036854775808 := blt_lt hk; exact e _ (by omega) (by omega)
  | u8 =>
    cases n with
    | ofNat m =>
      have hl : m < 256 := blt_lt hk
      have w1 : IntKind.u8.wrap (m : Int) = (m : Int) % 256 := by simp [IntKind.wrap, IntKind.bits, IntKind.signed]
      show IntKind.u8.wrap (m : Int) = (m : Int)
      rw [w1]
      omega
    | negSucc m => have hl : m < 0 := blt_lt hk; omega
  | u16 =>
    cases n with
    | ofNat m =>
      have hl : m < 65536 := blt_lt hk
      have w1 : IntKind.u16.wrap (m : Int) = (m : Int) % 65536 := by simp [IntKind.wrap, IntKind.bits, IntKind.signed]
      show IntKind.u16.wrap (m : Int) = (m : Int)
      rw [w1]
      omega
    | negSucc m => have hl : m < 0 := blt_lt hk; omega
  | u32 =>
    cases n with
    | ofNat m =>
      have hl : m < 4294967296 := blt_lt hk
      have w1 : IntKind.u32.wrap (m : Int) = (m : Int) % 4294967296 := by simp [IntKind.wrap, IntKind.bits, IntKind.signed]
      show IntKind.u32.wrap (m : Int) = (m : Int)
      rw [w1]
      omega
    | negSucc m => have hl : m < 0 := blt_lt hk; omega
  | u64 =>
    cases n with
    | ofNat m =>
      have hl : m < 18446744073709551616 := blt_lt hk
      have w1 : IntKind.u64.wrap (m : Int) = (m : Int) % 18446744073709551616 := by simp [IntKind.wrap, IntKind.bits, IntKind.signed]
      show IntKind.u64.wrap (m : Int) = (m : Int)
      rw [w1]
      omega
    | negSucc m => have hl : m < 0 := blt_lt hk; omega
theorem mkI_some {k : Nat} {n : Int} (hk : mkI k n = some v) : inR k n = true ∧ v = vInt k n := by
  unfold mkI at hk
  rw [fI_eq] at hk
  obtain ⟨h1, h2⟩ := grd_some hk
  injection h2 with h2
  exact ⟨h1, h2.symm⟩
theorem wrapU_eq {k : IntKind} (h4 : 4 ≤ idx k) (n : Int) : wrapU (idx k) n = k.wrap n := by
  cases k with
  | i8 => exact absurd h4 (by decide)
  | i16 => exact absurd h4 (by decide)
  | i32 => exact absurd h4 (by decide)
  | i64 => exact absurd h4 (by decide)
  | u8 =>
    have w1 : IntKind.u8.wrap n = n % 256 := by simp [IntKind.wrap, IntKind.bits, IntKind.signed]
    rw [w1]
    cases n with
    | ofNat m => show ((m % 256 : Nat) : Int) = (m : Int) % 256; omega
    | negSucc m => show ((256 - (m % 256 + 1) : Nat) : Int) = Int.negSucc m % 256; omega
  | u16 =>
    have w1 : IntKind.u16.wrap n = n % 65536 := by simp [IntKind.wrap, IntKind.bits, IntKind.signed]
    rw [w1]
    cases n with
    | ofNat m => show ((m % 65536 : Nat) : Int) = (m : Int) % 65536; omega
    | negSucc m => show ((65536 - (m % 65536 + 1) : Nat) : Int) = Int.negSucc m % 65536; omega
  | u32 =>
    have w1 : IntKind.u32.wrap n = n % 4294967296 := by simp [IntKind.wrap, IntKind.bits, IntKind.signed]
    rw [w1]
    cases n with
    | ofNat m => show ((m % 4294967296 : Nat) : Int) = (m : Int) % 4294967296; omega
    | negSucc m => show ((4294967296 - (m % 4294967296 + 1) : Nat) : Int) = Int.negSucc m % 4294967296; omega
  | u64 =>
    have w1 : IntKind.u64.wrap n = n % 18446744073709551616 := by simp [IntKind.wrap, IntKind.bits, IntKind.signed]
    rw [w1]
    cases n with
    | ofNat m => show ((m % 18446744073709551616 : Nat) : Int) = (m : Int) % 18446744073709551616; omega
    | negSucc m => show ((18446744073709551616 - (m % 18446744073709551616 + 1) : Nat) : Int) = Int.negSucc m % 18446744073709551616; omega
theorem mkW_some {k : IntKind} {n : Int} (hk : mkW (idx k) n = some v) : v = vInt (idx k) (k.wrap n) := by
  unfold mkW at hk
  rw [fI_eq] at hk
  rcases ifB_some hk with ⟨h1, h2⟩ | ⟨h1, h2⟩
  · injection h2 with h2
    rw [inR_wrap h1]; exact h2.symm
  · obtain ⟨h3, h2⟩ := grd_some h2
    rw [fI_eq] at h2
    injection h2 with h2
    rw [← wrapU_eq (ble_le h3)]; exact h2.symm
theorem ok_neg {ty : TypeId} {x : Operand} {f : T → V} (ho : o.op = .unOp .neg ty x) (hc : cO nt x = some f) (hO : Opd ι nt t a o.op.operands) (hw : Wld ι D h w) (hr : opNeg f ih ro t h = some (v, h')) : Res1 P a o ι D h w v h' := by
  have v1 := hO x (by simp [ho, Op.operands]) f hc
  obtain ⟨ht, hr⟩ := onI_some hr
  obtain ⟨y, hm, hr⟩ := bnd_some hr
  injection hr with hr
  injection hr with e1 e2
  subst e1 e2
  obtain ⟨k, ek, e3, -⟩ := v1.int_inv ht
  rw [ek] at hm
  obtain rfl := mkW_some hm
  have hs : subI 0 (f t).n = 0 - (f t).n := by
    cases (f t).n with
    | ofNat m => show Int.subNatNat 0 m = _; rw [Int.subNatNat_eq_coe]; simp
    | negSucc m => rfl
  rw [hs]
  exact Res1.pure hw (v' := .int k (k.wrap (0 - (f t).n))) (by simp only [execOp, ho, e3, Op.unary, Op.intArith, Sem.run_bind, Sem.run_pure, Result.andThen_ok]) (.int k _)
theorem ok_conv {s d : TypeId} {k : IntKind} {x : Operand} {f : T → V} (ho : o.op = .convert s d x) (hsrc : ∃ q, P.underlying s = some q) (hd : P.underlying d = some (.int k)) (hc : cO nt x = some f) (hO : Opd ι nt t a o.op.operands) (hw : Wld ι D h w) (hr : opConv (idx k) f ih ro t h = some (v, h')) : Res1 P a o ι D h w v h' := by
  have v1 := hO x (by simp [ho, Op.operands]) f hc
  obtain ⟨ht, hr⟩ := onI_some hr
  obtain ⟨hR, hr⟩ := grd_some hr
  injection hr with hr
  injection hr with e1 e2
  subst e1 e2
  obtain ⟨q, -, e3, -⟩ := v1.int_inv ht
  obtain ⟨u, hu⟩ := hsrc
  refine Res1.pure hw (v' := .int k (f t).n) ?_ (.int k _)
  simp only [execOp, ho, e3, convert, Sem.run_bind, run_underlying hu, run_underlying hd, Result.andThen_ok]
  cases u <;> simp [Conv.intToInt, inR_wrap hR]
end Ev
end Go.Proofs.YtlbjnkopbabcnaaGreatDoor
end


section
namespace Go.Proofs.YtlbjnkopbabcnaaGreatDoor
namespace Ev
set_option linter.unusedVariables false
set_option linter.unusedSimpArgs false
variable {ι ι' : Im} {D : Nat → Prop} {h h' : Hp} {w w' : World} {P : Program} {t : T} {nt : Nat} {a : Act} {ih : Ih} {ro : Option Nat} {v : V} {o : Oper}
theorem int2I_eq {α : Type} {f : Nat → Nat → α} {g : Int → Int → α} (hfg : ∀ m n : Nat, f m n = g (m : Int) (n : Int)) (a b : Int) : int2I f g a b = g a b := by
  cases a with
  | ofNat m => cases b with
    | ofNat n => exact hfg m n
    | negSucc n => rfl
  | negSucc m => rfl
theorem addI_eq (a b : Int) : addI a b = a + b := int2I_eq (f := fun m n => Int.ofNat (Nat.add m n)) (g := fun a b => a + b) (fun m n => rfl) a b
theorem subI_eq (a b : Int) : subI a b = a - b := int2I_eq (fun m n => Int.subNatNat_eq_coe) a b
theorem mulI_eq (a b : Int) : mulI a b = a * b := int2I_eq (f := fun m n => Int.ofNat (Nat.mul m n)) (g := fun a b => a * b) (fun m n => rfl) a b
theorem quoI_eq (a b : Int) : quoI a b = a.tdiv b := int2I_eq (f := fun m n => Int.ofNat (Nat.div m n)) (g := fun a b => a.tdiv b) (fun m n => rfl) a b
theorem remI_eq (a b : Int) : remI a b = a.tmod b := int2I_eq (f := fun m n => Int.ofNat (Nat.mod m n)) (g := fun a b => a.tmod b) (fun m n => rfl) a b
theorem ltI_eq (a b : Int) : ltI a b = decide (a < b) := int2I_eq (fun m n => by
  rw [Bool.eq_iff_iff]
  constructor
  · intro e; have := blt_lt e; simpa using this
  · intro e; have e' : (m : Int) < n := by simpa using e
    exact Nat.ble_eq_true_of_le (by omega)) a b
theorem eqI_eq (a b : Int) : eqI a b = decide (a = b) := int2I_eq (fun m n => by
  rw [Bool.eq_iff_iff]
  constructor
  · intro e; have := beq_eq e; subst this; simp
  · intro e; have e' : (m : Int) = n := by simpa using e
    have : m = n := by omega
    subst this; simp) a b
theorem idx_inj {k q : IntKind} (e : idx k = idx q) : k = q := by cases k <;> cases q <;> first | rfl | (exact absurd e (by decide))
/-- two numbers of a kind -/
theorem int2_inv {r : Nat → Int → Int → Option V} {x y : Operand} {f g : T → V} (h1 : cO nt x = some f) (h2 : cO nt y = some g) (hx : x ∈ o.op.operands) (hy : y ∈ o.op.operands) (hO : Opd ι nt t a o.op.operands) (hr : int2 r f g ih ro t h = some (v, h')) :
    ∃ (k : IntKind) (m n : Int), a.eval x = .int k m ∧ a.eval y = .int k n ∧ r (idx k) m n = some v ∧ h' = h := by
  have v1 := hO x hx f h1
  have v2 := hO y hy g h2
  obtain ⟨t1, hr⟩ := onI_some hr
  obtain ⟨t2, hr⟩ := onI_some hr
  obtain ⟨hk, hr⟩ := grd_some hr
  obtain ⟨u, hm, hr⟩ := bnd_some hr
  injection hr with hr
  injection hr with e1 e2
  subst e1 e2
  obtain ⟨k, ek, e3, -⟩ := v1.int_inv t1
  obtain ⟨q, eq, e4, -⟩ := v2.int_inv t2
  have hkk := beq_eq hk
  rw [ek, eq] at hkk
  obtain rfl := idx_inj hkk
  rw [ek] at hm
  exact ⟨_, _, _, e3, e4, hm, rfl⟩
theorem ok_arith {op : BinOp} {ty ty2 : TypeId} {x y : Operand} {f g : T → V} {F : Int → Int → Int} (ho : o.op = .binOp op ty x y ty2)
    (hop : (op = .add ∧ F = fun a b => a + b) ∨ (op = .sub ∧ F = fun a b => a - b) ∨ (op = .mul ∧ F = fun a b => a * b))
    (h1 : cO nt x = some f) (h2 : cO nt y = some g) (hO : Opd ι nt t a o.op.operands) (hw : Wld ι D h w) (hr : int2 (fun k a b => mkW k (F a b)) f g ih ro t h = some (v, h')) : Res1 P a o ι D h w v h' := by
  obtain ⟨k, m, n, e1, e2, hm, rfl⟩ := int2_inv h1 h2 (by simp [ho, Op.operands]) (by simp [ho, Op.operands]) hO hr
  obtain rfl := mkW_some hm
  refine Res1.pure hw (v' := .int k (k.wrap (F m n))) ?_ (.int k _)
  rcases hop with ⟨rfl, rfl⟩ | ⟨rfl, rfl⟩ | ⟨rfl, rfl⟩ <;>
    simp only [execOp, ho, e1, e2, eqGuard, binOp, Op.intArith, ne_eq, not_true, if_false, Sem.run_bind, Sem.run_pure, Result.andThen_ok] <;> rfl
theorem ok_div {op : BinOp} {ty ty2 : TypeId} {x y : Operand} {f g : T → V} {F : Int → Int → Int} (ho : o.op = .binOp op ty x y ty2)
    (hop : (op = .quo ∧ F = fun a b => a.tdiv b) ∨ (op = .rem ∧ F = fun a b => a.tmod b))
    (h1 : cO nt x = some f) (h2 : cO nt y = some g) (hO : Opd ι nt t a o.op.operands) (hw : Wld ι D h w) (hr : int2 (fun k a b => grd (!eqI b 0) (mkI k (F a b))) f g ih ro t h = some (v, h')) : Res1 P a o ι D h w v h' := by
  obtain ⟨k, m, n, e1, e2, hm, rfl⟩ := int2_inv h1 h2 (by simp [ho, Op.operands]) (by simp [ho, Op.operands]) hO hr
  obtain ⟨hz, hm⟩ := grd_some hm
  obtain ⟨hR, rfl⟩ := mkI_some hm
  have hn : ¬ n = 0 := by rw [eqI_eq] at hz; simpa using hz
  refine Res1.pure hw (v' := .int k (F m n)) ?_ (.int k _)
  rcases hop with ⟨rfl, rfl⟩ | ⟨rfl, rfl⟩
  · simp only [execOp, ho, e1, e2, eqGuard, binOp, Op.intDiv, hn, ne_eq, not_true, if_false, Sem.run_bind, Sem.run_pure, Result.andThen_ok, inR_wrap hR]; rfl
  · simp only [execOp, ho, e1, e2, eqGuard, binOp, Op.intDiv, hn, ne_eq, not_true, if_false, Sem.run_bind, Sem.run_pure, Result.andThen_ok]; rfl
theorem ok_cmp {op : BinOp} {ty ty2 : TypeId} {x y : Operand} {f g : T → V} {F : Int → Int → Bool} (ho : o.op = .binOp op ty x y ty2)
    (hop : (op = .lss ∧ F = fun a b => ltI a b) ∨ (op = .gtr ∧ F = fun a b => ltI b a) ∨ (op = .leq ∧ F = fun a b => !ltI b a) ∨ (op = .geq ∧ F = fun a b => !ltI a b) ∨ (op = .eql ∧ F = fun a b => ifB false (!eqI a b) (eqI a b)) ∨ (op = .neq ∧ F = fun a b => ifB true (!eqI a b) (eqI a b)))
    (h1 : cO nt x = some f) (h2 : cO nt y = some g) (hO : Opd ι nt t a o.op.operands) (hw : Wld ι D h w) (hr : int2 (fun _ a b => some (vBool (F a b))) f g ih ro t h = some (v, h')) : Res1 P a o ι D h w v h' := by
  obtain ⟨k, m, n, e1, e2, hm, rfl⟩ := int2_inv h1 h2 (by simp [ho, Op.operands]) (by simp [ho, Op.operands]) hO hr
  injection hm with hm
  subst hm
  refine Res1.pure hw (v' := .bool (F m n)) ?_ (.bool _)
  rcases hop with ⟨rfl, rfl⟩ | ⟨rfl, rfl⟩ | ⟨rfl, rfl⟩ | ⟨rfl, rfl⟩ | ⟨rfl, rfl⟩ | ⟨rfl, rfl⟩ <;>
    simp only [execOp, ho, e1, e2, eqGuard, binOp, Op.intCmp, ne_eq, not_true, if_false, Sem.run_bind, Sem.run_pure, Result.andThen_ok, ltI_eq, eqI_eq, ifB_eq]
  · rfl
  · rfl
  · show Result.ok (Next.value (Value.bool (decide (m ≤ n)))) w = _
    congr 3
    rw [Bool.eq_iff_iff]; simp
  · show Result.ok (Next.value (Value.bool (decide (m ≥ n)))) w = _
    congr 3
    rw [Bool.eq_iff_iff]; simp
  · show Result.ok (Next.value (Value.bool (m == n))) w = _
    congr 3
  · show Result.ok (Next.value (Value.bool (m != n))) w = _
    congr 3
theorem shO_inv {r : Nat → Nat → Nat → Option V} {x y : Operand} {f g : T → V} (h1 : cO nt x = some f) (h2 : cO nt y = some g) (hx : x ∈ o.op.operands) (hy : y ∈ o.op.operands) (hO : Opd ι nt t a o.op.operands) (hr : shO r f g ih ro t h = some (v, h')) :
    ∃ (k q : IntKind) (m n : Nat), a.eval x = .int k m ∧ a.eval y = .int q n ∧ r (idx k) m n = some v ∧ h' = h := by
  have v1 := hO x hx f h1
  have v2 := hO y hy g h2
  obtain ⟨t1, hr⟩ := onI_some hr
  obtain ⟨t2, hr⟩ := onI_some hr
  obtain ⟨m, em, hr⟩ := onN_some hr
  obtain ⟨n, en, hr⟩ := onN_some hr
  obtain ⟨u, hm, hr⟩ := bnd_some hr
  injection hr with hr
  injection hr with e1 e2
  subst e1 e2
  obtain ⟨k, ek, e3, -⟩ := v1.int_inv t1
  obtain ⟨q, eq, e4, -⟩ := v2.int_inv t2
  rw [ek] at hm
  rw [em] at e3
  rw [en] at e4
  exact ⟨k, q, m, n, e3, e4, hm, rfl⟩
theorem kbits_eq (k : IntKind) : kbits (idx k) = k.bits := by cases k <;> rfl
theorem shf_eq (k : IntKind) (n : Nat) : shf (idx k) n = min n k.bits := by
  unfold shf
  rw [kbits_eq, ifB_eq]
  split
  · rename_i e; have := ble_le e; omega
  · rename_i e
    have : ¬ n ≤ k.bits := fun c => e (Nat.ble_eq_true_of_le c)
    omega
theorem ok_shift {op : BinOp} {ty ty2 : TypeId} {x y : Operand} {f g : T → V} {F : Nat → Nat → Nat → Int} (ho : o.op = .binOp op ty x y ty2)
    (hop : (op = .shr ∧ F = fun k x n => .ofNat (Nat.div x (Nat.pow 2 (shf k n)))) ∨ (op = .shl ∧ F = fun k x n => .ofNat (Nat.mul x (Nat.pow 2 (shf k n)))))
    (h1 : cO nt x = some f) (h2 : cO nt y = some g) (hO : Opd ι nt t a o.op.operands) (hw : Wld ι D h w) (hr : shO (fun k x n => mkI k (F k x n)) f g ih ro t h = some (v, h')) : Res1 P a o ι D h w v h' := by
  obtain ⟨k, q, m, n, e1, e2, hm, rfl⟩ := shO_inv h1 h2 (by simp [ho, Op.operands]) (by simp [ho, Op.operands]) hO hr
  obtain ⟨hR, rfl⟩ := mkI_some hm
  refine Res1.pure hw (v' := .int k (F (idx k) m n)) ?_ (.int k _)
  have hnn : ¬ ((n : Int) < 0) := by omega
  rcases hop with ⟨rfl, rfl⟩ | ⟨rfl, rfl⟩
  · simp only [execOp, ho, e1, e2, eqGuard, binOp, Op.shift, hnn, if_false, Sem.run_bind, Sem.run_pure, Result.andThen_ok]
    show Result.ok (Next.value (Value.int k (Int.fdiv (m : Int) (2 ^ (min (n : Int).toNat k.bits))))) w = _
    rw [shf_eq, Int.toNat_natCast]
    congr 3
    show Int.fdiv (m : Int) (2 ^ (min n k.bits)) = ((m / 2 ^ (min n k.bits) : Nat) : Int)
    rw [Int.fdiv_eq_ediv_of_nonneg _ (by exact_mod_cast Nat.zero_le _)]
    push_cast
    rfl
  · simp only [execOp, ho, e1, e2, eqGuard, binOp, Op.shift, hnn, if_false, Sem.run_bind, Sem.run_pure, Result.andThen_ok]
    show Result.ok (Next.value (Value.int k (k.wrap ((m : Int) * (2 ^ (min (n : Int).toNat k.bits)))))) w = _
    have e : ((m : Int) * (2 ^ (min (n : Int).toNat k.bits))) = Int.ofNat (Nat.mul m (Nat.pow 2 (shf (idx k) n))) := by
      rw [shf_eq, Int.toNat_natCast]
      show _ = ((m * 2 ^ (min n k.bits) : Nat) : Int)
      push_cast
      rfl
    rw [e, inR_wrap hR]
theorem ok_shl {ty ty2 : TypeId} {x y : Operand} {f g : T → V} (ho : o.op = .binOp .shl ty x y ty2)
    (h1 : cO nt x = some f) (h2 : cO nt y = some g) (hO : Opd ι nt t a o.op.operands) (hw : Wld ι D h w) (hr : shO (fun k x n => mkW k (.ofNat (Nat.mul x (Nat.pow 2 (shf k n))))) f g ih ro t h = some (v, h')) : Res1 P a o ι D h w v h' := by
  obtain ⟨k, q, m, n, e1, e2, hm, rfl⟩ := shO_inv h1 h2 (by simp [ho, Op.operands]) (by simp [ho, Op.operands]) hO hr
  obtain rfl := mkW_some hm
  refine Res1.pure hw (v' := .int k (k.wrap (.ofNat (Nat.mul m (Nat.pow 2 (shf (idx k) n)))))) ?_ (.int k _)
  have hnn : ¬ ((n : Int) < 0) := by omega
  simp only [execOp, ho, e1, e2, eqGuard, binOp, Op.shift, hnn, if_false, Sem.run_bind, Sem.run_pure, Result.andThen_ok]
  show Result.ok (Next.value (Value.int k (k.wrap ((m : Int) * (2 ^ (min (n : Int).toNat k.bits)))))) w = _
  have e : ((m : Int) * (2 ^ (min (n : Int).toNat k.bits))) = Int.ofNat (Nat.mul m (Nat.pow 2 (shf (idx k) n))) := by
    rw [shf_eq, Int.toNat_natCast]
    show _ = ((m * 2 ^ (min n k.bits) : Nat) : Int)
    push_cast
    rfl
  rw [e]
theorem un_lim {k : IntKind} {m : Nat} (h : inR (idx k) (m : Int) = true) : m < 2 ^ k.bits := by
  have h : Nat.blt m (lim (idx k)) = true := h
  have := blt_lt h
  cases k <;> exact Nat.lt_of_lt_of_le this (by decide)
theorem ofInt_nat {k : IntKind} {m : Nat} (h : m < 2 ^ k.bits) : (BitVec.ofInt k.bits (m : Int)).toNat = m := by
  rw [BitVec.ofInt_natCast, BitVec.toNat_ofNat, Nat.mod_eq_of_lt h]
theorem and_not {w : Nat} (a b : BitVec w) : a &&& ~~~b = a ^^^ (a &&& b) := by
  apply BitVec.eq_of_getLsbD_eq
  intro i hi
  simp only [BitVec.getLsbD_and, BitVec.getLsbD_not, BitVec.getLsbD_xor, hi, decide_true, Bool.true_and]
  cases a.getLsbD i <;> cases b.getLsbD i <;> rfl
theorem ok_bits {op : BinOp} {ty ty2 : TypeId} {x y : Operand} {f g : T → V} {R : Nat → Nat → Nat} (ho : o.op = .binOp op ty x y ty2)
    (hop : (op = .and ∧ R = Nat.land) ∨ (op = .or ∧ R = Nat.lor) ∨ (op = .andNot ∧ R = fun m n => Nat.xor m (Nat.land m n)))
    (h1 : cO nt x = some f) (h2 : cO nt y = some g) (hO : Opd ι nt t a o.op.operands) (hw : Wld ι D h w) (hr : int2 (bitsI R) f g ih ro t h = some (v, h')) : Res1 P a o ι D h w v h' := by
  obtain ⟨k, m', n', e1, e2, hm, rfl⟩ := int2_inv h1 h2 (by simp [ho, Op.operands]) (by simp [ho, Op.operands]) hO hr
  obtain ⟨m, rfl, hm⟩ := onN_some hm
  obtain ⟨n, rfl, hm⟩ := onN_some hm
  obtain ⟨hc, hm⟩ := grd_some hm
  obtain ⟨c1, c2⟩ := ifB_and hc
  have b1 := un_lim c1
  have b2 := un_lim c2
  obtain ⟨hR, rfl⟩ := mkI_some hm
  refine Res1.pure hw (v' := .int k (Int.ofNat (R m n))) ?_ (.int k _)
  have key : ∀ q : BitVec k.bits, q.toNat = R m n → k.wrap (q.toNat : Int) = Int.ofNat (R m n) := fun q e => by rw [e]; exact inR_wrap hR
  rcases hop with ⟨rfl, rfl⟩ | ⟨rfl, rfl⟩ | ⟨rfl, rfl⟩
  · have e := key (BitVec.ofInt k.bits (m : Int) &&& BitVec.ofInt k.bits (n : Int)) (by rw [BitVec.toNat_and, ofInt_nat b1, ofInt_nat b2]; rfl)
    simp only [execOp, ho, e1, e2, eqGuard, binOp, Op.intBits, ne_eq, not_true, if_false, Sem.run_bind, Sem.run_pure, Result.andThen_ok, e]; rfl
  · have e := key (BitVec.ofInt k.bits (m : Int) ||| BitVec.ofInt k.bits (n : Int)) (by rw [BitVec.toNat_or, ofInt_nat b1, ofInt_nat b2]; rfl)
    simp only [execOp, ho, e1, e2, eqGuard, binOp, Op.intBits, ne_eq, not_true, if_false, Sem.run_bind, Sem.run_pure, Result.andThen_ok, e]; rfl
  · have e := key (BitVec.ofInt k.bits (m : Int) &&& ~~~ BitVec.ofInt k.bits (n : Int)) (by rw [and_not, BitVec.toNat_xor, BitVec.toNat_and, ofInt_nat b1, ofInt_nat b2]; rfl)
    simp only [execOp, ho, e1, e2, eqGuard, binOp, Op.intBits, ne_eq, not_true, if_false, Sem.run_bind, Sem.run_pure, Result.andThen_ok, e]; rfl
end Ev
end Go.Proofs.YtlbjnkopbabcnaaGreatDoor
end


section
namespace Go.Proofs.YtlbjnkopbabcnaaGreatDoor
namespace Ev
set_option linter.unusedVariables false
set_option linter.unusedSimpArgs false
variable {ι ι' : Im} {D : Nat → Prop} {h h' : Hp} {w w' : World} {P : Program} {t : T} {nt : Nat} {a : Act} {ih : Ih} {ro : Option Nat} {v : V} {o : Oper}
theorem add_addr (b o n : Nat) : (⟨b, o, none⟩ : Addr).add n = ⟨b, o + n, none⟩ := by
  unfold Addr.add
  split
  · rename_i e; subst e; rfl
  · rfl
theorem cells_info {ty : TypeId} (hz : P.cellsOf ty ≠ 0) : ∃ i, P.info? ty = some i := by
  unfold Program.cellsOf at hz
  cases hi : P.info? ty with
  | none => rw [hi] at hz; exact absurd rfl hz
  | some i => exact ⟨i, rfl⟩
theorem ok_fieldA {s : TypeId} {x : Operand} {i : Nat} {fs : Array Field} {fd : Field} {f : T → V} (ho : o.op = .fieldAddr s x i) (hu : P.underlying s = some (.struct fs)) (hf : fs[i]? = some fd) (hz : Nat.beq (P.cellsOf fd.type) 0 = false)
    (hc : cO nt x = some f) (hO : Opd ι nt t a o.op.operands) (hw : Wld ι D h w) (hr : opFieldA fd.offset f ih ro t h = some (v, h')) : Res1 P a o ι D h w v h' := by
  have v1 := hO x (by simp [ho, Op.operands]) f hc
  obtain ⟨ht, hr⟩ := onPtr_some hr
  injection hr with hr
  injection hr with e1 e2
  subst e1 e2
  obtain ⟨b', hb', e3⟩ := v1.ptr_inv ht
  have hne := not_beq hz
  obtain ⟨j, hj⟩ := cells_info hne
  refine Res1.pure hw (v' := .pointer (some ⟨b', (f t).b + fd.offset, none⟩)) ?_ (.ptr _ hb')
  simp [execOp, ho, e3, Instr.fieldAt, run_underlying hu, hf, Instr.sureAddr, fieldPlace, run_size hj, hne, add_addr]
theorem run_part_agg {ty : TypeId} {i : TypeInfo} {xs : List Value} {off : Nat} (hb : aggT P ty = some true) (hi : P.info? ty = some i) (w : World) : (part ty ⟨xs⟩ off).run P w = .ok (.agg ⟨(xs.drop off).take (P.cellsOf ty)⟩) w := by
  simp only [part, Sem.run_bind, aggT_some hb, Result.andThen_ok, if_true, run_size hi, Sem.run_pure]
  congr 2
  apply Array.toList_inj.1
  simp [List.extract_eq_take_drop]
theorem run_part_one {ty : TypeId} {xs : List Value} {off : Nat} {u : Value} (hb : aggT P ty = some false) (hu : xs[off]? = some u) (w : World) : (part ty ⟨xs⟩ off).run P w = .ok u w := by
  have : (⟨xs⟩ : Array Value)[off]? = some u := by simpa using hu
  simp only [part, Sem.run_bind, aggT_some hb, Result.andThen_ok, Bool.false_eq_true, if_false, this, Sem.run_pure]
theorem hd_drop {xs : L} {vs : List Value} {n : Nat} {x : V} {r : L} (hx : CR ι xs vs) (e : xs.drop n = x :: r) : ∃ u, vs[n]? = some u ∧ VR ι x u := by
  obtain ⟨u, us, hu, -, hv, -⟩ := (hx.drop n).hd e
  refine ⟨u, ?_, hv⟩
  have := congrArg List.head? hu
  simpa [List.head?_drop] using this
theorem ok_field {s : TypeId} {x : Operand} {i : Nat} {fs : Array Field} {fd : Field} {f : T → V} (ho : o.op = .field s x i) (hu : P.underlying s = some (.struct fs)) (hf : fs[i]? = some fd) (hb : aggT P fd.type = some false)
    (hc : cO nt x = some f) (hO : Opd ι nt t a o.op.operands) (hw : Wld ι D h w) (hr : opField fd.offset f ih ro t h = some (v, h')) : Res1 P a o ι D h w v h' := by
  have v1 := hO x (by simp [ho, Op.operands]) f hc
  obtain ⟨ht, hr⟩ := onAgg_some hr
  obtain ⟨y, ys, hy, hr⟩ := onCons_some hr
  injection hr with hr
  injection hr with e1 e2
  subst e1 e2
  obtain ⟨xs, hx, e3⟩ := v1.agg_inv ht
  rw [vdrop_eq] at hy
  obtain ⟨u, hu', hv⟩ := hd_drop hx hy
  refine Res1.pure hw (v' := u) ?_ hv
  simp [execOp, ho, e3, Instr.field, run_underlying hu, hf, asAgg, run_part_one hb hu']
theorem ok_fieldG {s : TypeId} {x : Operand} {i : Nat} {fs : Array Field} {fd : Field} {f : T → V} (ho : o.op = .field s x i) (hu : P.underlying s = some (.struct fs)) (hf : fs[i]? = some fd) (hb : aggT P fd.type = some true)
    (hc : cO nt x = some f) (hO : Opd ι nt t a o.op.operands) (hw : Wld ι D h w) (hr : opFieldG fd.offset (P.cellsOf fd.type) f ih ro t h = some (v, h')) : Res1 P a o ι D h w v h' := by
  have v1 := hO x (by simp [ho, Op.operands]) f hc
  obtain ⟨ht, hr⟩ := onAgg_some hr
  obtain ⟨y, hy, hr⟩ := bnd_some hr
  injection hr with hr
  injection hr with e1 e2
  subst e1 e2
  obtain ⟨xs, hx, e3⟩ := v1.agg_inv ht
  obtain ⟨rfl, hl⟩ := vtake_some hy
  rw [vdrop_eq]
  obtain ⟨j, hj⟩ := aggT_info hb
  refine Res1.pure hw (v' := .agg ⟨(xs.drop fd.offset).take (P.cellsOf fd.type)⟩) ?_ (.agg ((hx.drop _).take _))
  simp [execOp, ho, e3, Instr.field, run_underlying hu, hf, asAgg, run_part_agg hb hj]
theorem ok_idxS {ty e : TypeId} {x y : Operand} {f g : T → V} (ho : o.op = .indexAddr ty x y) (hu : P.underlying ty = some (.slice e)) (hi : ∃ i, P.info? e = some i)
    (h1 : cO nt x = some f) (h2 : cO nt y = some g) (hO : Opd ι nt t a o.op.operands) (hw : Wld ι D h w) (hr : opIdxS (P.cellsOf e) f g ih ro t h = some (v, h')) : Res1 P a o ι D h w v h' := by
  have v1 := hO x (by simp [ho, Op.operands]) f h1
  have v2 := hO y (by simp [ho, Op.operands]) g h2
  obtain ⟨i, hi⟩ := hi
  obtain ⟨t2, hr⟩ := onI_some hr
  obtain ⟨m, em, hr⟩ := onN_some hr
  obtain ⟨k, ek, e4, -⟩ := v2.int_inv t2
  rw [em] at e4
  rcases onSl_some hr with ⟨t1, hr⟩ | ⟨t1, hr⟩ | ⟨t1, hr⟩
  · obtain ⟨hl, hr⟩ := grd_some hr
    injection hr with hr
    injection hr with e1 e2
    subst e1 e2
    obtain ⟨b', hb', e3⟩ := v1.sl_inv t1
    have hlt := blt_lt hl
    refine Res1.pure hw (v' := .pointer (some ⟨b', (f t).b + m * P.cellsOf e, none⟩)) ?_ (.ptr _ hb')
    simp [execOp, ho, e3, e4, Instr.indexAt, asIntOf, run_underlying hu, run_size hi, hlt, add_addr]
  · obtain ⟨hl, hr⟩ := grd_some hr
    injection hr with hr
    injection hr with e1 e2
    subst e1 e2
    obtain ⟨b', c', hb', hcc, e3, -⟩ := v1.slu_inv t1
    have hlt := blt_lt hl
    refine Res1.pure hw (v' := .pointer (some ⟨b', (f t).b + m * P.cellsOf e, none⟩)) ?_ (.ptr _ hb')
    simp [execOp, ho, e3, e4, Instr.indexAt, asIntOf, run_underlying hu, run_size hi, hlt, add_addr]
  · cases hr
theorem ok_idxA {ty e : TypeId} {n : Nat} {x y : Operand} {f g : T → V} (ho : o.op = .indexAddr ty x y) (hu : P.underlying ty = some (.array n e)) (hi : ∃ i, P.info? e = some i)
    (h1 : cO nt x = some f) (h2 : cO nt y = some g) (hO : Opd ι nt t a o.op.operands) (hw : Wld ι D h w) (hr : opIdxA n (P.cellsOf e) f g ih ro t h = some (v, h')) : Res1 P a o ι D h w v h' := by
  have v1 := hO x (by simp [ho, Op.operands]) f h1
  have v2 := hO y (by simp [ho, Op.operands]) g h2
  obtain ⟨i, hi⟩ := hi
  obtain ⟨t2, hr⟩ := onI_some hr
  obtain ⟨m, em, hr⟩ := onN_some hr
  obtain ⟨k, ek, e4, -⟩ := v2.int_inv t2
  rw [em] at e4
  obtain ⟨hl, hr⟩ := grd_some hr
  obtain ⟨t1, hr⟩ := onPtr_some hr
  injection hr with hr
  injection hr with e1 e2
  subst e1 e2
  obtain ⟨b', hb', e3⟩ := v1.ptr_inv t1
  have hlt := blt_lt hl
  refine Res1.pure hw (v' := .pointer (some ⟨b', (f t).b + m * P.cellsOf e, none⟩)) ?_ (.ptr _ hb')
  simp [execOp, ho, e3, e4, Instr.indexAt, asIntOf, run_underlying hu, Instr.sureAddr, run_size hi, hlt, add_addr]
theorem ok_index {ty e : TypeId} {n : Nat} {x y : Operand} {f g : T → V} (ho : o.op = .index ty x y) (hu : P.underlying ty = some (.array n e)) (hi : ∃ i, P.info? e = some i) (hb : aggT P e = some false) (hz : P.cellsOf e = 1)
    (h1 : cO nt x = some f) (h2 : cO nt y = some g) (hO : Opd ι nt t a o.op.operands) (hw : Wld ι D h w) (hr : opIndex n f g ih ro t h = some (v, h')) : Res1 P a o ι D h w v h' := by
  have v1 := hO x (by simp [ho, Op.operands]) f h1
  have v2 := hO y (by simp [ho, Op.operands]) g h2
  obtain ⟨i, hi⟩ := hi
  obtain ⟨t2, hr⟩ := onI_some hr
  obtain ⟨m, em, hr⟩ := onN_some hr
  obtain ⟨k, ek, e4, -⟩ := v2.int_inv t2
  rw [em] at e4
  obtain ⟨hl, hr⟩ := grd_some hr
  obtain ⟨t1, hr⟩ := onAgg_some hr
  obtain ⟨q, qs, hq, hr⟩ := onCons_some hr
  injection hr with hr
  injection hr with e1 e2
  subst e1 e2
  obtain ⟨xs, hx, e3⟩ := v1.agg_inv t1
  rw [vdrop_eq] at hq
  obtain ⟨u, hu', hv⟩ := hd_drop hx hq
  have hlt := blt_lt hl
  refine Res1.pure hw (v' := u) ?_ hv
  simp [execOp, ho, e3, e4, Instr.index, asIntOf, run_underlying hu, run_size hi, hz, hlt, run_part_one hb hu']
theorem ok_indexG {ty e : TypeId} {n : Nat} {x y : Operand} {f g : T → V} (ho : o.op = .index ty x y) (hu : P.underlying ty = some (.array n e)) (hb : aggT P e = some true)
    (h1 : cO nt x = some f) (h2 : cO nt y = some g) (hO : Opd ι nt t a o.op.operands) (hw : Wld ι D h w) (hr : opIndexG n (P.cellsOf e) f g ih ro t h = some (v, h')) : Res1 P a o ι D h w v h' := by
  have v1 := hO x (by simp [ho, Op.operands]) f h1
  have v2 := hO y (by simp [ho, Op.operands]) g h2
  obtain ⟨i, hi⟩ := aggT_info hb
  obtain ⟨t2, hr⟩ := onI_some hr
  obtain ⟨m, em, hr⟩ := onN_some hr
  obtain ⟨k, ek, e4, -⟩ := v2.int_inv t2
  rw [em] at e4
  obtain ⟨hl, hr⟩ := grd_some hr
  obtain ⟨t1, hr⟩ := onAgg_some hr
  obtain ⟨q, hq, hr⟩ := bnd_some hr
  injection hr with hr
  injection hr with e1 e2
  subst e1 e2
  obtain ⟨xs, hx, e3⟩ := v1.agg_inv t1
  obtain ⟨rfl, hl2⟩ := vtake_some hq
  rw [vdrop_eq]
  have hlt := blt_lt hl
  refine Res1.pure hw (v' := .agg ⟨(xs.drop (m * P.cellsOf e)).take (P.cellsOf e)⟩) ?_ (.agg ((hx.drop _).take _))
  simp [execOp, ho, e3, e4, Instr.index, asIntOf, run_underlying hu, run_size hi, hlt, run_part_agg hb hi]
theorem ok_ext {x : Operand} {i : Nat} {f : T → V} (ho : o.op = .extract x i) (hc : cO nt x = some f) (hO : Opd ι nt t a o.op.operands) (hw : Wld ι D h w) (hr : opExt i f ih ro t h = some (v, h')) : Res1 P a o ι D h w v h' := by
  have v1 := hO x (by simp [ho, Op.operands]) f hc
  obtain ⟨ht, hr⟩ := onTup_some hr
  obtain ⟨y, ys, hy, hr⟩ := onCons_some hr
  injection hr with hr
  injection hr with e1 e2
  subst e1 e2
  obtain ⟨xs, hx, e3⟩ := v1.tup_inv ht
  rw [vdrop_eq] at hy
  obtain ⟨u, us, hu, hv, -⟩ := (hx.drop i).hd hy
  have hu' : (⟨xs⟩ : Array Value)[i]? = some u := by
    have := congrArg List.head? hu
    simpa [List.head?_drop] using this
  refine Res1.pure hw (v' := u) ?_ hv
  simp [execOp, ho, e3, Instr.extract, hu']
theorem vals_ok : ∀ {xs : List Operand} {fs : List (T → V)}, cOs nt xs = some fs → (∀ x ∈ xs, ∀ f, cO nt x = some f → VR ι (f t) (a.eval x)) → LR ι (vals fs t) (xs.map a.eval)
  | [], fs, hc, _ => by injection hc with hc; subst hc; exact .nil
  | x :: xs, fs, hc, hO => by
    obtain ⟨f, h1, hc⟩ := bnd_some hc
    obtain ⟨r, h2, hc⟩ := bnd_some hc
    injection hc with hc
    subst hc
    exact .cons (hO x List.mem_cons_self f h1) (vals_ok h2 fun y hy => hO y (List.mem_cons_of_mem _ hy))
theorem ok_fn {n : Nat} {fs cs : Array Operand} {l1 l2 : List (T → V)} (ho : o.op = .makeFunc (.func n) fs cs) (h1 : cOs nt fs.toList = some l1) (h2 : cOs nt cs.toList = some l2) (hO : Opd ι nt t a o.op.operands) (hw : Wld ι D h w) (hr : opFn n l1 l2 ih ro t h = some (v, h')) : Res1 P a o ι D h w v h' := by
  injection hr with hr
  injection hr with e1 e2
  subst e1 e2
  have q1 := vals_ok (t := t) (a := a) (ι := ι) h1 (fun x hx => hO x (by simp [ho, Op.operands]; exact .inl (by simpa using hx)))
  have q2 := vals_ok (t := t) (a := a) (ι := ι) h2 (fun x hx => hO x (by simp [ho, Op.operands]; exact .inr (by simpa using hx)))
  refine Res1.pure hw (v' := .func (.func n) ⟨fs.toList.map a.eval⟩ ⟨cs.toList.map a.eval⟩) ?_ (.fn n q1 q2)
  simp only [execOp, ho, Instr.makeFunc, Sem.run_bind, Sem.run_pure, Result.andThen_ok]
  congr 3 <;> (apply Array.toList_inj.1; simp)
end Ev
end Go.Proofs.YtlbjnkopbabcnaaGreatDoor
end


section
namespace Go.Proofs.YtlbjnkopbabcnaaGreatDoor
namespace Ev
set_option linter.unusedVariables false
set_option linter.unusedSimpArgs false
variable {ι ι' : Im} {D : Nat → Prop} {h h' : Hp} {w w' : World} {P : Program} {t : T} {nt : Nat} {a : Act} {ih : Ih} {ro : Option Nat} {v : V} {o : Oper}
/-- a slice: its address, length and capacity -/
theorem VR.slice_inv {x : V} {u : Value} (hx : VR ι x u) (ht : x.tg = 5 ∨ x.tg = 6 ∨ x.tg = 4) : ∃ b c, u = .slice b (if x.tg = 4 then 0 else x.c) c ∧ ((x.tg = 5 ∧ c = x.d ∧ ∃ b', ι x.a = some b' ∧ b = some ⟨b', x.b, none⟩) ∨ (x.tg = 6 ∧ x.c ≤ c ∧ ∃ b', ι x.a = some b' ∧ b = some ⟨b', x.b, none⟩) ∨ (x.tg = 4 ∧ c = 0 ∧ b = none)) := by
  rcases ht with ht | ht | ht
  · obtain ⟨b', hb, e⟩ := hx.sl_inv ht
    exact ⟨_, _, by rw [e, if_neg (by omega)], .inl ⟨ht, rfl, b', hb, rfl⟩⟩
  · obtain ⟨b', c', hb, hc, e, -⟩ := hx.slu_inv ht
    exact ⟨_, _, by rw [e, if_neg (by omega)], .inr (.inl ⟨ht, hc, b', hb, rfl⟩)⟩
  · obtain ⟨e, -⟩ := hx.nils_inv ht
    exact ⟨_, _, by rw [e, if_pos ht], .inr (.inr ⟨ht, rfl, rfl⟩)⟩
theorem slen_some {α : Type} {x : V} {k : Nat → Option α} {r : α} (hk : slen x k = some r) : (x.tg = 5 ∨ x.tg = 6 ∨ x.tg = 4) ∧ k (if x.tg = 4 then 0 else x.c) = some r := by
  rcases onSl_some hk with ⟨ht, hk⟩ | ⟨ht, hk⟩ | ⟨ht, hk⟩
  · exact ⟨.inl ht, by rw [if_neg (by omega)]; exact hk⟩
  · exact ⟨.inr (.inl ht), by rw [if_neg (by omega)]; exact hk⟩
  · exact ⟨.inr (.inr ht), by rw [if_pos ht]; exact hk⟩
section
variable {x y : Operand} {f g : T → V} {ats : Array TypeId} {ty : TypeId}
theorem ok_len {e : TypeId} {tys : List TypeId} (ho : o.op = .call { callee := .builtin .len, args := #[x], argTypes := ats }) (ha : ats.toList = ty :: tys) (hu : P.underlying ty = some (.slice e)) (hc : cO nt x = some f) (hO : Opd ι nt t a o.op.operands) (hw : Wld ι D h w) (hr : opLen f ih ro t h = some (v, h')) : Res1 P a o ι D h w v h' := by
  have v1 := hO x (by simp [ho, Op.operands, Call.operands]) f hc
  have ha0 : ats[0]? = some ty := by rw [← Array.getElem?_toList, ha]; rfl
  rcases ifB_some hr with ⟨h15, hr⟩ | ⟨_, hr⟩
  · injection hr with hr
    injection hr with e1 e2
    subst e1 e2
    obtain ⟨A, c, e3⟩ := v1.slz_inv (beq_eq h15)
    refine Res1.pure hw (v' := .int .i64 ((0 : Nat) : Int)) ?_ (.int .i64 _)
    simp [execOp, ho, resolve, invoke, builtin, Builtin.len_, ha0, run_underlying hu, e3, goInt]
  obtain ⟨ht, hr⟩ := slen_some hr
  injection hr with hr
  injection hr with e1 e2
  subst e1 e2
  obtain ⟨b, c, e3, -⟩ := v1.slice_inv ht
  refine Res1.pure hw (v' := .int .i64 ((if (f t).tg = 4 then 0 else (f t).c : Nat) : Int)) ?_ (.int .i64 _)
  simp [execOp, ho, resolve, invoke, builtin, Builtin.len_, ha0, run_underlying hu, e3, goInt]
theorem ok_lenC {e : TypeId} {n : Nat} {tys : List TypeId} (ho : o.op = .call { callee := .builtin .len, args := #[x], argTypes := ats }) (ha : ats.toList = ty :: tys) (hu : P.underlying ty = some (.array n e)) (hw : Wld ι D h w) (hr : opLenC n ih ro t h = some (v, h')) : Res1 P a o ι D h w v h' := by
  injection hr with hr
  injection hr with e1 e2
  subst e1 e2
  have ha0 : ats[0]? = some ty := by rw [← Array.getElem?_toList, ha]; rfl
  refine Res1.pure hw (v' := .int .i64 (n : Int)) ?_ (.int .i64 _)
  simp [execOp, ho, resolve, invoke, builtin, Builtin.len_, ha0, run_underlying hu, goInt]
theorem ok_lenP {e q : TypeId} {n : Nat} {tys : List TypeId} (ho : o.op = .call { callee := .builtin .len, args := #[x], argTypes := ats }) (ha : ats.toList = ty :: tys) (hu : P.underlying ty = some (.pointer q)) (hq : P.underlying q = some (.array n e)) (hw : Wld ι D h w) (hr : opLenC n ih ro t h = some (v, h')) : Res1 P a o ι D h w v h' := by
  injection hr with hr
  injection hr with e1 e2
  subst e1 e2
  have ha0 : ats[0]? = some ty := by rw [← Array.getElem?_toList, ha]; rfl
  refine Res1.pure hw (v' := .int .i64 (n : Int)) ?_ (.int .i64 _)
  simp [execOp, ho, resolve, invoke, builtin, Builtin.len_, ha0, run_underlying hu, run_underlying hq, goInt]
theorem ok_cap {e : TypeId} {tys : List TypeId} (ho : o.op = .call { callee := .builtin .cap, args := #[x], argTypes := ats }) (ha : ats.toList = ty :: tys) (hu : P.underlying ty = some (.slice e)) (hc : cO nt x = some f) (hO : Opd ι nt t a o.op.operands) (hw : Wld ι D h w) (hr : opCap f ih ro t h = some (v, h')) : Res1 P a o ι D h w v h' := by
  have v1 := hO x (by simp [ho, Op.operands, Call.operands]) f hc
  have ha0 : ats[0]? = some ty := by rw [← Array.getElem?_toList, ha]; rfl
  rcases onSl_some hr with ⟨ht, hr⟩ | ⟨ht, hr⟩ | ⟨ht, hr⟩
  · injection hr with hr
    injection hr with e1 e2
    subst e1 e2
    obtain ⟨b', hb, e3⟩ := v1.sl_inv ht
    refine Res1.pure hw (v' := .int .i64 ((f t).d : Int)) ?_ (.int .i64 _)
    simp [execOp, ho, resolve, invoke, builtin, Builtin.cap_, ha0, run_underlying hu, e3, goInt]
  · cases hr
  · injection hr with hr
    injection hr with e1 e2
    subst e1 e2
    obtain ⟨e3, -⟩ := v1.nils_inv ht
    refine Res1.pure hw (v' := .int .i64 0) ?_ (.int .i64 0)
    simp [execOp, ho, resolve, invoke, builtin, Builtin.cap_, ha0, run_underlying hu, e3, goInt]
theorem minL_cons {mx : Bool} {f : T → V} {fs : List (T → V)} {z : V} : minL mx t (f :: fs) z = onI z fun k m => onI (f t) fun k' n => grd (Nat.beq k k') (minL mx t fs (vInt k (ifB (ifB mx (ltI m n) (ltI n m)) n m))) := rfl
theorem minL_ok {mx : Bool} : ∀ {xs : List Operand} {fs : List (T → V)} {z : V} {u : Value}, cOs nt xs = some fs → (∀ x ∈ xs, ∀ f, cO nt x = some f → VR ι (f t) (a.eval x)) → VR ι z u → minL mx t fs z = some v →
    ∃ u', ((xs.map a.eval).foldlM (if mx = true then Builtin.max2 else Builtin.min2) u).run P w = .ok u' w ∧ VR ι v u'
  | [], fs, z, u, hc, _, hz, hr => by
    injection hc with hc
    subst hc
    injection hr with hr
    subst hr
    exact ⟨u, rfl, hz⟩
  | x :: xs, fs, z, u, hc, hO, hz, hr => by
    obtain ⟨f, h1, hc⟩ := bnd_some hc
    obtain ⟨r, h2, hc⟩ := bnd_some hc
    injection hc with hc
    subst hc
    rw [minL_cons] at hr
    obtain ⟨t1, hr⟩ := onI_some hr
    obtain ⟨t2, hr⟩ := onI_some hr
    obtain ⟨hk, hr⟩ := grd_some hr
    obtain ⟨k, ek, e3, -⟩ := hz.int_inv t1
    obtain ⟨q, eq, e4, -⟩ := (hO x List.mem_cons_self f h1).int_inv t2
    have hkk := beq_eq hk
    rw [ek, eq] at hkk
    obtain rfl := idx_inj hkk
    rw [ek, ltI_eq, ltI_eq] at hr
    subst e3
    have hstep : ∃ m, ifB (ifB mx (decide (z.n < (f t).n)) (decide ((f t).n < z.n))) (f t).n z.n = m ∧ ((if mx = true then Builtin.max2 else Builtin.min2) (.int k z.n) (a.eval x)).run P w = .ok (.int k m) w := by
      refine ⟨_, rfl, ?_⟩
      rw [e4, ifB_eq, ifB_eq]
      cases mx
      · simp [Builtin.min2]
      · simp [Builtin.max2]
    obtain ⟨m, hm, hst⟩ := hstep
    rw [hm] at hr
    obtain ⟨u', hu', hv'⟩ := minL_ok h2 (fun y hy => hO y (List.mem_cons_of_mem _ hy)) (VR.int k m) hr
    refine ⟨u', ?_, hv'⟩
    rw [List.map_cons, List.foldlM_cons, Sem.run_bind, hst, Result.andThen_ok]
    exact hu'
theorem ok_min {mx : Bool} {xs : List Operand} {fs : List (T → V)} (ho : o.op = .call { callee := .builtin (if mx = true then .max else .min), args := ⟨x :: xs⟩, argTypes := ats }) (hc : cO nt x = some f) (hcs : cOs nt xs = some fs) (hO : Opd ι nt t a o.op.operands) (hw : Wld ι D h w) (hr : opMin mx f fs ih ro t h = some (v, h')) : Res1 P a o ι D h w v h' := by
  have v1 := hO x (by cases mx <;> simp [ho, Op.operands, Call.operands]) f hc
  obtain ⟨y, hy, hr⟩ := bnd_some hr
  injection hr with hr
  injection hr with e1 e2
  subst e1 e2
  obtain ⟨u', hu, hv⟩ := minL_ok (w := w) (P := P) (t := t) (a := a) hcs (fun z hz => hO z (by cases mx <;> simp [ho, Op.operands, Call.operands, hz])) v1 hy
  refine Res1.pure hw (v' := u') ?_ hv
  cases mx
  · simp only [Bool.false_eq_true, if_false] at hu ho
    simp [execOp, ho, resolve, invoke, builtin, Builtin.min_, hu]
  · simp only [if_true] at hu ho
    simp [execOp, ho, resolve, invoke, builtin, Builtin.max_, hu]
/-- equality with nil, of truth values -/
theorem ok_eqB {neg : Bool} {ty2 : TypeId} (ho : o.op = .binOp (if neg = true then .neq else .eql) ty x y ty2) (hu : P.underlying ty = some .bool) (h1 : cO nt x = some f) (h2 : cO nt y = some g) (hO : Opd ι nt t a o.op.operands) (hw : Wld ι D h w) (hr : opEqB neg f g ih ro t h = some (v, h')) : Res1 P a o ι D h w v h' := by
  have v1 := hO x (by cases neg <;> simp [ho, Op.operands]) f h1
  have v2 := hO y (by cases neg <;> simp [ho, Op.operands]) g h2
  obtain ⟨t1, hr⟩ := onB_some hr
  obtain ⟨t2, hr⟩ := onB_some hr
  injection hr with hr
  injection hr with e1 e2
  subst e1 e2
  obtain ⟨e3, -⟩ := v1.bool_inv t1
  obtain ⟨e4, -⟩ := v2.bool_inv t2
  generalize Nat.beq (f t).a 1 = p at e3 ⊢
  generalize Nat.beq (g t).a 1 = q at e4 ⊢
  refine Res1.pure hw (v' := .bool (ifB neg (!(p == q)) (p == q))) ?_ (.bool _)
  have hq : (Op.equal ty (.bool p) (.bool q)).run P w = .ok (p == q) w := run_equalIn_bool w 9999 ty p q hu
  cases neg <;> simp [execOp, ho, e3, e4, eqGuard, binOp, hq, ifB]
theorem isNil_some {n p q : Nat} {z : V} {b : Bool} (hb : isNil n p q z = some b) : (b = true ∧ z.tg = n) ∨ (b = false ∧ (z.tg = p ∨ z.tg = q)) := by
  rcases ifB_some hb with ⟨h1, h2⟩ | ⟨h1, h2⟩
  · injection h2 with h2
    exact .inl ⟨h2.symm, beq_eq h1⟩
  · obtain ⟨h3, h2⟩ := grd_some h2
    injection h2 with h2
    refine .inr ⟨h2.symm, ?_⟩
    rcases (by simpa only [Bool.or_eq_true] using h3 : Nat.beq z.tg p = true ∨ Nat.beq z.tg q = true) with h | h
    · exact .inl (beq_eq h)
    · exact .inr (beq_eq h)
theorem VR.nilp_inv {x : V} {u : Value} (h : VR ι x u) (ht : x.tg = 2) : u = .pointer none := by cases h <;> first | rfl | (cases ht; done)
theorem VR.nilf_inv {x : V} {u : Value} (h : VR ι x u) (ht : x.tg = 7) : u = .nilFunc := by cases h <;> first | rfl | (cases ht; done)
theorem VR.func_inv {x : V} {u : Value} (h : VR ι x u) (ht : x.tg = 8 ∨ x.tg = 9) : ∃ i j k, u = .func i j k := by cases h <;> first | exact ⟨_, _, _, rfl⟩ | (rcases ht with ht | ht <;> cases ht; done)
/-- a value of a kind, or its nil -/
def NilLike (P : Program) (ty : TypeId) (X Y : Value) (b1 b2 : Bool) : Prop :=
  (∃ e, P.underlying ty = some (.pointer e) ∧ ∃ p q, X = .pointer p ∧ Y = .pointer q ∧ p.isNone = b1 ∧ q.isNone = b2) ∨
  (∃ e, P.underlying ty = some (.slice e) ∧ ∃ p l c q m d, X = .slice p l c ∧ Y = .slice q m d ∧ p.isNone = b1 ∧ q.isNone = b2) ∨
  (∃ i j k, P.underlying ty = some (.func i j k) ∧ ((X = .nilFunc ∧ b1 = true) ∨ (∃ p q r, X = .func p q r ∧ b1 = false)) ∧ ((Y = .nilFunc ∧ b2 = true) ∨ (∃ p q r, Y = .func p q r ∧ b2 = false)))
theorem run_eqN {X Y : Value} {b1 b2 : Bool} (hn : NilLike P ty X Y b1 b2) (hor : (b1 || b2) = true) (d : Nat) : (Op.equalIn (d + 1) ty X Y).run P w = .ok (b1 && b2) w := by
  rcases hn with ⟨e, hu, p, q, rfl, rfl, rfl, rfl⟩ | ⟨e, hu, p, l, c, q, m, d', rfl, rfl, rfl, rfl⟩ | ⟨i, j, k, hu, h1, h2⟩
  · cases p <;> cases q <;> first | (cases hor; done) | simp [Op.equalIn, run_underlying hu]
  · cases p <;> cases q <;> first | (cases hor; done) | simp [Op.equalIn, run_underlying hu]
  · rcases h1 with ⟨rfl, rfl⟩ | ⟨p, q, r, rfl, rfl⟩ <;> rcases h2 with ⟨rfl, rfl⟩ | ⟨p', q', r', rfl, rfl⟩ <;> first | (cases hor; done) | simp [Op.equalIn, run_underlying hu]
theorem ok_eqN {neg : Bool} {n p q : Nat} {ty2 : TypeId} (ho : o.op = .binOp (if neg = true then .neq else .eql) ty x y ty2)
    (hu : (n = 2 ∧ p = 3 ∧ q = 3 ∧ ∃ e, P.underlying ty = some (.pointer e)) ∨ (n = 4 ∧ p = 5 ∧ q = 6 ∧ ∃ e, P.underlying ty = some (.slice e)) ∨ (n = 7 ∧ p = 8 ∧ q = 9 ∧ ∃ a b c, P.underlying ty = some (.func a b c)))
    (h1 : cO nt x = some f) (h2 : cO nt y = some g) (hO : Opd ι nt t a o.op.operands) (hw : Wld ι D h w) (hr : opEqN neg n p q f g ih ro t h = some (v, h')) : Res1 P a o ι D h w v h' := by
  have v1 := hO x (by cases neg <;> simp [ho, Op.operands]) f h1
  have v2 := hO y (by cases neg <;> simp [ho, Op.operands]) g h2
  obtain ⟨b1, n1, hr⟩ := bnd_some hr
  obtain ⟨b2, n2, hr⟩ := bnd_some hr
  obtain ⟨hor, hr⟩ := grd_some hr
  injection hr with hr
  injection hr with e1 e2
  subst e1 e2
  refine Res1.pure hw (v' := .bool (ifB neg (!(b1 && b2)) (b1 && b2))) ?_ (.bool _)
  have q1 := isNil_some n1
  have q2 := isNil_some n2
  have hN : NilLike P ty (a.eval x) (a.eval y) b1 b2 ∧ ((∃ p, a.eval x = .pointer p ∧ ∃ q, a.eval y = .pointer q) ∨ (∃ p l c, a.eval x = .slice p l c) ∨ ((a.eval x = .nilFunc ∨ ∃ p q r, a.eval x = .func p q r))) := by
    rcases hu with ⟨rfl, rfl, rfl, e, hu⟩ | ⟨rfl, rfl, rfl, e, hu⟩ | ⟨rfl, rfl, rfl, ea, eb, ec, hu⟩
    · have k1 : ∃ p, a.eval x = .pointer p ∧ p.isNone = b1 := by
        rcases q1 with ⟨rfl, t1⟩ | ⟨rfl, t1⟩
        · exact ⟨_, v1.nilp_inv t1, rfl⟩
        · obtain ⟨b', -, e⟩ := v1.ptr_inv (by omega); exact ⟨_, e, rfl⟩
      have k2 : ∃ p, a.eval y = .pointer p ∧ p.isNone = b2 := by
        rcases q2 with ⟨rfl, t1⟩ | ⟨rfl, t1⟩
        · exact ⟨_, v2.nilp_inv t1, rfl⟩
        · obtain ⟨b', -, e⟩ := v2.ptr_inv (by omega); exact ⟨_, e, rfl⟩
      obtain ⟨p, e1, e2⟩ := k1
      obtain ⟨q, e3, e4⟩ := k2
      exact ⟨.inl ⟨e, hu, p, q, e1, e3, e2, e4⟩, .inl ⟨p, e1, q, e3⟩⟩
    · have k1 : ∃ p l c, a.eval x = .slice p l c ∧ p.isNone = b1 := by
        rcases q1 with ⟨rfl, t1⟩ | ⟨rfl, t1⟩
        · exact ⟨_, _, _, (v1.nils_inv t1).1, rfl⟩
        · rcases t1 with t1 | t1
          · obtain ⟨b', -, e⟩ := v1.sl_inv t1; exact ⟨_, _, _, e, rfl⟩
          · obtain ⟨b', c', -, -, e, -⟩ := v1.slu_inv t1; exact ⟨_, _, _, e, rfl⟩
      have k2 : ∃ p l c, a.eval y = .slice p l c ∧ p.isNone = b2 := by
        rcases q2 with ⟨rfl, t1⟩ | ⟨rfl, t1⟩
        · exact ⟨_, _, _, (v2.nils_inv t1).1, rfl⟩
        · rcases t1 with t1 | t1
          · obtain ⟨b', -, e⟩ := v2.sl_inv t1; exact ⟨_, _, _, e, rfl⟩
          · obtain ⟨b', c', -, -, e, -⟩ := v2.slu_inv t1; exact ⟨_, _, _, e, rfl⟩
      obtain ⟨p, l, c, e1, e2⟩ := k1
      obtain ⟨q, m, d, e3, e4⟩ := k2
      exact ⟨.inr (.inl ⟨e, hu, p, l, c, q, m, d, e1, e3, e2, e4⟩), .inr (.inl ⟨p, l, c, e1⟩)⟩
    · have k1 : (a.eval x = .nilFunc ∧ b1 = true) ∨ (∃ p q r, a.eval x = .func p q r ∧ b1 = false) := by
        rcases q1 with ⟨rfl, t1⟩ | ⟨rfl, t1⟩
        · exact .inl ⟨v1.nilf_inv t1, rfl⟩
        · obtain ⟨i, j, k, e⟩ := v1.func_inv t1; exact .inr ⟨i, j, k, e, rfl⟩
      have k2 : (a.eval y = .nilFunc ∧ b2 = true) ∨ (∃ p q r, a.eval y = .func p q r ∧ b2 = false) := by
        rcases q2 with ⟨rfl, t1⟩ | ⟨rfl, t1⟩
        · exact .inl ⟨v2.nilf_inv t1, rfl⟩
        · obtain ⟨i, j, k, e⟩ := v2.func_inv t1; exact .inr ⟨i, j, k, e, rfl⟩
      exact ⟨.inr (.inr ⟨ea, eb, ec, hu, k1, k2⟩), .inr (.inr (k1.imp (fun h => h.1) (fun ⟨p, q, r, e, _⟩ => ⟨p, q, r, e⟩)))⟩
  obtain ⟨hN, hS⟩ := hN
  have hq : (Op.equal ty (a.eval x) (a.eval y)).run P w = .ok (b1 && b2) w := run_eqN hN hor 9999
  generalize hX : a.eval x = X at *
  generalize hY : a.eval y = Y at *
  have hg : ∀ op, eqGuard op ty x y X Y = pure () := by
    intro op
    unfold eqGuard
    rcases hS with ⟨p, rfl, q, rfl⟩ | ⟨p, l, c, rfl⟩ | rfl | ⟨p, q, r, rfl⟩ <;> (cases op <;> rfl)
  have hb : binOp .eql ty X Y = (do pure (.bool (← Op.equal ty X Y))) ∧ binOp .neq ty X Y = (do pure (.bool (!(← Op.equal ty X Y)))) := by
    rcases hS with ⟨p, rfl, q, rfl⟩ | ⟨p, l, c, rfl⟩ | rfl | ⟨p, q, r, rfl⟩ <;> exact ⟨rfl, rfl⟩
  have hex : ∀ op, o.op = .binOp op ty x y ty2 → (binOp op ty X Y).run P w = .ok (.bool (ifB neg (!(b1 && b2)) (b1 && b2))) w → (execOp a.eval o).run P w = .ok (.value (.bool (ifB neg (!(b1 && b2)) (b1 && b2)))) w := by
    intro op ho' hr'
    unfold execOp
    rw [ho']
    simp only [hX, hY, hg, Sem.run_bind, Sem.run_pure, Result.andThen_ok, hr']
  cases neg
  · exact hex .eql ho (by rw [hb.1]; simp only [Sem.run_bind, hq, Result.andThen_ok, Sem.run_pure]; rfl)
  · exact hex .neq ho (by rw [hb.2]; simp only [Sem.run_bind, hq, Result.andThen_ok, Sem.run_pure]; rfl)
end
end Ev
end Go.Proofs.YtlbjnkopbabcnaaGreatDoor
end


section
namespace Go.Proofs.YtlbjnkopbabcnaaGreatDoor
namespace Ev
set_option linter.unusedVariables false
set_option linter.unusedSimpArgs false
variable {ι ι' : Im} {D : Nat → Prop} {h h' : Hp} {w w' : World} {P : Program} {t : T} {nt : Nat} {a : Act} {ih : Ih} {ro : Option Nat} {v : V} {o : Oper}
/-- an operand that need not be there -/
def Bnd (a : Act) (x : Option Operand) (d n : Nat) : Prop := (x = none ∧ n = d) ∨ (∃ y k, x = some y ∧ a.eval y = .int k (n : Int))
theorem natO_some {α : Type} {x : Option Operand} {f : Option (T → V)} {d : Nat} {k : Nat → Option α} {r : α} (hc : cOo nt x = some f) (hO : ∀ y, x = some y → ∀ f, cO nt y = some f → VR ι (f t) (a.eval y)) (hk : natO d f t k = some r) : ∃ n, Bnd a x d n ∧ k n = some r := by
  cases x with
  | none =>
    injection hc with hc
    subst hc
    exact ⟨d, .inl ⟨rfl, rfl⟩, hk⟩
  | some y =>
    obtain ⟨g, h1, hc⟩ := bnd_some hc
    injection hc with hc
    subst hc
    obtain ⟨t1, hk⟩ := onI_some (hk : onI (g t) (fun _ n => onN n k) = some r)
    obtain ⟨m, em, hk⟩ := onN_some hk
    obtain ⟨q, eq, e3, -⟩ := (hO y rfl g h1).int_inv t1
    exact ⟨m, .inr ⟨y, q, rfl, by rw [e3, em]⟩, hk⟩
theorem run_bound {a : Act} {y : Operand} {k : IntKind} {n m : Nat} {c : BoundsCode} (hy : a.eval y = .int k (n : Int)) (hn : n ≤ m) : (Instr.sliceBound (a.eval y) m c).run P w = .ok n w := by
  rw [hy]
  have h1 : (0 : Int) ≤ (n : Int) ∧ (n : Int) ≤ (m : Int) := by omega
  simp [Instr.sliceBound, asIntOf, hn]
theorem run_bounds {b : Bool} {len cap l e m : Nat} {lo hi mx : Option Operand} (h1 : Bnd a lo 0 l) (h2 : Bnd a hi len e) (h3 : Bnd a mx cap m) (hm : mx = none ∨ hi ≠ none) (c1 : l ≤ e) (c2 : e ≤ m) (c3 : m ≤ cap) :
    (Instr.sliceBounds b len cap (lo.map a.eval) (hi.map a.eval) (mx.map a.eval)).run P w = .ok (l, e, m) w := by
  unfold Instr.sliceBounds
  rcases h3 with ⟨rfl, rfl⟩ | ⟨z, k3, rfl, e3⟩
  · rcases h2 with ⟨rfl, rfl⟩ | ⟨y, k2, rfl, e2⟩
    · rcases h1 with ⟨rfl, rfl⟩ | ⟨x, k1, rfl, e1⟩
      · simp
      · simp [run_bound e1 c1]
    · rcases h1 with ⟨rfl, rfl⟩ | ⟨x, k1, rfl, e1⟩
      · simp [run_bound e2 c2]
      · simp [run_bound e1 c1, run_bound e2 c2]
  · rcases h2 with ⟨rfl, rfl⟩ | ⟨y, k2, rfl, e2⟩
    · rcases hm with hm | hm
      · cases hm
      · exact absurd rfl hm
    · rcases h1 with ⟨rfl, rfl⟩ | ⟨x, k1, rfl, e1⟩
      · simp [run_bound e3 c3, run_bound e2 c2]
      · simp [run_bound e3 c3, run_bound e1 c1, run_bound e2 c2]
theorem ptrAt_eq (size o m l : Nat) : ptrAt size o m l = if m = l then o else o + l * size := by
  unfold ptrAt
  rw [ifB_eq]
  by_cases e : m = l
  · subst e; simp
  · rw [if_neg e, if_neg (fun c => e (beq_eq c))]; rfl
section
variable {x : Operand} {lo hi mx : Option Operand} {f : T → V} {flo fhi fmx : Option (T → V)} {ty : TypeId}
theorem slS_some {size b o len cap : Nat} (h1 : cOo nt lo = some flo) (h2 : cOo nt hi = some fhi) (h3 : cOo nt mx = some fmx)
    (hO : ∀ z, (lo = some z ∨ hi = some z ∨ mx = some z) → ∀ f, cO nt z = some f → VR ι (f t) (a.eval z)) (hr : slS size t flo fhi fmx h b o len cap = some (v, h')) :
    ∃ l e m, Bnd a lo 0 l ∧ Bnd a hi len e ∧ Bnd a mx cap m ∧ l ≤ e ∧ e ≤ m ∧ m ≤ cap ∧ v = vSl b (if m = l then o else o + l * size) (e - l) (m - l) ∧ h' = h := by
  obtain ⟨l, b1, hr⟩ := natO_some (a := a) (ι := ι) h1 (fun z hz => hO z (.inl hz)) hr
  obtain ⟨e, b2, hr⟩ := natO_some (a := a) (ι := ι) h2 (fun z hz => hO z (.inr (.inl hz))) hr
  obtain ⟨m, b3, hr⟩ := natO_some (a := a) (ι := ι) h3 (fun z hz => hO z (.inr (.inr hz))) hr
  obtain ⟨hk, hr⟩ := grd_some hr
  obtain ⟨k1, hk⟩ := ifB_and hk
  obtain ⟨k2, k3⟩ := ifB_and hk
  injection hr with hr
  injection hr with e1 e2
  exact ⟨l, e, m, b1, b2, b3, ble_le k1, ble_le k2, ble_le k3, by rw [← e1, ptrAt_eq]; rfl, e2.symm⟩
theorem slice_opd (ho : o.op = .slice ty x lo hi mx) (hO : Opd ι nt t a o.op.operands) : (∀ f, cO nt x = some f → VR ι (f t) (a.eval x)) ∧ ∀ z, (lo = some z ∨ hi = some z ∨ mx = some z) → ∀ f, cO nt z = some f → VR ι (f t) (a.eval z) := by
  refine ⟨hO x (by simp [ho, Op.operands]), fun z hz => hO z ?_⟩
  rcases hz with rfl | rfl | rfl <;> simp [ho, Op.operands]
theorem ok_sliceA {e : TypeId} {n : Nat} (ho : o.op = .slice ty x lo hi mx) (hu : P.underlying ty = some (.array n e)) (hi' : ∃ i, P.info? e = some i) (hm : mx = none ∨ hi ≠ none) (hc : cO nt x = some f) (h1 : cOo nt lo = some flo) (h2 : cOo nt hi = some fhi) (h3 : cOo nt mx = some fmx)
    (hO : Opd ι nt t a o.op.operands) (hw : Wld ι D h w) (hr : opSliceA n (P.cellsOf e) flo fhi fmx f ih ro t h = some (v, h')) : Res1 P a o ι D h w v h' := by
  obtain ⟨hO1, hO2⟩ := slice_opd ho hO
  have v1 := hO1 f hc
  obtain ⟨i, hi'⟩ := hi'
  obtain ⟨ht, hr⟩ := onPtr_some hr
  obtain ⟨l, e', m, b1, b2, b3, c1, c2, c3, rfl, rfl⟩ := slS_some (a := a) (ι := ι) h1 h2 h3 hO2 hr
  obtain ⟨b', hb', e3⟩ := v1.ptr_inv ht
  refine Res1.pure hw (v' := .slice (some ⟨b', if m = l then (f t).b else (f t).b + l * P.cellsOf e, none⟩) (e' - l) (m - l)) ?_ (.sl _ _ _ hb')
  simp only [execOp, ho, e3, Instr.sliceAt, Sem.run_bind, run_underlying hu, Result.andThen_ok, Instr.sureAddr, Sem.run_pure, run_bounds b1 b2 b3 hm c1 c2 c3, run_size hi']
  by_cases q : m = l
  · simp [q]
  · simp [q, add_addr]
theorem ok_slice {e : TypeId} (ho : o.op = .slice ty x lo hi mx) (hu : P.underlying ty = some (.slice e)) (hi' : ∃ i, P.info? e = some i) (hm : mx = none ∨ hi ≠ none) (hc : cO nt x = some f) (h1 : cOo nt lo = some flo) (h2 : cOo nt hi = some fhi) (h3 : cOo nt mx = some fmx)
    (hO : Opd ι nt t a o.op.operands) (hw : Wld ι D h w) (hr : opSlice (P.cellsOf e) flo fhi fmx f ih ro t h = some (v, h')) : Res1 P a o ι D h w v h' := by
  obtain ⟨hO1, hO2⟩ := slice_opd ho hO
  have v1 := hO1 f hc
  obtain ⟨i, hi'⟩ := hi'
  have hrun : ∀ (A : Option Addr) (len cap l e' m : Nat), a.eval x = .slice A len cap → Bnd a lo 0 l → Bnd a hi len e' → Bnd a mx cap m → l ≤ e' → e' ≤ m → m ≤ cap →
      (execOp a.eval o).run P w = .ok (.value (.slice (if m = l then A else A.map (·.add (l * P.cellsOf e))) (e' - l) (m - l))) w := by
    intro A len cap l e' m e3 b1 b2 b3 c1 c2 c3
    simp only [execOp, ho, e3, Instr.sliceAt, Sem.run_bind, run_underlying hu, Result.andThen_ok, Instr.slice, Sem.run_pure, run_bounds b1 b2 b3 hm c1 c2 c3, run_size hi']
  rcases onSl_some hr with ⟨ht, hr⟩ | ⟨ht, hr⟩ | ⟨ht, hr⟩
  · obtain ⟨l, e', m, b1, b2, b3, c1, c2, c3, rfl, rfl⟩ := slS_some (a := a) (ι := ι) h1 h2 h3 hO2 hr
    obtain ⟨b', hb', e3⟩ := v1.sl_inv ht
    refine Res1.pure hw (hrun _ _ _ _ _ _ e3 b1 b2 b3 c1 c2 c3) ?_
    have : (if m = l then some (⟨b', (f t).b, none⟩ : Addr) else (some (⟨b', (f t).b, none⟩ : Addr)).map (·.add (l * P.cellsOf e))) = some ⟨b', if m = l then (f t).b else (f t).b + l * P.cellsOf e, none⟩ := by
      by_cases q : m = l
      · simp [q]
      · simp [q, add_addr]
    rw [this]
    exact .sl _ _ _ hb'
  · obtain ⟨b', c', hb', hcc, e3, hkc⟩ := v1.slu_inv ht
    cases mx with
    | none =>
      injection h3 with h3
      subst h3
      obtain ⟨l, b1, hr⟩ := natO_some (a := a) (ι := ι) h1 (fun z hz => hO2 z (.inl hz)) hr
      obtain ⟨e', b2, hr⟩ := natO_some (a := a) (ι := ι) h2 (fun z hz => hO2 z (.inr (.inl hz))) hr
      rcases ifB_some hr with ⟨hl, hr⟩ | ⟨_, hr⟩
      · obtain ⟨he, hr⟩ := grd_some hr
        injection hr with hr
        injection hr with e1 e2
        subst e1 e2
        have hl := beq_eq hl
        have he := beq_eq he
        refine Res1.pure hw (hrun _ _ _ l e' c' e3 b1 b2 (.inl ⟨rfl, rfl⟩) (by omega) (by omega) (by omega)) ?_
        rw [show e' - l = 0 by omega]
        split
        · exact .slz
        · exact .slz
      obtain ⟨hk, hr⟩ := grd_some hr
      obtain ⟨k1, hk⟩ := ifB_and hk
      obtain ⟨k2, k3⟩ := ifB_and hk
      obtain ⟨k3, k4⟩ := ifB_and k3
      injection hr with hr
      injection hr with e1 e2
      subst e1 e2
      have k4 : 0 < P.cellsOf e ∨ l = 0 := by
        rcases (by simpa only [Bool.or_eq_true] using k4 : Nat.blt 0 (P.cellsOf e) = true ∨ Nat.beq l 0 = true) with q | q
        · exact .inl (blt_lt q)
        · exact .inr (beq_eq q)
      have k1 := ble_le k1
      have k2 := ble_le k2
      have k3 := blt_lt k3
      refine Res1.pure hw (hrun _ _ _ l e' c' e3 b1 b2 (.inl ⟨rfl, rfl⟩) k1 (by omega) (by omega)) ?_
      rw [if_neg (by omega), Option.map_some, add_addr]
      exact .slu _ hb' (show e' - l ≤ c' - l by omega) (fun e0 => by
        have e0' : (f t).b + l * P.cellsOf e = 0 := e0
        have hb0 : (f t).b = 0 := by omega
        have hl0 : l = 0 := by
          rcases k4 with q | q
          · have : l * P.cellsOf e = 0 := by omega
            rcases Nat.mul_eq_zero.1 this with q' | q'
            · exact q'
            · omega
          · exact q
        have := hkc hb0
        omega)
    | some z =>
      obtain ⟨g, h4, h3'⟩ := bnd_some h3
      injection h3' with h3'
      subst h3'
      obtain ⟨l, e', m, b1, b2, b3, c1, c2, c3, rfl, rfl⟩ := slS_some (a := a) (ι := ι) h1 h2 h3 hO2 hr
      have b3' : Bnd a (some z) c' m := by
        rcases b3 with ⟨q, _⟩ | q
        · cases q
        · exact .inr q
      refine Res1.pure hw (hrun _ _ _ _ _ _ e3 b1 b2 b3' c1 c2 (by omega)) ?_
      have : (if m = l then some (⟨b', (f t).b, none⟩ : Addr) else (some (⟨b', (f t).b, none⟩ : Addr)).map (·.add (l * P.cellsOf e))) = some ⟨b', if m = l then (f t).b else (f t).b + l * P.cellsOf e, none⟩ := by
        by_cases q : m = l
        · simp [q]
        · simp [q, add_addr]
      rw [this]
      exact .sl _ _ _ hb'
  · obtain ⟨e3, -⟩ := v1.nils_inv ht
    obtain ⟨l, b1, hr⟩ := natO_some (a := a) (ι := ι) h1 (fun z hz => hO2 z (.inl hz)) hr
    obtain ⟨e', b2, hr⟩ := natO_some (a := a) (ι := ι) h2 (fun z hz => hO2 z (.inr (.inl hz))) hr
    obtain ⟨m, b3, hr⟩ := natO_some (a := a) (ι := ι) h3 (fun z hz => hO2 z (.inr (.inr hz))) hr
    obtain ⟨hk, hr⟩ := grd_some hr
    injection hr with hr
    injection hr with e1 e2
    subst e1 e2
    have hk := beq_eq hk
    have z1 : l = 0 := by have : l + (e' + m) = 0 := hk; omega
    have z2 : e' = 0 := by have : l + (e' + m) = 0 := hk; omega
    have z3 : m = 0 := by have : l + (e' + m) = 0 := hk; omega
    subst z1 z2 z3
    exact Res1.pure hw (hrun _ _ _ _ _ _ e3 b1 b2 b3 (Nat.le_refl _) (Nat.le_refl _) (Nat.le_refl _)) (by simpa using VR.nils)
end
end Ev
end Go.Proofs.YtlbjnkopbabcnaaGreatDoor
end


section
namespace Go.Proofs.YtlbjnkopbabcnaaGreatDoor
namespace Ev
set_option linter.unusedVariables false
set_option linter.unusedSimpArgs false
variable {ι ι' : Im} {D : Nat → Prop} {h h' : Hp} {w w' : World} {P : Program} {t : T} {nt : Nat} {a : Act} {ih : Ih} {ro : Option Nat} {v : V} {o : Oper}
theorem fold_set : ∀ (vs : List Value) (off k : Nat) (cs : List Value), off + k + vs.length ≤ cs.length → ((vs.zipIdx k).foldl (fun (c : Array Value) (p : Value × Nat) => c.setIfInBounds (off + p.2) p.1) ⟨cs⟩) = ⟨cs.take (off + k) ++ vs ++ cs.drop (off + k + vs.length)⟩
  | [], off, k, cs, _ => by simp
  | x :: vs, off, k, cs, hl => by
    rw [List.zipIdx_cons, List.foldl_cons]
    have e1 : (⟨cs⟩ : Array Value).setIfInBounds (off + k) x = ⟨cs.set (off + k) x⟩ := by simp
    rw [e1, fold_set vs off (k + 1) (cs.set (off + k) x) (by simp at hl ⊢; omega)]
    have hk : off + k < cs.length := by simp at hl; omega
    congr 1
    rw [List.drop_set_of_lt (by omega), show off + (k + 1) = (off + k) + 1 by omega]
    have e2 : (cs.set (off + k) x).take (off + k + 1) = cs.take (off + k) ++ [x] := by
      rw [List.set_eq_take_append_cons_drop, if_pos hk]
      have ln : (cs.take (off + k)).length = off + k := by simp; omega
      rw [List.take_append, ln, List.take_of_length_le (by omega), show off + k + 1 - (off + k) = 1 by omega]
      rfl
    rw [e2]
    simp only [List.append_assoc, List.cons_append, List.nil_append, List.length_cons]
    congr 4
    omega
theorem placed_cons {p : Nat × Nat × (T → V)} {ps : List (Nat × Nat × (T → V))} {z : L} : placed (p :: ps) t z = grd (okC (p.2.2 t) && Nat.beq (vlen (cells (p.2.2 t))) p.2.1) (bnd (vsetAt p.1 (cells (p.2.2 t)) z) (placed ps t)) := rfl
theorem fill_cons {place : Nat → Option (Nat × Nat)} {i off size : Nat} {u : Value} {cs : Array Value} {rest : List (Nat × Value)} (hp : place i = some (off, size)) (hs : u.cells.size = size) (hl : off + size ≤ cs.size) :
    Instr.fill place cs ((i, u) :: rest) = Instr.fill place (u.cells.zipIdx.foldl (fun (c : Array Value) (p : Value × Nat) => c.setIfInBounds (off + p.2) p.1) cs) rest := by
  have h2 : ¬ (off + size > cs.size) := by omega
  simp only [Instr.fill, hp, hs, ne_eq, not_true, decide_false, Bool.false_or, h2, Bool.false_eq_true, if_false]
theorem fill_ok {place : Nat → Option (Nat × Nat)} : ∀ {parts : List (Nat × Operand)} {ps : List (Nat × Nat × (T → V))} {z c : L} {zs : List Value}, cParts nt place parts = some ps → (∀ p ∈ parts, ∀ f, cO nt p.2 = some f → VR ι (f t) (a.eval p.2)) → CR ι z zs → placed ps t z = some c →
    ∃ cs, Instr.fill place ⟨zs⟩ (parts.map fun p => (p.1, a.eval p.2)) = some ⟨cs⟩ ∧ CR ι c cs
  | [], ps, z, c, zs, hc, _, hz, hr => by
    injection hc with hc
    subst hc
    injection hr with hr
    subst hr
    exact ⟨zs, rfl, hz⟩
  | (i, x) :: parts, ps, z, c, zs, hc, hO, hz, hr => by
    obtain ⟨pl, h1, hc⟩ := bnd_some hc
    obtain ⟨f, h2, hc⟩ := bnd_some hc
    obtain ⟨r, h3, hc⟩ := bnd_some hc
    injection hc with hc
    subst hc
    rw [placed_cons] at hr
    obtain ⟨hk, hr⟩ := grd_some hr
    obtain ⟨k1, k2⟩ := ifB_and hk
    obtain ⟨z', h4, hr⟩ := bnd_some hr
    obtain ⟨rfl, hl⟩ := vsetAt_some h4
    have v1 := (hO _ List.mem_cons_self f h2).cells k1
    have l1 := v1.len
    have l2 := hz.len
    have k2 := beq_eq k2
    rw [vlen_eq] at k2
    obtain ⟨off, size⟩ := pl
    have k2 : (cells (f t)).length = size := k2
    have hl : off + (cells (f t)).length ≤ z.length := hl
    have hz' : CR ι (z.take off ++ cells (f t) ++ z.drop (off + (cells (f t)).length)) (zs.take off ++ (a.eval x).cells.toList ++ zs.drop (off + (a.eval x).cells.toList.length)) := by
      have := ((hz.take off).app v1).app (hz.drop (off + (cells (f t)).length))
      rw [← l1]
      exact this
    obtain ⟨cs, h5, h6⟩ := fill_ok h3 (fun p hp => hO p (List.mem_cons_of_mem _ hp)) hz' hr
    refine ⟨cs, ?_, h6⟩
    rw [List.map_cons]
    have s1 : (a.eval x).cells.size = size := by rw [← Array.length_toList, ← l1]; exact k2
    have s2 : (⟨zs⟩ : Array Value).size = zs.length := rfl
    rw [fill_cons h1 s1 (by rw [s2]; omega)]
    have hf := fold_set (a.eval x).cells.toList off 0 zs (by rw [← l1]; omega)
    have hf' : ((a.eval x).cells.zipIdx.foldl (fun (c : Array Value) (p : Value × Nat) => c.setIfInBounds (off + p.2) p.1) ⟨zs⟩) = ⟨zs.take off ++ (a.eval x).cells.toList ++ zs.drop (off + (a.eval x).cells.toList.length)⟩ := by
      rw [← Array.foldl_toList, Array.toList_zipIdx, hf]
      simp
    rw [hf']
    exact h5
theorem parts_opd {parts : Array (Nat × Operand)} (hO : ∀ z ∈ (parts.toList.map (·.2)).toArray, ∀ f, cO nt z = some f → VR ι (f t) (a.eval z)) : ∀ p ∈ parts.toList, ∀ f, cO nt p.2 = some f → VR ι (f t) (a.eval p.2) :=
  fun p hp => hO p.2 (by simp; exact ⟨p.1, by simpa using hp⟩)
theorem ok_build {ty : TypeId} {parts : Array (Nat × Operand)} {z : L} {ps : List (Nat × Nat × (T → V))} {place : Nat → Option (Nat × Nat)} (ho : o.op = .build ty parts) (hz : zeroC P ty = some z)
    (hp : (∃ fs pl, P.underlying ty = some (.struct fs) ∧ (fs.toList.mapM fun f => (P.info? f.type).map fun i => (f.offset, i.size)) = some pl ∧ place = fun i => pl[i]?) ∨ (∃ n e i, P.underlying ty = some (.array n e) ∧ P.info? e = some i ∧ place = fun k => some (k * i.size, i.size)))
    (hc : cParts nt place parts.toList = some ps) (hO : Opd ι nt t a o.op.operands) (hw : Wld ι D h w) (hr : opBuild z ps ih ro t h = some (v, h')) : Res1 P a o ι D h w v h' := by
  obtain ⟨c, h1, hr⟩ := bnd_some hr
  injection hr with hr
  injection hr with e1 e2
  subst e1 e2
  obtain ⟨i, z1, hz⟩ := bnd_some hz
  obtain ⟨zv, z2, hz⟩ := bnd_some hz
  obtain ⟨z3, hz⟩ := grd_some hz
  have hO' : ∀ p ∈ parts.toList, ∀ f, cO nt p.2 = some f → VR ι (f t) (a.eval p.2) := parts_opd (by simpa [ho, Op.operands, Opd] using hO)
  obtain ⟨cs, h2, h3⟩ := fill_ok hc hO' (cL_ok (ι := ι) hz) h1
  have hb : P.built ty (parts.toList.map fun p => (p.1, a.eval p.2)) = some ⟨cs⟩ := by
    unfold Program.built
    rcases hp with ⟨fs, pl, hu, hm, rfl⟩ | ⟨n, e, j, hu, hj, rfl⟩
    · rw [z1, hu]
      simp only [z2, hm]
      have : (fun i => pl.toArray[i]?) = fun (i : Nat) => pl[i]? := by funext i; simp
      rw [this]
      exact h2
    · rw [z1, hu]
      simp only [z2, hj]
      exact h2
  refine Res1.pure hw (v' := .agg ⟨cs⟩) ?_ (.agg h3)
  have hpe : (parts.map fun (i, x) => (i, a.eval x)).toList = parts.toList.map fun p => (p.1, a.eval p.2) := by simp
  simp only [execOp, ho, Sem.run_bind, run_build w ty _ ⟨cs⟩ (by rw [hpe]; exact hb), Result.andThen_ok, Sem.run_pure]
end Ev
end Go.Proofs.YtlbjnkopbabcnaaGreatDoor
end


section
namespace Go.Proofs.YtlbjnkopbabcnaaGreatDoor
namespace Ev
set_option linter.unusedVariables false
set_option linter.unusedSimpArgs false
variable {ι ι' : Im} {D : Nat → Prop} {h h' : Hp} {w w' : World} {P : Program} {t : T} {nt : Nat} {a : Act} {ih : Ih} {ro : Option Nat} {v : V} {o : Oper}
theorem made_eq (z : Array Value) (s : Nat) (hs : z.size = s) : ∀ n, (madeCells z (n * s)).toList = (List.replicate n z.toList).flatten
  | 0 => by simp [madeCells]
  | n + 1 => by
    have ih := made_eq z s hs n
    unfold madeCells at ih ⊢
    rw [Array.toList_map, Array.toList_range] at ih ⊢
    rw [Nat.succ_mul, List.range_add, List.map_append, ih, List.replicate_succ', List.flatten_append]
    congr 1
    simp only [List.flatten_cons, List.flatten_nil, List.append_nil]
    apply List.ext_getElem
    · simp [hs]
    · intro i h1 h2
      have hi : i < s := by simpa using h1
      simp only [List.getElem_map, List.getElem_range, hs]
      have e : (n * s + i) % s = i := by rw [Nat.mul_comm, Nat.mul_add_mod, Nat.mod_eq_of_lt hi]
      rw [e, getElem!_pos z i (by omega)]
      simp
theorem vrep_eq (z : L) : ∀ n, vrep z n = (List.replicate n z).flatten
  | 0 => rfl
  | n + 1 => by
    show vapp z (vrep z n) = _
    rw [vapp_eq, vrep_eq z n, List.replicate_succ, List.flatten_cons]
theorem CR.rep {z : L} {zs : List Value} (hz : CR ι z zs) : ∀ n, CR ι (vrep z n) (List.replicate n zs).flatten
  | 0 => .nil
  | n + 1 => by
    show CR ι (vapp z (vrep z n)) _
    rw [vapp_eq, List.replicate_succ, List.flatten_cons]
    exact hz.app (CR.rep hz n)
theorem ok_makeS {ty e : TypeId} {x y : Operand} {f g : T → V} {z : L} {i : TypeInfo} (ho : o.op = .makeSlice ty x y) (hu : P.underlying ty = some (.slice e)) (hz : zeroC P e = some z) (hi : P.info? e = some i) (h1 : cO nt x = some f) (h2 : cO nt y = some g)
    (hO : Opd ι nt t a o.op.operands) (hw : Wld ι D h w) (hr : opMakeS z i.bytes f g ih ro t h = some (v, h')) (hf : Fresh ι h h') : Res1 P a o ι D h w v h' := by
  have v1 := hO x (by simp [ho, Op.operands]) f h1
  have v2 := hO y (by simp [ho, Op.operands]) g h2
  obtain ⟨t1, hr⟩ := onI_some hr
  obtain ⟨t2, hr⟩ := onI_some hr
  obtain ⟨l, el, hr⟩ := onN_some hr
  obtain ⟨c, ec, hr⟩ := onN_some hr
  obtain ⟨hk, hr⟩ := grd_some hr
  obtain ⟨k1, hk⟩ := ifB_and hk
  obtain ⟨k2, k3⟩ := ifB_and hk
  obtain ⟨hn, hr⟩ := newB_some hr
  injection hr with hr
  injection hr with e1 e2
  subst e1 e2
  obtain ⟨q1, -, e3, -⟩ := v1.int_inv t1
  obtain ⟨q2, -, e4, -⟩ := v2.int_inv t2
  rw [el] at e3
  rw [ec] at e4
  have k1 := ble_le k1
  have k2 : c * i.bytes ≤ 1000000 := ble_le k2
  have k3 := ble_le k3
  have hf0 : ι h.nx = none := hf h.nx (Nat.le_refl _) (Nat.lt_succ_self _)
  obtain ⟨i', z1, hz'⟩ := bnd_some hz
  obtain rfl : i' = i := by rw [hi] at z1; injection z1 with z1; exact z1.symm
  obtain ⟨zv, z2, hz'⟩ := bnd_some hz'
  obtain ⟨z3, hz'⟩ := grd_some hz'
  have z3 : zv.cells.size = i'.size := by have := beq_eq z3; simpa using this
  have hb : (i'.bytes : Int) * (c : Int) ≤ 281474976710656 := by
    have : ((i'.bytes * c : Nat) : Int) ≤ 281474976710656 := by rw [Nat.mul_comm]; omega
    rwa [Int.natCast_mul] at this
  have hrun := run_make (P := P) w ty e i' zv hu hi z2 q1 q2 (l : Int) (c : Int) (by omega) (by omega) hb (by omega)
  simp only [Int.toNat_natCast] at hrun
  refine ⟨.slice (some ⟨w.heap.size, 0, none⟩) l c, _, _, .inl ?_, stp_new (c := 0) (obj := .cells (madeCells zv.cells (c * i'.size)) e) hw hn hf0 ⟨fun _ => ⟨(madeCells zv.cells (c * i'.size)).toList, [], e, ?_, by rw [World.alloc_heap_new]; simp, fun e => absurd rfl e⟩, fun e => (by cases e), fun e => (by cases e), fun e => (by cases e), fun e => (by cases e)⟩, .sl 0 l c (if_pos rfl)⟩
  · simp only [execOp, ho, e3, e4, Sem.run_bind, hrun, Result.andThen_ok, Sem.run_pure]
  · rw [made_eq zv.cells i'.size z3]
    exact ((cL_ok (ι := ι) hz').rep c).mono (up_ext hf0 (.inl hw.new))
theorem run_buildS {ty e : TypeId} {len : Nat} {parts : Array (Nat × Value)} {zv : Value} {cs : Array Value} (hu : P.underlying ty = some (.slice e)) {i : TypeInfo} (hi : P.info? e = some i) (hz : i.zero = some zv) (hs : zv.cells.size = i.size) (hl : len * i.size ≤ 10000)
    (hf : Instr.fill (fun k => some (k * i.size, i.size)) (madeCells zv.cells (len * i.size)) parts.toList = some cs) : (Instr.buildSlice ty len parts).run P w = .ok (.slice (some ⟨w.heap.size, 0, none⟩) len len) (w.alloc (.cells cs e)) := by
  have hn : ¬ (len * i.size > 2 ^ 24) := by omega
  by_cases h0 : len * i.size = 0
  · rw [h0] at hf
    have hm : madeCells zv.cells 0 = #[] := by simp [madeCells, Array.range_zero']
    rw [hm] at hf
    simp [Instr.buildSlice, run_underlying hu, sizeOf, typeInfo, hi, h0, hf, newRow, Array.range_zero']
  · exact run_buildSlice w ty e len parts cs i zv hu hi hz hn h0 hf
theorem ok_buildS {ty e : TypeId} {len : Nat} {parts : Array (Nat × Operand)} {z : L} {ps : List (Nat × Nat × (T → V))} (ho : o.op = .buildSlice ty len parts) (hu : P.underlying ty = some (.slice e)) (hz : zeroC P e = some z)
    (hc : cParts nt (fun k => some (k * P.cellsOf e, P.cellsOf e)) parts.toList = some ps) (hl : len * P.cellsOf e ≤ 10000) (hO : Opd ι nt t a o.op.operands) (hw : Wld ι D h w) (hr : opBuildS len (vrep z len) ps ih ro t h = some (v, h')) (hf : Fresh ι h h') : Res1 P a o ι D h w v h' := by
  obtain ⟨c, h1, hr⟩ := bnd_some hr
  obtain ⟨hn, hr⟩ := newB_some hr
  injection hr with hr
  injection hr with e1 e2
  subst e1 e2
  have hf0 : ι h.nx = none := hf h.nx (Nat.le_refl _) (Nat.lt_succ_self _)
  obtain ⟨i, z1, hz⟩ := bnd_some hz
  obtain ⟨zv, z2, hz⟩ := bnd_some hz
  obtain ⟨z3, hz⟩ := grd_some hz
  have z3 : zv.cells.size = i.size := by have := beq_eq z3; simpa using this
  have hO' : ∀ p ∈ parts.toList, ∀ f, cO nt p.2 = some f → VR ι (f t) (a.eval p.2) := parts_opd (by simpa [ho, Op.operands, Opd] using hO)
  have hzs := (cL_ok (ι := ι) hz).rep len
  rw [← made_eq zv.cells i.size z3] at hzs
  obtain ⟨cs, h2, h3⟩ := fill_ok hc hO' hzs h1
  rw [info_size z1] at h2 hl
  have hpe : (parts.map fun (i, x) => (i, a.eval x)).toList = parts.toList.map fun p => (p.1, a.eval p.2) := by simp
  have hrun := run_buildS (P := P) (w := w) (len := len) (parts := parts.map fun (i, x) => (i, a.eval x)) hu z1 z2 z3 hl (by rw [hpe]; exact h2)
  refine ⟨.slice (some ⟨w.heap.size, 0, none⟩) len len, _, _, .inl ?_, stp_new (c := 0) (obj := .cells ⟨cs⟩ e) hw hn hf0 ⟨fun _ => ⟨cs, [], e, h3.mono (up_ext hf0 (.inl hw.new)), by rw [World.alloc_heap_new]; simp, fun e => absurd rfl e⟩, fun e => (by cases e), fun e => (by cases e), fun e => (by cases e), fun e => (by cases e)⟩, .sl 0 len len (if_pos rfl)⟩
  simp only [execOp, ho, Sem.run_bind, hrun, Result.andThen_ok, Sem.run_pure]
/-- a slice's first cells -/
theorem run_first {size n : Nat} {b o' l c : Nat} {xs ys : List Value} {e : TypeId} {fr : Nat × Nat} (hb : w.heap[b]? = some (.cells ⟨xs ++ ys⟩ e fr)) (hn : n * size = 0 ∨ o' + n * size ≤ xs.length) : (Builtin.firstCells size n (.slice (some ⟨b, o', none⟩) l c)).run P w = .ok ⟨(xs.drop o').take (n * size)⟩ w := by
  rcases hn with h0 | hn
  · simp only [Builtin.firstCells, h0]; rfl
  · exact run_loadCells_at hb hn
theorem firstR_some {α : Type} {b o' n : Nat} {k : L → Option α} {r : α} (hk : firstR h b o' n k = some r) : b < h.nx ∧ ((h.at_ b).tg = 0 ∨ (h.at_ b).tg = 4) ∧ (n = 0 ∨ o' + n ≤ (h.at_ b).l.length) ∧ k (((h.at_ b).l.drop o').take n) = some r := by
  obtain ⟨h0, h1, hk⟩ := rowR_some hk
  obtain ⟨q, hq, hk⟩ := bnd_some hk
  obtain ⟨rfl, hl⟩ := vtake_some hq
  rw [vdrop_eq] at hl hk
  refine ⟨h0, h1, ?_, hk⟩
  simp at hl
  omega
theorem firstC_some {α : Type} {size n : Nat} {x : V} {u : Value} {k : L → Option α} {r : α} (hx : VR ι x u) (hw : Wld ι D h w) (hD : x.tg ≠ 4 → D x.a) (hk : firstC size x n h k = some r) :
    ∃ (l : L) (us : List Value), CR ι l us ∧ (∀ W : World, W.heap = w.heap → (Builtin.firstCells size n u).run P W = .ok ⟨us⟩ W) ∧ us.length = n * size ∧ k l = some r := by
  rcases onSl_some hk with ⟨ht, hk⟩ | ⟨ht, hk⟩ | ⟨ht, hk⟩
  · obtain ⟨b', hb, rfl⟩ := hx.sl_inv ht
    obtain ⟨h0, h1, hl, hk⟩ := firstR_some hk
    obtain ⟨xs, ys, e, fr, hxs, hg⟩ := rowR_cells hw h0 (hD (by omega)) hb h1
    have l1 := hxs.len
    have hl : n * size = 0 ∨ x.b + n * size ≤ (h.at_ x.a).l.length := hl
    refine ⟨_, _, (hxs.drop _).take _, fun W hW => run_first (by rw [hW]; exact hg) (by omega), ?_, hk⟩
    simp only [List.length_take, List.length_drop]
    show min (n * size) _ = _
    omega
  · obtain ⟨b', c', hb, hc, rfl, -⟩ := hx.slu_inv ht
    obtain ⟨h0, h1, hl, hk⟩ := firstR_some hk
    obtain ⟨xs, ys, e, fr, hxs, hg⟩ := rowR_cells hw h0 (hD (by omega)) hb h1
    have l1 := hxs.len
    have hl : n * size = 0 ∨ x.b + n * size ≤ (h.at_ x.a).l.length := hl
    refine ⟨_, _, (hxs.drop _).take _, fun W hW => run_first (by rw [hW]; exact hg) (by omega), ?_, hk⟩
    simp only [List.length_take, List.length_drop]
    show min (n * size) _ = _
    omega
  · obtain ⟨hn, hk⟩ := grd_some hk
    have hn := beq_eq hn
    subst hn
    obtain ⟨rfl, -⟩ := hx.nils_inv ht
    exact ⟨[], [], .nil, fun W _ => rfl, by simp, hk⟩
theorem Wld.heap (hw : Wld ι D h w) (e : w'.heap = w.heap) : Wld ι D h w' := by
  refine ⟨hw.nx, fun k b hD hk hi => (hw.ob k b hD hk hi).mono (Ext.refl ι) rfl (by rw [e]), fun k b hi => by rw [e]; exact hw.lt k b hi, hw.inj, hw.gl⟩
theorem Stp.drew {w1 : World} (s : Stp ι D h w.drew ι' h' w1) : Stp ι D h w ι' h' w1 := ⟨s.nx, s.out, s.kap, s.new, s.lw, s.same, s.fr, s.sz, s.os, s.tape, s.output, s.wl⟩
end Ev
end Go.Proofs.YtlbjnkopbabcnaaGreatDoor
end


section
namespace Go.Proofs.YtlbjnkopbabcnaaGreatDoor
namespace Ev
set_option linter.unusedVariables false
set_option linter.unusedSimpArgs false
variable {ι ι' : Im} {D : Nat → Prop} {h h' : Hp} {w w' : World} {P : Program} {t : T} {nt : Nat} {a : Act} {ih : Ih} {ro : Option Nat} {v : V} {o : Oper}
/-- a row moves to a number of its own, whether it stays where it is or not -/
theorem stp_move (hw : Wld ι D h w) {b b' : Nat} {ob : Ob} (hb : b < h.nx) (hD : D b) (hi : ι b = some b') (hl : (h.at_ b).tg ≠ 3 ∧ (h.at_ b).tg ≠ 4) (hn : h.nx < 1000000000) (hf : ι h.nx = none) (hu : Upd w b' w') (ho : ObR (up ι h.nx b' (ι.κ b')) ob w' b') :
    Stp ι D h w (up ι h.nx b' (ι.κ b')) ((h.upd b oDead).add ob) w' := by
  have s1 := stp_set (w' := w') (o := oDead) hw hb hD hi hl hu ObR.dead
  have he := up_ext (ι := ι) (b := b') (c := ι.κ b') hf (.inr rfl)
  have hN : (h.upd b oDead).nx = h.nx := rfl
  have hL : ((h.upd b oDead).add ob).lw = (h.upd b oDead).lw := rfl
  have hlw := upd_lw h b oDead
  have hN2 : ((h.upd b oDead).add ob).nx = h.nx + 1 := rfl
  have ha : ∀ k, k < h.nx → ((h.upd b oDead).add ob).at_ k = (h.upd b oDead).at_ k := fun k hk => by rw [add_at (by omega) ob (by omega), if_neg (by omega)]
  have hnew : ((h.upd b oDead).add ob).at_ h.nx = ob := by rw [add_at (by omega) ob (by omega), if_pos hN.symm]
  have hu' : ∀ k, k < h.nx → up ι h.nx b' (ι.κ b') k = ι k := fun k hk => if_neg (by omega)
  have hkap : ∀ x, (up ι h.nx b' (ι.κ b')).κ x = ι.κ x := fun x => by
    dsimp only [up]
    by_cases e : x = b'
    · rw [if_pos e, e]
    · rw [if_neg e]
  have hd : ((h.upd b oDead).at_ b).tg = 3 := by rw [upd_at hw.nx b oDead hb hb, if_pos rfl]; rfl
  refine ⟨by omega, fun k hk => if_neg (by omega), fun x _ => hkap x, fun k c a1 a2 hc => ?_, s1.lw, fun k hk hh => by rw [ha k hk]; exact s1.same k hk hh, s1.fr, s1.sz, s1.os, s1.tape, s1.output, ?_⟩
  · have e : k = h.nx := by omega
    subst e
    dsimp only [up] at hc
    rw [if_pos rfl] at hc
    injection hc with hc
    subst hc
    exact .inr ⟨b, hb, hD, by rw [hL, hlw]; omega, hi⟩
  · have hw1 := s1.wl
    refine ⟨by omega, fun k c hD' hk hc => ?_, fun k c hc => ?_, fun k k' c hD1 hD2 hk hk' hne h1 h2 => ?_, hw.gl.mono he⟩
    · by_cases e : k = h.nx
      · subst e
        dsimp only [up] at hc
        rw [if_pos rfl] at hc
        injection hc with hc
        subst hc
        rw [hnew]; exact ho
      · have hk' : k < h.nx := by omega
        rw [hu' k hk'] at hc
        rw [ha k hk']
        exact (hw1.ob k c hD' hk' hc).mono he (hkap c) rfl
    · dsimp only [up] at hc
      split at hc
      · injection hc with hc; subst hc; rw [hu.sz]; exact hw.lt b _ hi
      · rw [hu.sz]; exact hw.lt k c hc
    · have two : ∀ q, q < h.nx → (D q ∨ h.nx ≤ q) → ι q = some b' → ((h.upd b oDead).at_ q).tg = 3 := by
        intro q hq hDq hiq
        by_cases eq : q = b
        · subst eq; exact hd
        · have hD3 : D q ∨ (h.upd b oDead).nx ≤ q := hDq
          rw [upd_at hw.nx b oDead hb hq, if_neg eq]
          exact (hw.inj q b b' (hDq.resolve_right (by omega)) hD hq hb eq hiq hi).r3 hl.1 hl.2
      by_cases e : k = h.nx
      · subst e
        have hk2 : k' < h.nx := by omega
        dsimp only [up] at h1
        rw [if_pos rfl] at h1
        injection h1 with h1
        subst h1
        rw [hu' k' hk2] at h2
        exact .inr (.inl (by rw [ha k' hk2]; exact two k' hk2 hD2 h2))
      · by_cases e' : k' = h.nx
        · subst e'
          have hk2 : k < h.nx := by omega
          dsimp only [up] at h2
          rw [if_pos rfl] at h2
          injection h2 with h2
          subst h2
          rw [hu' k hk2] at h1
          exact .inl (by rw [ha k hk2]; exact two k hk2 hD1 h1)
        · have c1 : k < h.nx := by omega
          have c2 : k' < h.nx := by omega
          rw [hu' k c1] at h1
          rw [hu' k' c2] at h2
          rw [ha k c1, ha k' c2]
          exact hw1.inj k k' c hD1 hD2 c1 c2 hne h1 h2
/-- a row that only grows stays to be read, and goes on under a number of its own -/
theorem stp_tip (hw : Wld ι D h w) {b b' sz : Nat} {l new : L} {xs ys ys' : List Value} {e : TypeId} {fr : Nat × Nat} (hb : b < h.nx) (hD : D b) (hi : ι b = some b') (ht : (h.at_ b).tg = 4) (hz : (h.at_ b).sz ≠ 0) (hl : (h.at_ b).l = l) (hx : CR ι l xs) (hn : h.nx < 1000000000) (hf : ι h.nx = none)
    (hc : w.heap[b']? = some (.cells ⟨xs ++ ys⟩ e fr)) (hu : Upd w b' w') (hc' : w'.heap[b']? = some (.cells ⟨xs ++ ys'⟩ e fr)) (ho : ObR (up ι h.nx b' (ι.κ b')) (oTip sz (l ++ new)) w' b') :
    Stp ι D h w (up ι h.nx b' (ι.κ b')) ((h.upd b (oRd l)).add (oTip sz (l ++ new))) w' := by
  have he := up_ext (ι := ι) (b := b') (c := ι.κ b') hf (.inr rfl)
  have hN : (h.upd b (oRd l)).nx = h.nx := rfl
  have hL : ((h.upd b (oRd l)).add (oTip sz (l ++ new))).lw = (h.upd b (oRd l)).lw := rfl
  have hlw := upd_lw h b (oRd l)
  have hN2 : ((h.upd b (oRd l)).add (oTip sz (l ++ new))).nx = h.nx + 1 := rfl
  have ha : ∀ k, k < h.nx → ((h.upd b (oRd l)).add (oTip sz (l ++ new))).at_ k = if k = b then oRd l else h.at_ k := fun k hk => by rw [add_at (by omega) _ (by omega), if_neg (by omega), upd_at hw.nx b _ hb hk]
  have hnew : ((h.upd b (oRd l)).add (oTip sz (l ++ new))).at_ h.nx = oTip sz (l ++ new) := by rw [add_at (by omega) _ (by omega), if_pos hN.symm]
  have hu' : ∀ k, k < h.nx → up ι h.nx b' (ι.κ b') k = ι k := fun k hk => if_neg (by omega)
  have hkap : ∀ x, (up ι h.nx b' (ι.κ b')).κ x = ι.κ x := fun x => by
    dsimp only [up]
    by_cases e : x = b'
    · rw [if_pos e, e]
    · rw [if_neg e]
  -- another number of this block
  have other : ∀ q, q < h.nx → D q → q ≠ b → ι q = some b' → (h.at_ q).tg = 3 ∨ ((h.at_ q).tg = 4 ∧ (h.at_ q).sz = 0 ∧ (h.at_ q).l.length ≤ l.length) := by
    intro q hq hDq hne hiq
    rcases hw.inj q b b' hDq hD hq hb hne hiq hi with r | r | ⟨r1, r2, r3, r4⟩
    · exact .inl r
    · omega
    · obtain ⟨r5, r6⟩ := r4 hz
      exact .inr ⟨r1, r5, by rw [← hl]; exact r6⟩
  refine ⟨by omega, fun k hk => if_neg (by omega), fun x _ => hkap x, fun k c a1 a2 hc => ?_, by omega, fun k hk hh => ?_, fun j hj hk => hu.other j ?_, by rw [hu.sz]; exact Nat.le_refl _, hu.os, hu.tape, hu.output, ?_⟩
  · have e : k = h.nx := by omega
    subst e
    dsimp only [up] at hc
    rw [if_pos rfl] at hc
    injection hc with hc
    subst hc
    exact .inr ⟨b, hb, hD, by rw [hL, hlw]; omega, hi⟩
  · rw [ha k hk, if_neg ?_]
    rintro rfl
    rcases hh with h1 | h1
    · exact h1 hD
    · omega
  · rintro rfl
    exact hk b hb hD (by rw [hL, hlw]; omega) hi
  · refine ⟨by omega, fun k c hD' hk hc2 => ?_, fun k c hc2 => ?_, fun k k' c hD1 hD2 hk hk' hne h1 h2 => ?_, hw.gl.mono he⟩
    · by_cases e1 : k = h.nx
      · subst e1
        dsimp only [up] at hc2
        rw [if_pos rfl] at hc2
        injection hc2 with hc2
        subst hc2
        rw [hnew]; exact ho
      · have hk' : k < h.nx := by omega
        have hDk : D k := hD'.resolve_right (by omega)
        rw [hu' k hk'] at hc2
        rw [ha k hk']
        by_cases e2 : k = b
        · subst e2
          rw [if_pos rfl]
          rw [hi] at hc2
          injection hc2 with hc2
          subst hc2
          exact ⟨fun q => (by cases q), fun q => (by cases q), fun q => (by cases q), fun _ => ⟨xs, ys', e, fr, hx.mono he, hc', fun q => absurd rfl q⟩, fun q => (by cases q)⟩
        · rw [if_neg e2]
          by_cases e3 : c = b'
          · subst e3
            rcases other k hk' hDk e2 hc2 with r | ⟨r1, r2, r3⟩
            · exact ObR.of3 r
            · obtain ⟨x1, y1, e4, fr4, g1, g2, _⟩ := (hw.ob k c hDk hk' hc2).rd r1
              rw [hc] at g2
              injection g2 with g2
              injection g2 with g2 g3 g4
              injection g2 with g2
              have lx := hx.len
              have l1 := g1.len
              have e5 : x1 = xs.take x1.length := by
                have := congrArg (List.take x1.length) g2
                rw [List.take_append_of_le_length (by omega), List.take_left'  rfl] at this
                exact this.symm
              refine ⟨fun q => (by omega), fun q => (by omega), fun q => (by omega), fun _ => ⟨x1, xs.drop x1.length ++ ys', e, fr, g1.mono he, ?_, fun q => absurd r2 q⟩, fun q => (by omega)⟩
              rw [hc', ← List.append_assoc]
              congr 4
              conv => lhs; rw [← List.take_append_drop x1.length xs]
              rw [← e5]
          · exact (hw.ob k c hDk hk' hc2).mono he (hkap c) (hu.other c e3)
    · dsimp only [up] at hc2
      split at hc2
      · injection hc2 with hc2; subst hc2; rw [hu.sz]; exact hw.lt b _ hi
      · rw [hu.sz]; exact hw.lt k c hc2
    · have len2 : l.length ≤ (oTip sz (l ++ new)).l.length := by show l.length ≤ (l ++ new).length; simp
      -- the new number, and an old one
      have two : ∀ q, q < h.nx → (D q ∨ h.nx ≤ q) → ι q = some b' → Sep (((h.upd b (oRd l)).add (oTip sz (l ++ new))).at_ q) (oTip sz (l ++ new)) := by
        intro q hq hDq hiq
        rw [ha q hq]
        by_cases eq : q = b
        · rw [if_pos eq]
          exact .inr (.inr ⟨rfl, rfl, fun q => absurd rfl q, fun _ => ⟨rfl, len2⟩⟩)
        · rw [if_neg eq]
          rcases other q hq (hDq.resolve_right (by omega)) eq hiq with r | ⟨r1, r2, r3⟩
          · exact .inl r
          · exact .inr (.inr ⟨r1, rfl, fun q => absurd r2 q, fun _ => ⟨r2, Nat.le_trans r3 len2⟩⟩)
      have old : ∀ q, q < h.nx → D q → q ≠ b → ι q = some b' → Sep (oRd l) (h.at_ q) := by
        intro q hq hDq eq hiq
        rcases other q hq hDq eq hiq with r | ⟨r1, r2, r3⟩
        · exact .inr (.inl r)
        · exact .inr (.inr ⟨rfl, r1, fun q => absurd rfl q, fun q => absurd r2 q⟩)
      by_cases e1 : k = h.nx
      · subst e1
        have hk2 : k' < h.nx := by omega
        dsimp only [up] at h1
        rw [if_pos rfl] at h1
        injection h1 with h1
        subst h1
        rw [hu' k' hk2] at h2
        rw [hnew]
        exact (two k' hk2 hD2 h2).symm
      · by_cases e' : k' = h.nx
        · subst e'
          have hk2 : k < h.nx := by omega
          dsimp only [up] at h2
          rw [if_pos rfl] at h2
          injection h2 with h2
          subst h2
          rw [hu' k hk2] at h1
          rw [hnew]
          exact two k hk2 hD1 h1
        · have c1 : k < h.nx := by omega
          have c2 : k' < h.nx := by omega
          have d1 : D k := hD1.resolve_right (by omega)
          have d2 : D k' := hD2.resolve_right (by omega)
          rw [hu' k c1] at h1
          rw [hu' k' c2] at h2
          rw [ha k c1, ha k' c2]
          by_cases f1 : k = b
          · subst f1
            rw [if_pos rfl, if_neg (Ne.symm hne)]
            rw [hi] at h1
            injection h1 with h1
            subst h1
            exact old k' c2 d2 (Ne.symm hne) h2
          · rw [if_neg f1]
            by_cases f2 : k' = b
            · subst f2
              rw [if_pos rfl]
              rw [hi] at h2
              injection h2 with h2
              subst h2
              exact (old k c1 d1 f1 h1).symm
            · rw [if_neg f2]
              exact hw.inj k k' c d1 d2 c1 c2 hne h1 h2
/-- a row that only grows stays to be read -/
theorem stp_rd (hw : Wld ι D h w) {b b' : Nat} {l : L} (hb : b < h.nx) (hD : D b) (hi : ι b = some b') (ht : (h.at_ b).tg = 4) (hz : (h.at_ b).sz ≠ 0) (hl : (h.at_ b).l = l) : Stp ι D h w ι (h.upd b (oRd l)) w := by
  have hlw := upd_lw h b (oRd l)
  have hN : (h.upd b (oRd l)).nx = h.nx := rfl
  have ha : ∀ k, k < h.nx → (h.upd b (oRd l)).at_ k = if k = b then oRd l else h.at_ k := fun k hk => upd_at hw.nx b _ hb hk
  have old : ∀ q, q < h.nx → D q → q ≠ b → ι q = some b' → Sep (oRd l) (h.at_ q) := by
    intro q hq hDq eq hiq
    rcases hw.inj q b b' hDq hD hq hb eq hiq hi with r | r | ⟨r1, r2, r3, r4⟩
    · exact .inr (.inl r)
    · omega
    · exact .inr (.inr ⟨rfl, r1, fun q => absurd rfl q, fun q => absurd (r4 hz).1 q⟩)
  refine ⟨Nat.le_refl _, fun _ _ => rfl, fun _ _ => rfl, fun k b a1 a2 => absurd a2 (by omega), by omega, fun k hk hh => ?_, fun _ _ _ => rfl, Nat.le_refl _, rfl, rfl, rfl, ?_⟩
  · rw [ha k hk, if_neg ?_]
    rintro rfl
    rcases hh with h1 | h1
    · exact h1 hD
    · omega
  · refine ⟨hw.nx, fun k c hD' hk hc => ?_, hw.lt, fun k k' c hD1 hD2 hk hk' hne h1 h2 => ?_, hw.gl⟩
    · have hk' : k < h.nx := hk
      have hDk : D k := hD'.resolve_right (by omega)
      rw [ha k hk']
      by_cases e : k = b
      · subst e
        rw [if_pos rfl]
        obtain ⟨xs, ys, e1, fr, g1, g2, _⟩ := (hw.ob k c hDk hk' hc).rd ht
        exact ⟨fun q => (by cases q), fun q => (by cases q), fun q => (by cases q), fun _ => ⟨xs, ys, e1, fr, hl ▸ g1, g2, fun q => absurd rfl q⟩, fun q => (by cases q)⟩
      · rw [if_neg e]
        exact hw.ob k c hDk hk' hc
    · have c1 : k < h.nx := hk
      have c2 : k' < h.nx := hk'
      have d1 : D k := hD1.resolve_right (by omega)
      have d2 : D k' := hD2.resolve_right (by omega)
      rw [ha k c1, ha k' c2]
      by_cases f1 : k = b
      · subst f1
        rw [if_pos rfl, if_neg (Ne.symm hne)]
        rw [hi] at h1
        injection h1 with h1
        subst h1
        exact old k' c2 d2 (Ne.symm hne) h2
      · rw [if_neg f1]
        by_cases f2 : k' = b
        · subst f2
          rw [if_pos rfl]
          rw [hi] at h2
          injection h2 with h2
          subst h2
          exact (old k c1 d1 f1 h1).symm
        · rw [if_neg f2]
          exact hw.inj k k' c d1 d2 c1 c2 hne h1 h2
/-- a row that is made anew -/
theorem ObR.grown {bytes sz b : Nat} {l : L} {xs ys : List Value} {e : TypeId} (h1 : CR ι l xs) (h2 : w.heap[b]? = some (.cells ⟨xs ++ ys⟩ e (0, 0))) (h3 : ι.κ b * sz ≤ (xs ++ ys).length) : ObR ι (oG bytes sz l) w b := by
  unfold oG
  rw [ifB_eq]
  split
  · exact ⟨fun q => (by cases q), fun q => (by cases q), fun q => (by cases q), fun _ => ⟨xs, ys, e, _, h1, h2, fun _ => ⟨rfl, h3⟩⟩, fun q => (by cases q)⟩
  · exact ⟨fun _ => ⟨xs, ys, e, h1, h2, fun _ => h3⟩, fun q => (by cases q), fun q => (by cases q), fun q => (by cases q), fun q => (by cases q)⟩
section
variable {x y : Operand} {f g : T → V} {ats : Array TypeId} {ty ty2 e : TypeId} {tys : List TypeId}
theorem cap_bound {n c : Nat} (hc : c < n) : Builtin.nextslicecap n c ≤ 2 * n + 1000 := by
  unfold Builtin.nextslicecap
  split
  · omega
  · split
    · omega
    · have gb : ∀ r c, c < n → Builtin.growBy n r c ≤ 2 * n + 1000 := by
        intro r
        induction r with
        | zero => intro c hc; simp [Builtin.growBy]; omega
        | succ r ih =>
          intro c hc
          unfold Builtin.growBy
          rw [if_neg (by omega)]
          by_cases h2 : c + (c + 768) / 4 < n
          · exact ih _ h2
          · cases r with
            | zero => simp [Builtin.growBy]; omega
            | succ r => unfold Builtin.growBy; rw [if_pos (by omega)]; omega
      exact gb 4 c hc
/-- append: what it does, where there is room, and where there is none -/
structure AppF (P : Program) (ats : Array TypeId) (ty ty2 e e2 : TypeId) (i : TypeInfo) (zv : Value) : Prop where
  a0 : ats[0]? = some ty
  a1 : ats[1]? = some ty2
  u1 : P.underlying ty = some (.slice e)
  u2 : P.underlying ty2 = some (.slice e2)
  hi : P.info? e = some i
  hz : i.zero = some zv
theorem run_app_fit {e2 : TypeId} {i : TypeInfo} {zv : Value} (F : AppF P ats ty ty2 e e2 i zv) {A B : Option Addr} {l c n d : Nat} {us : List Value} {ot : TypeId} (hfit : l + n ≤ c) (hn : (Builtin.firstCells i.size n (.slice B n d)).run P w = .ok ⟨us⟩ w)
    (hs : match A with | none => w' = w | some ad => (storeCells (ad.add (l * i.size)) us).run P w = .ok () w') : (Builtin.append_ ats ot #[.slice A l c, .slice B n d]).run P w = .ok (.slice A (l + n) c) w' := by
  have hsz : (sizeOf e).run P w = .ok i.size w := by rw [run_size F.hi, info_size F.hi]
  have hu2 := F.u2
  cases A with
  | none =>
    subst hs
    simp [Builtin.append_, F.a0, F.a1, run_underlying F.u1, run_underlying F.u2, hsz, Builtin.lenOf, hfit, hn]
  | some ad =>
    simp only at hs
    simp [Builtin.append_, F.a0, F.a1, run_underlying F.u1, run_underlying F.u2, hsz, Builtin.lenOf, hfit, hn, hs]
theorem run_app_grow {e2 : TypeId} {i : TypeInfo} {zv : Value} (F : AppF P ats ty ty2 e e2 i zv) {A B : Option Addr} {l c n d : Nat} {us os : List Value} {ot : TypeId} (hfit : ¬ l + n ≤ c) (h6 : l + n ≤ 1000000) (hb : (l + n) * i.bytes ≤ 1000000)
    (hold : (Builtin.firstCells i.size l (.slice A l c)).run P w.drew = .ok ⟨os⟩ w.drew) (hn : (Builtin.firstCells i.size n (.slice B n d)).run P w.drew = .ok ⟨us⟩ w.drew) (hzs : zv.cells.size = i.size) :
    ∃ c' rest, l + n ≤ c' ∧ rest.length = (c' - (l + n)) * i.size ∧ (Builtin.append_ ats ot #[.slice A l c, .slice B n d]).run P w = .ok (.slice (some ⟨w.heap.size, 0, none⟩) (l + n) c') (w.drew.alloc (.cells ⟨os ++ us ++ rest⟩ e)) := by
  have hsz : (sizeOf e).run P w = .ok i.size w := by rw [run_size F.hi, info_size F.hi]
  have hti : ∀ w : World, (typeInfo e).run P w = .ok i w := fun w => by simp [typeInfo, F.hi]
  have hzv : ∀ w : World, (zeroValue e).run P w = .ok zv w := fun w => by simp [zeroValue, typeInfo, F.hi, F.hz]
  obtain ⟨k, hk, hch⟩ : ∃ k, l + n ≤ k ∧ (choose (.appendCap (l + n) c e)).run P w = .ok k w.drew := ⟨_, Nat.le_add_right _ _, rfl⟩
  have h1 : ¬ (((l + n : Nat) : Int) > IntKind.i64.max ∧ (False ∨ i.bytes = 0)) := by
    have : IntKind.i64.max = 9223372036854775807 := by decide
    rw [this]; omega
  have h2 : ¬ (Builtin.nextslicecap (l + n) c * i.bytes > 2 ^ 48) := by
    have c1 := cap_bound (n := l + n) (c := c) (by omega)
    by_cases hz : i.bytes = 0
    · rw [hz]; omega
    · have c2 : i.bytes ≤ 1000000 := by
        have : 1 * i.bytes ≤ (l + n) * i.bytes := Nat.mul_le_mul_right _ (by omega)
        omega
      have : Builtin.nextslicecap (l + n) c * i.bytes ≤ 2001000 * 1000000 := Nat.mul_le_mul (by omega) c2
      omega
  have hroom : ∀ (n : Nat) (w : World), (askRoom n).run P w = .ok () w := fun n w => by
    unfold askRoom
    split <;> rfl
  refine ⟨k, (Builtin.zeroCells zv.cells (k - (l + n))).toList, hk, by simp [Builtin.zeroCells, hzs], ?_⟩
  have h1' : ¬ ((((l + n : Nat) : Int) > IntKind.i64.max) ∧ (false = true ∨ i.bytes = 0)) := by
    rintro ⟨q, _⟩
    have : IntKind.i64.max = 9223372036854775807 := by decide
    rw [this] at q; omega
  unfold Builtin.append_
  simp only [F.a0, F.a1, List.getElem?_toArray, Sem.run_bind, run_underlying F.u1, run_underlying F.u2, Result.andThen_ok, Sem.run_pure, hsz, Builtin.lenOf, List.getElem?_cons_zero, List.getElem?_cons_succ, Bool.false_eq_true, if_false, Bool.not_false, if_true, hfit, hti, h1, h2, hch, hroom, hold, hn, hzv, newRow, newObj]
  have harr : ((⟨os⟩ : Array Value) ++ (⟨us⟩ : Array Value) ++ Builtin.zeroCells zv.cells (k - (l + n))) = ⟨os ++ us ++ (Builtin.zeroCells zv.cells (k - (l + n))).toList⟩ := Array.toList_inj.1 (by simp)
  rw [harr]
  rfl
theorem appF {tys : List TypeId} {e2 : TypeId} {i : TypeInfo} {z : L} (ha : ats.toList = ty :: ty2 :: tys) (hu : P.underlying ty = some (.slice e)) (hu2 : P.underlying ty2 = some (.slice e2)) (hi : P.info? e = some i) (hz : zeroC P e = some z) : ∃ zv, AppF P ats ty ty2 e e2 i zv ∧ zv.cells.size = i.size := by
  obtain ⟨i', z1, hz⟩ := bnd_some hz
  obtain rfl : i' = i := by rw [hi] at z1; injection z1 with z1; exact z1.symm
  obtain ⟨zv, z2, hz⟩ := bnd_some hz
  obtain ⟨z3, hz⟩ := grd_some hz
  exact ⟨zv, ⟨by rw [← Array.getElem?_toList, ha]; rfl, by rw [← Array.getElem?_toList, ha]; rfl, hu, hu2, hi, z2⟩, by have := beq_eq z3; simpa using this⟩
theorem slice_form {z : V} {u : Value} (hz : VR ι z u) (ht : z.tg = 5 ∨ z.tg = 6 ∨ z.tg = 4) : ∃ B d, u = .slice B (if z.tg = 4 then 0 else z.c) d := by
  obtain ⟨b, c, e, -⟩ := hz.slice_inv ht
  exact ⟨b, c, e⟩
theorem grown_some {size bytes need : Nat} {old new : L} (hr : grown size bytes old new need h = some (v, h')) : need ≤ 1000000 ∧ need * bytes ≤ 1000000 ∧ h.nx < 1000000000 ∧ v = vSlu h.nx 0 need ∧ h' = h.add (oG bytes size (old ++ new)) := by
  obtain ⟨hk, hr⟩ := grd_some hr
  obtain ⟨k1, k2⟩ := ifB_and hk
  obtain ⟨hn, hr⟩ := newB_some hr
  injection hr with hr
  injection hr with e1 e2
  exact ⟨ble_le k1, ble_le k2, hn, e1.symm, by rw [← e2, vapp_eq]⟩
theorem grown_ok {i : TypeInfo} {e2 : TypeId} {zv : Value} {old new : L} {os us : List Value} {l c n d : Nat} {A B : Option Addr} (ho : o.op = .call { callee := .builtin .append, args := #[x, y], argTypes := ats }) (F : AppF P ats ty ty2 e e2 i zv) (hzs : zv.cells.size = i.size)
    (hx : a.eval x = .slice A l c) (hy : a.eval y = .slice B n d) (hfit : ¬ l + n ≤ c) (h1 : CR ι old os) (h2 : CR ι new us) (hl1 : os.length = l * i.size) (hl2 : us.length = n * i.size)
    (hf1 : (Builtin.firstCells i.size l (.slice A l c)).run P w.drew = .ok ⟨os⟩ w.drew) (hf2 : (Builtin.firstCells i.size n (.slice B n d)).run P w.drew = .ok ⟨us⟩ w.drew)
    (hw : Wld ι D h w) (hr : grown i.size i.bytes old new (l + n) h = some (v, h')) (hf0 : ι h.nx = none) : Res1 P a o ι D h w v h' := by
  obtain ⟨k1, k2, hn, rfl, rfl⟩ := grown_some hr
  obtain ⟨c', rest, hc', hrl, hrun⟩ := run_app_grow (P := P) (w := w) (ot := o.type) F hfit k1 k2 hf1 hf2 hzs
  refine ⟨.slice (some ⟨w.heap.size, 0, none⟩) (l + n) c', _, _, .inl ?_, Stp.drew (stp_new (w := w.drew) (c := c') (obj := .cells ⟨os ++ us ++ rest⟩ e) (hw.heap rfl) hn hf0 (ObR.grown (e := e) (xs := os ++ us) (ys := rest) ?_ (by rw [World.alloc_heap_new]) ?_)), .slu 0 (if_pos rfl) hc' (fun _ => (if_pos rfl).symm)⟩
  · simp [execOp, ho, resolve, invoke, builtin, hx, hy, hrun]
  · exact (h1.app h2).mono (up_ext hf0 (.inl hw.new))
  · show (if w.heap.size = w.heap.size then c' else ι.κ w.heap.size) * i.size ≤ _
    rw [if_pos rfl]
    simp only [List.length_append, hl1, hl2, hrl]
    have : c' * i.size = (l + n) * i.size + (c' - (l + n)) * i.size := by rw [← Nat.add_mul]; congr 1; omega
    rw [this, Nat.add_mul]
    omega
theorem ok_app {tys : List TypeId} {e2 : TypeId} {i : TypeInfo} {z : L} (ho : o.op = .call { callee := .builtin .append, args := #[x, y], argTypes := ats }) (ha : ats.toList = ty :: ty2 :: tys) (hu : P.underlying ty = some (.slice e)) (hu2 : P.underlying ty2 = some (.slice e2)) (hi : P.info? e = some i) (hz : zeroC P e = some z)
    (h1 : cO nt x = some f) (h2 : cO nt y = some g) (hO : Opd ι nt t a o.op.operands) (hw : Wld ι D h w) (hD : ∀ k, D k) (hr : opApp i.size i.bytes f g ih ro t h = some (v, h')) (hf : Fresh ι h h') : Res1 P a o ι D h w v h' := by
  have v1 := hO x (by simp [ho, Op.operands, Call.operands]) f h1
  have v2 := hO y (by simp [ho, Op.operands, Call.operands]) g h2
  obtain ⟨zv, F, hzs⟩ := appF ha hu hu2 hi hz
  obtain ⟨tg, hr⟩ := slen_some hr
  obtain ⟨B, d, ey⟩ := slice_form v2 tg
  generalize hn : (if (g t).tg = 4 then 0 else (g t).c) = n at hr ey
  obtain ⟨new, us, hcr, hfn, hul, hr⟩ := firstC_some (P := P) (w := w) v2 hw (fun _ => hD _) hr
  rw [ey] at hfn
  rcases onSl_some hr with ⟨ht, hr⟩ | ⟨ht, hr⟩ | ⟨ht, hr⟩
  · obtain ⟨b', hb', ex⟩ := v1.sl_inv ht
    rcases ifB_some hr with ⟨hc, hr⟩ | ⟨hc, hr⟩
    · obtain ⟨h2', hp, hr⟩ := bnd_some hr
      injection hr with hr
      injection hr with e1 e2
      subst e1 e2
      obtain ⟨w', hs, hst, -⟩ := putCells_ok (P := P) hw hp (hD _) hb' hcr
      have hfit : (f t).c + n ≤ (f t).d := ble_le hc
      have hs' : (storeCells ((⟨b', (f t).b, none⟩ : Addr).add ((f t).c * i.size)) us).run P w = .ok () w' := by rw [add_addr]; exact hs
      have hrun := run_app_fit (P := P) (w := w) (w' := w') (ot := o.type) (A := some ⟨b', (f t).b, none⟩) F hfit (hfn w rfl) hs'
      refine ⟨.slice (some ⟨b', (f t).b, none⟩) ((f t).c + n) (f t).d, w', ι, .inl ?_, hst, .sl _ _ _ hb'⟩
      simp [execOp, ho, resolve, invoke, builtin, ex, ey, hrun]
    · obtain ⟨r0, r1, r2, hr⟩ := firstR_some hr
      obtain ⟨xs, ys, e', fr', hxs, hg⟩ := rowR_cells hw r0 (hD _) hb' r1
      have l1 := hxs.len
      have hfit : ¬ (f t).c + n ≤ (f t).d := by have : (f t).d < (f t).c + n := not_ble hc; omega
      have r2 : (f t).c * i.size = 0 ∨ (f t).b + (f t).c * i.size ≤ (h.at_ (f t).a).l.length := r2
      refine grown_ok ho F hzs ex ey hfit ((hxs.drop (f t).b).take ((f t).c * i.size)) hcr ?_ hul (run_first hg (by omega)) (hfn _ rfl) hw hr ?_
      · simp only [List.length_take, List.length_drop]; omega
      · obtain ⟨-, -, -, -, e⟩ := grown_some hr
        exact hf h.nx (Nat.le_refl _) (by rw [e]; exact Nat.lt_succ_self _)
  · obtain ⟨b', c', hb', hcc, ex, hkc⟩ := v1.slu_inv ht
    obtain ⟨r0, r1, hr⟩ := rowR_some hr
    obtain ⟨old, ho1, hr⟩ := bnd_some hr
    obtain ⟨hk, hr⟩ := grd_some hr
    obtain ⟨k1, hk⟩ := ifB_and hk
    obtain ⟨k2, k3⟩ := ifB_and hk
    obtain ⟨rfl, hl⟩ := vtake_some ho1
    have k1 := beq_eq k1
    have k2 : (h.at_ (f t).a).sz = i.size := beq_eq k2
    have k3 := blt_lt k3
    have hl : (f t).c * i.size ≤ (h.at_ (f t).a).l.length := hl
    rw [k1] at ex
    rcases ifB_some hr with ⟨ht4, hr⟩ | ⟨ht4, hr⟩
    · have ht4 : (h.at_ (f t).a).tg = 4 := beq_eq ht4
      obtain ⟨h24, hr⟩ := grd_some hr
      obtain ⟨h24, hvl⟩ := ifB_and h24
      have hvl : (h.at_ (f t).a).l.length = (f t).c * i.size := by have := beq_eq hvl; rwa [vlen_eq] at this
      obtain ⟨h2', hp, hr⟩ := bnd_some hr
      obtain ⟨hb, rfl⟩ := setB_some hp
      have hr : grown i.size i.bytes (h.at_ (f t).a).l new ((f t).c + n) (h.upd (f t).a (oRd (h.at_ (f t).a).l)) = some (v, h') := hr
      obtain ⟨xs, ys, e', fr', hold, hg, hsz⟩ := (hw.ob (f t).a b' (hD _) r0 hb').rd ht4
      obtain ⟨rfl, hsz2⟩ := hsz (by omega)
      have l1 := hold.len
      by_cases hfit : (f t).c + n ≤ c'
      · obtain ⟨k4, k5, hn', rfl, rfl⟩ := grown_some hr
        have hn0 : h.nx < 1000000000 := hn'
        have hf0 : ι h.nx = none := hf h.nx (Nat.le_refl _) (Nat.lt_succ_self _)
        have hck := hkc k1
        have hlen : ((f t).c + n) * i.size ≤ (xs ++ ys).length := by
          rw [k2, ← hck] at hsz2
          exact Nat.le_trans (Nat.mul_le_mul_right _ hfit) hsz2
        rw [Nat.add_mul] at hlen
        have hs := run_storeCells_at (P := P) b' ((f t).c * i.size) e' us 0 ⟨xs ++ ys⟩ w hg (by show (f t).c * i.size + 0 + us.length ≤ (xs ++ ys).length; omega) hcr.one
        have hA : (⟨b', 0, none⟩ : Addr).add ((f t).c * i.size) = ⟨b', (f t).c * i.size, none⟩ := by rw [add_addr, Nat.zero_add]
        have hr' := setRow_heap w b' ⟨xs ++ ys⟩ (((xs ++ ys).take ((f t).c * i.size + 0) ++ us ++ (xs ++ ys).drop ((f t).c * i.size + 0 + us.length)).toArray) e' (0, 0) hg
        obtain ⟨W2, hW2⟩ : ∃ W, W = w.setRow b' (((xs ++ ys).take ((f t).c * i.size + 0) ++ us ++ (xs ++ ys).drop ((f t).c * i.size + 0 + us.length)).toArray) := ⟨_, rfl⟩
        have hup : Upd w b' W2 := by subst hW2; exact ⟨by simp, rfl, rfl, rfl, fun j hj => setRow_other w b' j _ hj⟩
        have hs' : (storeCells ((⟨b', 0, none⟩ : Addr).add ((f t).c * i.size)) us).run P w = .ok () W2 := by rw [hA, hW2]; exact hs
        rw [← hW2] at hr'
        have hrun := run_app_fit (P := P) (w := w) (w' := W2) (ot := o.type) (A := some ⟨b', 0, none⟩) F hfit (hfn w rfl) hs'
        have hxl : xs.length = (f t).c * i.size := by omega
        have hr2 : W2.heap[b']? = some (.cells ⟨xs ++ (us ++ ys.drop us.length)⟩ e' (0, 0)) := by
          rw [hr']
          congr 2
          show _ = (xs ++ (us ++ ys.drop us.length)).toArray
          congr 1
          rw [Nat.add_zero, ← hxl, List.take_left' rfl, List.drop_append, List.append_assoc]
          have : xs.length + us.length - xs.length = us.length := by omega
          rw [this, List.drop_eq_nil_of_le (by omega), List.nil_append]
        have hl2 : (xs ++ us ++ ys.drop us.length).length = (xs ++ ys).length := by
          simp only [List.length_append, List.length_drop] at hlen ⊢
          omega
        have hoG : oG i.bytes i.size ((h.at_ (f t).a).l ++ new) = oTip i.size ((h.at_ (f t).a).l ++ new) := by unfold oG; rw [ifB_true h24]
        rw [hoG]
        refine ⟨.slice (some ⟨b', 0, none⟩) ((f t).c + n) c', W2, _, .inl ?_, stp_tip (sz := i.size) (new := new) hw hb (hD _) hb' ht4 (by omega) rfl hold hn0 hf0 hg hup hr2 ?_, .slu 0 (if_pos rfl) hfit (fun _ => by rw [hck]; exact (if_pos rfl).symm)⟩
        · simp [execOp, ho, resolve, invoke, builtin, ex, ey, hrun]
        · rw [← hoG]
          refine ObR.grown (e := e') (xs := xs ++ us) (ys := ys.drop us.length) ((hold.app hcr).mono (up_ext hf0 (.inr rfl))) (by rw [hr2, List.append_assoc]) ?_
          show (if b' = b' then ι.κ b' else ι.κ b') * i.size ≤ _
          rw [if_pos rfl, hl2, ← k2]
          exact hsz2
      · have s1 := stp_rd hw hb (hD _) hb' ht4 (by omega) rfl
        have hD2 : (fun k => D k ∨ h.nx ≤ k) = D := funext fun k => by simp [hD k]
        have hw1 := s1.wl
        rw [hD2] at hw1
        have g0 : Res1 P a o ι D (h.upd (f t).a (oRd (h.at_ (f t).a).l)) w v h' := grown_ok ho F hzs ex ey hfit hold hcr (by omega) hul (by
            have := run_first (P := P) (w := w.drew) (size := i.size) (n := (f t).c) (o' := 0) (l := (f t).c) (c := c') hg (by omega)
            rw [List.drop_zero, List.take_of_length_le (by omega)] at this
            exact this) (hfn _ rfl) hw1 hr (by
            obtain ⟨-, -, -, -, e⟩ := grown_some hr
            exact hf h.nx (Nat.le_refl _) (by rw [e]; exact Nat.lt_succ_self _))
        obtain ⟨v', w2, ι2, g1, g2, g3⟩ := g0
        refine ⟨v', w2, ι2, g1, s1.trans ?_, g3⟩
        rw [hD2]
        exact g2
    obtain ⟨h24, hr⟩ := grd_some hr
    obtain ⟨h2', hp, hr⟩ := bnd_some hr
    obtain ⟨hb, rfl⟩ := setB_some hp
    have hr : grown i.size i.bytes ((h.at_ (f t).a).l.take ((f t).c * i.size)) new ((f t).c + n) (h.upd (f t).a oDead) = some (v, h') := hr
    have r1 : (h.at_ (f t).a).tg = 0 := r1.resolve_right (not_beq ht4)
    have hoG : ∀ l, oG i.bytes i.size l = oGr i.size l := fun l => by unfold oG; rw [ifB_false (by simpa using h24)]
    obtain ⟨xs, ys, e', hxs, hg, hsz⟩ := row_cells hw r0 (hD _) hb' r1
    have l1 := hxs.len
    have hold : CR ι ((h.at_ (f t).a).l.take ((f t).c * i.size)) (xs.take ((f t).c * i.size)) := hxs.take _
    by_cases hfit : (f t).c + n ≤ c'
    · obtain ⟨k4, k5, hn', rfl, rfl⟩ := grown_some hr
      have hn0 : h.nx < 1000000000 := hn'
      have hf0 : ι h.nx = none := hf h.nx (Nat.le_refl _) (Nat.lt_succ_self _)
      have hck := hkc k1
      have hlen : ((f t).c + n) * i.size ≤ (xs ++ ys).length := by
        have q := hsz (by omega)
        rw [k2, ← hck] at q
        exact Nat.le_trans (Nat.mul_le_mul_right _ hfit) q
      rw [Nat.add_mul] at hlen
      have hs := run_storeCells_at (P := P) b' ((f t).c * i.size) e' us 0 ⟨xs ++ ys⟩ w hg (by show (f t).c * i.size + 0 + us.length ≤ (xs ++ ys).length; omega) hcr.one
      have hA : (⟨b', 0, none⟩ : Addr).add ((f t).c * i.size) = ⟨b', (f t).c * i.size, none⟩ := by rw [add_addr, Nat.zero_add]
      have hr' := setRow_heap w b' ⟨xs ++ ys⟩ (((xs ++ ys).take ((f t).c * i.size + 0) ++ us ++ (xs ++ ys).drop ((f t).c * i.size + 0 + us.length)).toArray) e' (0, 0) hg
      obtain ⟨W2, hW2⟩ : ∃ W, W = w.setRow b' (((xs ++ ys).take ((f t).c * i.size + 0) ++ us ++ (xs ++ ys).drop ((f t).c * i.size + 0 + us.length)).toArray) := ⟨_, rfl⟩
      have hup : Upd w b' W2 := by subst hW2; exact ⟨by simp, rfl, rfl, rfl, fun j hj => setRow_other w b' j _ hj⟩
      have hs' : (storeCells ((⟨b', 0, none⟩ : Addr).add ((f t).c * i.size)) us).run P w = .ok () W2 := by rw [hA, hW2]; exact hs
      rw [← hW2] at hr'
      have hrun := run_app_fit (P := P) (w := w) (w' := W2) (ot := o.type) (A := some ⟨b', 0, none⟩) F hfit (hfn w rfl) hs'
      rw [hoG]
      refine ⟨.slice (some ⟨b', 0, none⟩) ((f t).c + n) c', W2, _, .inl ?_, stp_move (ob := oGr i.size ((h.at_ (f t).a).l.take ((f t).c * i.size) ++ new)) hw hb (hD _) hb' ⟨by omega, by omega⟩ hn0 hf0 hup ⟨fun _ => ⟨xs.take ((f t).c * i.size) ++ us, (xs ++ ys).drop ((f t).c * i.size + us.length), e', ?_, ?_, fun _ => ?_⟩, fun e => (by cases e), fun e => (by cases e), fun e => (by cases e), fun e => (by cases e)⟩, .slu 0 (if_pos rfl) hfit (fun _ => by rw [hck]; exact (if_pos rfl).symm)⟩
      · simp [execOp, ho, resolve, invoke, builtin, ex, ey, hrun]
      · exact (hold.app hcr).mono (up_ext hf0 (.inr rfl))
      · rw [hr']
        congr 2
        show _ = (xs.take ((f t).c * i.size) ++ us ++ (xs ++ ys).drop ((f t).c * i.size + us.length)).toArray
        congr 1
        rw [Nat.add_zero, List.take_append_of_le_length (by omega)]
      · show (if b' = b' then ι.κ b' else ι.κ b') * i.size ≤ _
        rw [if_pos rfl]
        have q := hsz (by omega)
        rw [k2] at q
        have e1 : (xs.take ((f t).c * i.size) ++ us ++ (xs ++ ys).drop ((f t).c * i.size + us.length)).length = (xs ++ ys).length := by
          simp only [List.length_append, List.length_take, List.length_drop] at hlen ⊢
          omega
        rw [e1]; exact q
    · have s1 := stp_set (w' := w) (o := oDead) hw hb (hD _) hb' ⟨by omega, by omega⟩ ⟨rfl, rfl, rfl, rfl, fun _ _ => rfl⟩ ObR.dead
      have hD2 : (fun k => D k ∨ h.nx ≤ k) = D := funext fun k => by simp [hD k]
      have hw1 := s1.wl
      rw [hD2] at hw1
      have hnx : (h.upd (f t).a oDead).nx = h.nx := rfl
      have g0 : Res1 P a o ι D (h.upd (f t).a oDead) w v h' := grown_ok ho F hzs ex ey hfit hold hcr (by simp; omega) hul (by
          have := run_first (P := P) (w := w.drew) (size := i.size) (n := (f t).c) (o' := 0) (l := (f t).c) (c := c') hg (by omega)
          simpa using this) (hfn _ rfl) hw1 hr (by
          obtain ⟨-, -, -, -, e⟩ := grown_some hr
          exact hf h.nx (Nat.le_refl _) (by rw [e]; exact Nat.lt_succ_self _))
      obtain ⟨v', w2, ι2, g1, g2, g3⟩ := g0
      refine ⟨v', w2, ι2, g1, s1.trans ?_, g3⟩
      rw [hD2]
      exact g2
  · obtain ⟨ex, -⟩ := v1.nils_inv ht
    rcases ifB_some hr with ⟨hc, hr⟩ | ⟨hc, hr⟩
    · have hc := beq_eq hc
      subst hc
      injection hr with hr
      injection hr with e1 e2
      subst e1 e2
      have hrun := run_app_fit (P := P) (w := w) (w' := w) (ot := o.type) (A := none) (l := 0) (c := 0) F (Nat.le_of_eq (by omega)) (hfn w rfl) rfl
      refine Res1.pure hw (v' := .slice none 0 0) ?_ .nils
      have : (0 + 0 : Nat) = 0 := rfl
      simp [execOp, ho, resolve, invoke, builtin, ex, ey, hrun]
    · have hc := not_beq hc
      refine grown_ok (old := []) (os := []) (l := 0) (c := 0) ho F hzs ex ey (by omega) .nil hcr (by simp) hul (by simp only [Builtin.firstCells]; rfl) (hfn _ rfl) hw (by rw [Nat.zero_add]; exact hr) ?_
      obtain ⟨-, -, -, -, e⟩ := grown_some hr
      exact hf h.nx (Nat.le_refl _) (by rw [e]; exact Nat.lt_succ_self _)
end
end Ev
end Go.Proofs.YtlbjnkopbabcnaaGreatDoor
end


section
namespace Go.Proofs.YtlbjnkopbabcnaaGreatDoor
namespace Ev
set_option linter.unusedVariables false
set_option linter.unusedSimpArgs false
variable {ι ι' : Im} {D : Nat → Prop} {h h' : Hp} {w w' : World} {P : Program} {t : T} {nt : Nat} {a : Act} {ih : Ih} {ro : Option Nat} {v : V} {o : Oper}
section
variable {x y : Operand} {f g : T → V} {ats : Array TypeId} {ty e : TypeId} {tys : List TypeId}
theorem run_copy {A B : Option Addr} {m n c d k : Nat} {us : List Value} {ot : TypeId} (ha : ats[0]? = some ty) (hu : P.underlying ty = some (.slice e)) {i : TypeInfo} (hi : P.info? e = some i) (hk : Nat.min n m = k) (hn : (Builtin.firstCells (P.cellsOf e) k (.slice B n d)).run P w = .ok ⟨us⟩ w)
    (hs : match A with | none => w' = w | some ad => (storeCells ad us).run P w = .ok () w') : (Builtin.copy_ ats ot #[.slice A m c, .slice B n d]).run P w = .ok (.int .i64 (k : Int)) w' := by
  have hsz : (sizeOf e).run P w = .ok (P.cellsOf e) w := run_size hi w
  cases A with
  | none =>
    subst hs
    simp [Builtin.copy_, ha, run_underlying hu, hsz, Builtin.lenOf, hk, hn, goInt]
  | some ad =>
    simp only at hs
    simp [Builtin.copy_, ha, run_underlying hu, hsz, Builtin.lenOf, hk, hn, hs, goInt]
theorem ok_copy {i : TypeInfo} (ho : o.op = .call { callee := .builtin .copy, args := #[x, y], argTypes := ats }) (ha : ats.toList = ty :: tys) (hu : P.underlying ty = some (.slice e)) (hi : P.info? e = some i)
    (h1 : cO nt x = some f) (h2 : cO nt y = some g) (hO : Opd ι nt t a o.op.operands) (hw : Wld ι D h w) (hD : ∀ k, D k) (hr : opCopy (P.cellsOf e) f g ih ro t h = some (v, h')) : Res1 P a o ι D h w v h' := by
  have v1 := hO x (by simp [ho, Op.operands, Call.operands]) f h1
  have v2 := hO y (by simp [ho, Op.operands, Call.operands]) g h2
  have ha0 : ats[0]? = some ty := by rw [← Array.getElem?_toList, ha]; rfl
  obtain ⟨t1, hr⟩ := slen_some hr
  obtain ⟨t2, hr⟩ := slen_some hr
  obtain ⟨A, c, ex⟩ := slice_form v1 t1
  obtain ⟨B, d, ey⟩ := slice_form v2 t2
  generalize hm : (if (f t).tg = 4 then 0 else (f t).c) = m at hr ex
  generalize hn : (if (g t).tg = 4 then 0 else (g t).c) = n at hr ey
  rw [fN_eq] at hr
  have hk : ifB (Nat.ble n m) n m = Nat.min n m := by
    rw [ifB_eq]
    by_cases q : n ≤ m
    · rw [if_pos (Nat.ble_eq_true_of_le q)]; exact (Nat.min_eq_left q).symm
    · rw [if_neg (fun e => q (ble_le e))]; exact (Nat.min_eq_right (by omega)).symm
  rw [hk] at hr
  generalize hmin : Nat.min n m = k at hr
  obtain ⟨new, us, hcr, hfn, hul, hr⟩ := firstC_some (P := P) (w := w) v2 hw (fun _ => hD _) hr
  rw [ey] at hfn
  have fin : ∀ w', (Builtin.copy_ ats o.type #[.slice A m c, .slice B n d]).run P w = .ok (.int .i64 (k : Int)) w' → (execOp a.eval o).run P w = .ok (.value (.int .i64 (k : Int))) w' := by
    intro w' hh
    simp [execOp, ho, resolve, invoke, builtin, ex, ey, hh]
  rcases onSl_some hr with ⟨ht, hr⟩ | ⟨ht, hr⟩ | ⟨ht, hr⟩
  · obtain ⟨h2', hp, hr⟩ := bnd_some hr
    injection hr with hr
    injection hr with e1 e2
    subst e1 e2
    obtain ⟨b', hb', ex'⟩ := v1.sl_inv ht
    obtain ⟨w', hs, hst, -⟩ := putCells_ok (P := P) hw hp (hD _) hb' hcr
    have hA : A = some ⟨b', (f t).b, none⟩ := by rw [ex] at ex'; injection ex'
    subst hA
    exact ⟨_, w', ι, .inl (fin w' (run_copy ha0 hu hi hmin (hfn w rfl) hs)), hst, .int .i64 _⟩
  · obtain ⟨h2', hp, hr⟩ := bnd_some hr
    injection hr with hr
    injection hr with e1 e2
    subst e1 e2
    obtain ⟨b', c', hb', -, ex', -⟩ := v1.slu_inv ht
    obtain ⟨w', hs, hst, -⟩ := putCells_ok (P := P) hw hp (hD _) hb' hcr
    have hA : A = some ⟨b', (f t).b, none⟩ := by rw [ex] at ex'; injection ex'
    subst hA
    exact ⟨_, w', ι, .inl (fin w' (run_copy ha0 hu hi hmin (hfn w rfl) hs)), hst, .int .i64 _⟩
  · injection hr with hr
    injection hr with e1 e2
    subst e1 e2
    obtain ⟨ex', -⟩ := v1.nils_inv ht
    have hA : A = none := by rw [ex] at ex'; injection ex'
    subst hA
    have hk0 : k = 0 := by
      rw [if_pos ht] at hm
      rw [← hmin, ← hm]; exact Nat.min_zero n
    subst hk0
    exact Res1.pure hw (fin w (run_copy (w' := w) ha0 hu hi hmin (hfn w rfl) rfl)) (.int .i64 0)
theorem ok_clear {z : L} (ho : o.op = .call { callee := .builtin .clear, args := #[x], argTypes := ats }) (ha : ats.toList = ty :: tys) (hu : P.underlying ty = some (.slice e)) (hz : zeroC P e = some z)
    (h1 : cO nt x = some f) (hO : Opd ι nt t a o.op.operands) (hw : Wld ι D h w) (hD : ∀ k, D k) (hr : opClear z f ih ro t h = some (v, h')) : Res1 P a o ι D h w v h' := by
  have v1 := hO x (by simp [ho, Op.operands, Call.operands]) f h1
  have ha0 : ats[0]? = some ty := by rw [← Array.getElem?_toList, ha]; rfl
  obtain ⟨i, z1, hz⟩ := bnd_some hz
  obtain ⟨zv, z2, hz⟩ := bnd_some hz
  obtain ⟨z3, hz⟩ := grd_some hz
  have z3 : zv.cells.size = i.size := by have := beq_eq z3; simpa using this
  have hzr : (zeroValue e).run P w = .ok zv w := by simp [zeroValue, typeInfo, z1, z2]
  have fin : ∀ {A : Option Addr} {n c : Nat} {w' : World}, a.eval x = .slice A n c → (match A with | none => w' = w | some ad => (storeCells ad (List.replicate n zv.cells.toList).flatten).run P w = .ok () w') → (execOp a.eval o).run P w = .ok (.value undef) w' := by
    intro A n c w' ex hs
    have hcl : (Builtin.clear_ ats o.type #[.slice A n c]).run P w = .ok (.tuple #[]) w' := by
      cases A with
      | none => subst hs; simp [Builtin.clear_, ha0, run_underlying hu]
      | some ad =>
        cases n with
        | zero =>
          have : w' = w := by
            have q : (storeCells ad (List.replicate 0 zv.cells.toList).flatten).run P w = .ok () w := rfl
            simp only at hs
            rw [q] at hs
            injection hs with _ hs
            exact hs.symm
          subst this
          simp [Builtin.clear_, ha0, run_underlying hu]
        | succ n =>
          have hmz : (Builtin.zeroCells zv.cells (n + 1)).toList = (List.replicate (n + 1) zv.cells.toList).flatten := by
            have := made_eq zv.cells i.size z3 (n + 1)
            rw [← z3] at this
            exact this
          simp only at hs
          simp only [Builtin.clear_, ha0, Sem.run_bind, run_underlying hu, Result.andThen_ok, hzr, hmz, hs, Sem.run_pure, List.getElem?_toArray, List.getElem?_cons_zero]
    simp [execOp, ho, resolve, invoke, builtin, ex, hcl, undef]
  rcases onSl_some hr with ⟨ht, hr⟩ | ⟨ht, hr⟩ | ⟨ht, hr⟩
  · obtain ⟨h2', hp, hr⟩ := bnd_some hr
    injection hr with hr
    injection hr with e1 e2
    subst e1 e2
    obtain ⟨b', hb', ex'⟩ := v1.sl_inv ht
    obtain ⟨w', hs, hst, -⟩ := putCells_ok (P := P) hw hp (hD _) hb' ((cL_ok (ι := ι) hz).rep (f t).c)
    exact ⟨_, w', ι, .inl (fin ex' hs), hst, .und⟩
  · obtain ⟨h2', hp, hr⟩ := bnd_some hr
    injection hr with hr
    injection hr with e1 e2
    subst e1 e2
    obtain ⟨b', c', hb', -, ex', -⟩ := v1.slu_inv ht
    obtain ⟨w', hs, hst, -⟩ := putCells_ok (P := P) hw hp (hD _) hb' ((cL_ok (ι := ι) hz).rep (f t).c)
    exact ⟨_, w', ι, .inl (fin ex' hs), hst, .und⟩
  · injection hr with hr
    injection hr with e1 e2
    subst e1 e2
    obtain ⟨ex', -⟩ := v1.nils_inv ht
    exact Res1.pure hw (fin (w' := w) ex' rfl) .und
end
end Ev
end Go.Proofs.YtlbjnkopbabcnaaGreatDoor
end
