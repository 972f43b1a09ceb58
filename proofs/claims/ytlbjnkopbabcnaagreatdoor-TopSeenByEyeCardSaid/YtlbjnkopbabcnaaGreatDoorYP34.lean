/- PH3 -/
import Derived.Test.YtlbjnkopbabcnaaGreatDoorYP33
import Derived.Test.YtlbjnkopbabcnaaGreatDoorYP26
/- Walks of layer 5's reference and laws: plan05, All, Faded. -/
section
namespace Go.Proofs.YtlbjnkopbabcnaaGreatDoor
open Go.RowKit Go.Shelf
set_option linter.unusedSimpArgs false
set_option linter.unusedVariables false

set_option maxRecDepth 100000 in
set_option maxHeartbeats 4000000 in
theorem plan05_any (ch : Int) (R : Option Addr) (m cr : Nat) (rs : List (RowR Int)) (w : World) (h : RowsI w R m rs) (hm : m ≤ 9223372036854775807) :
    Calls Tryz.prog 34 #[.agg #[.int .i64 ch, .slice R m cr]] w fun e w' => (∃ q : Bool, e = .returned (.bool q) ∧ (q = true ↔ PlanOkI ch m rs)) ∧ Below w.heap.size w w' := by
  have no : ∀ {P : Prop}, ¬ P → (false = true ↔ P) := fun h => ⟨fun e => (by cases e), fun q => absurd q h⟩
  by_cases a1 : 8 < m
  · have hq := Lib.hid (no (fun q : PlanOkI ch m rs => by obtain ⟨k, -, q⟩ := q; have := q.m4; omega))
    have b1 : (8 : Int) < (m : Int) := by omega
    clear h no
    go_enter Tryz.func34, Tryz.ntmps34
    go_wp2_with fail
    go_ret
    exact ⟨⟨false, rfl, hq.out⟩, blA⟩
  have b1 : ¬ (8 : Int) < (m : Int) := by omega
  have kc := fun (V : World) (hV : Below w.heap.size w V) => rcheckPlan_any ch R m cr rs V (h.below hV)
  have Hr := Lib.hid h
  have KC := Lib.hid kc
  have Hno := Lib.hid (fun (i : Nat) (hi : i < m) (hn : 60 < (rwI rs i).n) => no (fun q : PlanOkI ch m rs => by obtain ⟨k, -, q⟩ := q; have h1 := q.len i hi; have h2 := q.k39; omega))
  clear h a1 kc no
  go_enter Tryz.func34, Tryz.ntmps34
  obtain ⟨W0, hW0⟩ : ∃ W0, w.alloc (.cells #[.int .i64 ch, .slice R m cr] 85) = W0 := ⟨_, rfl⟩
  have HB1 : Hid (Cs W0 w.heap.size #[.int .i64 ch, .slice R m cr]) := Lib.hid (by rw [← hW0]; exact csA)
  have Hbw : Hid (Below w.heap.size w W0) := Lib.hid (by rw [← hW0]; exact blA)
  have HW0 := Lib.hid hW0
  clear hW0
  go_wp2_with fail
  go_loopw [3] (fun s3 wx => ∃ (i : Nat) (W : World), i ≤ m ∧ s3 = .int .i64 (i : Nat) ∧ Hid (W = wx) ∧ Hid (Below W0.heap.size W0 W)) (fun s3 _ => m - (intOf s3).toNat)
  case atStart => exact ⟨0, _, Nat.zero_le _, rfl, Lib.hid rfl, Lib.hid (by rw [HW0.out]; exact Below.refl _ _)⟩
  case round =>
    obtain ⟨i, W, hi, rfl, HW, HB⟩ := hrel
    obtain rfl := HW.out
    clear HW
    have hbW := Hbw.out.trans (HB.out.mono Hbw.out.size)
    have HbW := Lib.hid hbW
    have cB1 := (HB1.out.keep HB.out).c
    by_cases hin : i < m
    · obtain ⟨xb, xo, A', n', c', zs', rfl, hg, xlt, xc, hI, hn', _⟩ := Hr.out.atA hbW hin
      have hii : (i : Int) < (m : Int) := by omega
      have Hg : Hid ((rwI rs i).n = n') := Lib.hid (by rw [hg])
      clear hg hI hbW
      by_cases e1 : 60 < n'
      · have hq := Lib.hid (Hno.out i hin (by rw [Hg.out]; exact e1))
        have k1 : (60 : Int) < (n' : Int) := by omega
        go_wp2_with fail
        go_ret
        exact ⟨⟨false, rfl, hq.out⟩, HbW.out⟩
      · have k1 : ¬ (60 : Int) < (n' : Int) := by omega
        clear Hg
        go_wp2_with fail
        go_roundw
        case rel => exact ⟨i + 1, _, by omega, by go_num, Lib.hid rfl, HB⟩
        case measure => simp [intOf]; omega
    · have hii : ¬ (i : Int) < (m : Int) := by omega
      go_wp2_with fail
      refine (KC.out _ HbW.out).mono ?_
      rintro _ w2 ⟨⟨q, rfl, hq⟩, hb2⟩
      have HB2 := Lib.hid (HbW.out.trans (hb2.mono HbW.out.size))
      have Hq := Lib.hid hq
      clear hq hb2
      go_wp2_with fail
      go_ret
      exact ⟨⟨decide (q = 0), by first | rfl | simp [ret_bool], by rw [decide_eq_true_eq]; exact Hq.out⟩, HB2.out⟩

/-- an append of more than one element to a row of the call's own -/
theorem list_appN {T e : TypeId} {z : Value} {s by_ : Nat} (hT : ElemT T e z s by_) {ops : Array Oper} {rest : List Oper} {o : Oper} {a : Act} {w : World} {Q : Exit → Act → World → Prop}
    (hg : o.guard = none) (sl x : Operand) (hop : o.op = Op.call { callee := Callee.builtin Builtin.append, args := #[sl, x], argTypes := #[T, T] })
    (B n : Nat) (v : Value) (xs : List Value) (hs : a.eval sl = v) (hown : w.ownsRow B e s v n xs)
    (b k : Nat) (news : List Value) {t : TypeId} {fr : Nat × Nat} (hx : a.eval x = .slice (some ⟨b, 0, none⟩) k k) (hy : w.heap[b]? = some (.cells ⟨news⟩ t fr)) (hl : news.length = k * s) (h1 : ∀ u ∈ news, u.oneCell' = true) (hk : 0 < k) (hk10 : k ≤ 10) (hn : n ≤ 5000) (hB : B ≤ w.heap.size)
    (hK : ∀ g c' w', w'.ownsRow B e s (.slice (some ⟨g, 0, none⟩) (n + k) c') (n + k) (xs ++ news) → w.grownBy w' v.ownBlock → wpList Tryz.prog ops Q rest (a.put o.dst (.slice (some ⟨g, 0, none⟩) (n + k) c')) w') :
    wpList Tryz.prog ops Q (o :: rest) a w := by
  obtain ⟨hu, hinf, hzc, hs0, hby⟩ := hT
  obtain ⟨i0, hi0, hzz⟩ := Option.map_eq_some_iff.1 hinf
  simp only [Prod.mk.injEq] at hzz
  obtain ⟨hz0, hz1, hz2⟩ := hzz
  have hnews : ∀ j u, news[j]? = some u → w.cell? ((⟨b, 0, none⟩ : Addr).add j) = some u := by
    intro j u hj
    rw [Go.WideShapes.add_plain, Nat.zero_add]
    rw [cell_of_row w b j _ t fr hy]
    simpa using hj
  have hbb : (n + k) * by_ ≤ 6000 * 32 := Nat.mul_le_mul (by omega) hby
  obtain ⟨v', w', hr, ho, hgr, hnil⟩ := run_append_own (P := Tryz.prog) w B T o.type e i0 z s by_ hu hi0 hz0 hz1 hz2 hzc hs0 v n _ hown ⟨b, 0, none⟩ k k news hl hnews h1 (by unfold maxLen; omega) (by omega) hB
  rcases ho.2 with ⟨rfl, h0⟩ | ⟨g', c', cur', rfl, hrest⟩
  · omega
  refine wpList_plain hg fun K hK' => ?_
  unfold Oper.wp execOp
  simp only [hop, resolve, invoke, builtin, Sem.run_bind, Sem.run_pure, Result.andThen_ok, List.map_toArray, List.map_cons, List.map_nil, hs, hx, hr]
  exact hK' _ _ (hK g' c' w' ho hgr)

/-- all cases of a plan -/
def allL : Nat → List (Int × Int)
  | 0 => [(0, 0)]
  | k + 1 => allL k ++ [((k : Int), -1), ((k : Int), 1)]
theorem allL_len : ∀ k, (allL k).length = 1 + 2 * k
  | 0 => rfl
  | k + 1 => by simp [allL, allL_len k]; omega
/-- a case of a plan -/
def IsCs (k : Nat) (c s : Int) : Prop := (c = 0 ∧ s = 0) ∨ (0 ≤ c ∧ c < (k : Int) ∧ (s = -1 ∨ s = 1))
theorem allL_mem : ∀ {k : Nat} {x : Int × Int}, x ∈ allL k → IsCs k x.1 x.2
  | 0, x, h => by simp [allL] at h; subst h; exact .inl ⟨rfl, rfl⟩
  | k + 1, x, h => by
    simp only [allL, List.mem_append, List.mem_cons, List.not_mem_nil, or_false] at h
    rcases h with h | rfl | rfl
    · rcases allL_mem h with h | ⟨h1, h2, h3⟩
      · exact .inl h
      · exact .inr ⟨h1, by omega, h3⟩
    · exact .inr ⟨by show (0 : Int) ≤ (k : Int); omega, by show (k : Int) < ((k + 1 : Nat) : Int); omega, .inl rfl⟩
    · exact .inr ⟨by show (0 : Int) ≤ (k : Int); omega, by show (k : Int) < ((k + 1 : Nat) : Int); omega, .inr rfl⟩
theorem elCase : ElemT 92 88 (.agg #[.int .i64 0, .int .i64 0]) 2 16 := ⟨Tryz.underlying92, by kernel_rfl, rfl, by omega, by omega⟩

set_option maxRecDepth 100000 in
set_option maxHeartbeats 4000000 in
theorem all05_any (k : Nat) (R : Option Addr) (m cr : Nat) (w : World) (hk : k ≤ 39) :
    Calls Tryz.prog 84 #[.agg #[.int .i64 (k : Nat), .slice R m cr]] w fun e w' => (∃ A c, e = .returned (.slice A (1 + 2 * k) c) ∧ Prs w' A (1 + 2 * k) (allL k)) ∧ Below w.heap.size w w' := by
  go_enter Tryz.func84, Tryz.ntmps84
  obtain ⟨W0, hW0⟩ : ∃ W0, (w.alloc (.cells #[.int .i64 (k : Nat), .slice R m cr] 85)).alloc (.cells #[.int .i64 0, .int .i64 0] 88) = W0 := ⟨_, rfl⟩
  have HB1 : Hid (Cs W0 w.heap.size #[.int .i64 (k : Nat), .slice R m cr]) := Lib.hid (by rw [← hW0]; exact csA)
  have Hbw : Hid (Below w.heap.size w W0) := Lib.hid (by rw [← hW0]; exact blA)
  have HO : Hid (W0.ownsRow (w.heap.size + 1) 88 2 (.slice (some ⟨w.heap.size + 1, 0, none⟩) 1 1) 1 ((allL 0).flatMap encR)) := Lib.hid (by
    rw [← hW0]
    have := World.ownsRow_lit (base := w.heap.size + 1) (size := 2) (e := 88) (w.alloc (.cells #[.int .i64 (k : Nat), .slice R m cr] 85)) #[.int .i64 0, .int .i64 0] 1 (by simp) (by unfold maxLen; omega) rfl
    simpa [allL, encR] using this)
  have HW0 := Lib.hid hW0
  have hs0 : w.heap.size + 1 ≤ W0.heap.size := by rw [← hW0]; simp
  clear hW0
  go_wp2_with fail
  go_loopw [3, 4] (fun s3 s4 wx => ∃ (i : Nat) (v : Value) (W : World), i ≤ k ∧ v = s3 ∧ s4 = .int .i64 (i : Nat) ∧ Hid (W = wx) ∧ Hid (W.ownsRow (w.heap.size + 1) 88 2 v (1 + 2 * i) ((allL i).flatMap encR)) ∧ Hid (Below (w.heap.size + 1) W0 W)) (fun _ s4 _ => k - (intOf s4).toNat)
  case atStart => exact ⟨0, _, _, Nat.zero_le _, rfl, rfl, Lib.hid rfl, Lib.hid (by rw [HW0.out]; exact HO.out), Lib.hid (by rw [HW0.out]; exact Below.refl _ _)⟩
  case round =>
    obtain ⟨i, v, W, hi, rfl, rfl, HW, HOi, HB⟩ := hrel
    obtain rfl := HW.out
    clear HW
    have cB1 := (HB1.out.keepB (by omega) HB.out).c
    by_cases hik : i < k
    · have hii : (i : Int) < (k : Int) := by omega
      have hsz := HOi.out
      have hWs : w.heap.size + 1 ≤ W.heap.size := Nat.le_trans hs0 HB.out.size
      clear hsz
      go_wp2_with (at_builtin; refine list_appN elCase rfl _ _ rfl (w.heap.size + 1) (1 + 2 * i) _ ((allL i).flatMap encR) (by rfl) (HOi.out.alloc _) W.heap.size 2 [.int .i64 (i : Nat), .int .i64 (-1), .int .i64 (i : Nat), .int .i64 1] (by rfl) (heap_alloc_new W _) rfl (by intro u hu; simp at hu; rcases hu with rfl | rfl | rfl | rfl <;> rfl) (by omega) (by omega) (by omega) (by simp; omega) ?_; intro g6 c6 w6 hO6 hb6)
      have hO7 : w6.ownsRow (w.heap.size + 1) 88 2 (.slice (some ⟨g6, 0, none⟩) (1 + 2 * (i + 1)) c6) (1 + 2 * (i + 1)) ((allL (i + 1)).flatMap encR) := by
        have e : (allL (i + 1)).flatMap encR = (allL i).flatMap encR ++ [.int .i64 (i : Nat), .int .i64 (-1), .int .i64 (i : Nat), .int .i64 1] := by
          simp [allL, encR]
        rw [e]
        exact hO6
      have HO7 := Lib.hid hO7
      have HB7 := Lib.hid ((HB.out.alloc hWs _).trans (below_grewB hb6 (fun g e => (HOi.out.lt g e).1) (by simp; omega)))
      clear hO6 hb6 hO7
      go_wp2_with fail
      go_roundw
      case rel => exact ⟨i + 1, _, _, by omega, rfl, by go_num, Lib.hid rfl, HO7, HB7⟩
      case measure => simp [intOf]; omega
    · have hii : ¬ (i : Int) < (k : Int) := by omega
      obtain rfl : i = k := by omega
      obtain ⟨A, c, rfl, hP, -⟩ := own_prs (zs := allL i) (allL_len i) HOi.out
      have HP := Lib.hid hP
      have Hfin := Lib.hid (Hbw.out.trans (HB.out.mono (by omega)))
      clear hP
      go_wp2_with fail
      go_ret
      exact ⟨⟨A, ⟨c, rfl⟩, HP.out⟩, Hfin.out⟩

/-- what Faded hands back -/
def FadedPost (k : Nat) (w : World) (e : Ending) (w' : World) : Prop := ∃ c s : Int, e = .returned (.agg #[.int .i64 c, .int .i64 s]) ∧ IsCs k c s ∧ Below w.heap.size w w'
set_option maxRecDepth 100000 in
set_option maxHeartbeats 4000000 in
theorem faded_any (k : Nat) (R : Option Addr) (m cr : Nat) (y : Int) (w : World) (hk : k ≤ 39) (b0 : 0 ≤ y) (b1 : y ≤ 255) :
    Calls Tryz.prog 36 #[.agg #[.int .i64 (k : Nat), .slice R m cr], .int .u8 y] w (FadedPost k w) := by
  have ka := fun (V : World) => all05_any k R m cr V hk
  obtain ⟨N, hN⟩ : ∃ N, 1 + 2 * k = N := ⟨_, rfl⟩
  rw [hN] at ka
  have hN1 : 1 ≤ N := by omega
  obtain ⟨q, hq⟩ : ∃ q : Nat, y.tmod (N : Int) = (q : Int) := ⟨(y.tmod (N : Int)).toNat, by have := Int.tmod_nonneg (N : Int) b0; omega⟩
  have hqN : q < N := by have := Int.tmod_lt_of_pos y (show (0 : Int) < (N : Int) by omega); omega
  have m4 : IntKind.i64.wrap y = y := IntWalk.i64_in _ (by omega)
  have hlN : (allL k).length = N := by rw [allL_len]; exact hN
  have hmem : IsCs k (rgA (allL k) q).1 (rgA (allL k) q).2 := allL_mem (by unfold rgA; rw [List.getD_eq_getElem?_getD, List.getElem?_eq_getElem (by omega)]; exact List.getElem_mem _)
  have Hmem := Lib.hid hmem
  clear hmem hN
  go_enter Tryz.func36, Tryz.ntmps36
  go_wp2_with fail
  refine (ka _).mono ?_
  rintro _ w2 ⟨⟨A, c, rfl, hP⟩, hb2⟩
  have BR : Cs w2 (w.heap.size + 1) #[.int .i64 0, .int .i64 0] := Cs.keep csA hb2
  have hbw : Below w.heap.size w w2 := blA
  obtain ⟨b, off, rfl, hlt, c0, c1⟩ := hP.atA (Below.refl _ _) hqN
  obtain ⟨x, hx⟩ : ∃ x, (rgA (allL k) q).1 = x := ⟨_, rfl⟩
  obtain ⟨z, hz⟩ : ∃ z, (rgA (allL k) q).2 = z := ⟨_, rfl⟩
  rw [hx] at c0
  rw [hz] at c1
  rw [hx, hz] at Hmem
  have cR := BR.c
  have fR := BR.f
  have lR := BR.lt
  have hqi : (q : Int) < (N : Int) := by omega
  have hN0 : ¬ ((N : Int) = 0) := by omega
  have Hbw := Lib.hid hbw
  clear hb2 ka hx hz hP hbw
  go_wp2_with fail
  have D1 := BR.set2 (.int .i64 x) (.int .i64 z)
  have cD1 := D1.c
  have fD1 := D1.f
  have lD1 := D1.lt
  exact bodyPost_ret (v := .agg #[.int .i64 x, .int .i64 z]) (by simp [results, Tryz.results36, go_sem, cD1, fD1, lD1]) rfl ⟨x, z, rfl, Hmem.out, bset (bset Hbw.out (p := ⟨w.heap.size + 1, 0, none⟩) (by show w.heap.size ≤ w.heap.size + 1; omega) _) (p := ⟨w.heap.size + 1, 1, none⟩) (by show w.heap.size ≤ w.heap.size + 1; omega) _⟩
end Go.Proofs.YtlbjnkopbabcnaaGreatDoor
end
