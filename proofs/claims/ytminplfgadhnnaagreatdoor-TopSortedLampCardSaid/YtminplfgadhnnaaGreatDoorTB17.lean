/- BU1 BF1 BF2 BF3 BM8 BM12 -/
import Derived.Test.YtminplfgadhnnaaGreatDoorTB01
import Derived.Test.YtminplfgadhnnaaGreatDoorTB16
import Derived.BigQuiet
import Derived.Test.YtminplfgadhnnaaGreatDoorTB06
import Derived.Test.YtminplfgadhnnaaGreatDoorTB05
/- Lists of small numbers in memory. -/
section
namespace Go.Proofs.YtminplfgadhnnaaGreatDoor
open Go.RowKit Go.Shelf
set_option linter.unusedSimpArgs false
set_option linter.unusedVariables false

/-- a list of small numbers -/
def U32s (w : World) (A : Option Addr) (n : Nat) (zs : List Int) : Prop :=
  zs.length = n ∧ (0 < n → ∃ b off, A = some ⟨b, off, none⟩ ∧ b < w.heap.size ∧ ∀ i, i < n → w.cell? ⟨b, off + i, none⟩ = some (.int .u32 (zs.getD i 0)) ∧ 0 ≤ zs.getD i 0 ∧ zs.getD i 0 ≤ 4294967295)
theorem U32s.below {w w' : World} {A : Option Addr} {n : Nat} {zs : List Int} (h : U32s w A n zs) (hb : Below w.heap.size w w') : U32s w' A n zs := by
  refine ⟨h.1, fun hn => ?_⟩
  obtain ⟨b, off, rfl, hlt, hc⟩ := h.2 hn
  exact ⟨b, off, rfl, Nat.lt_of_lt_of_le hlt hb.size, fun i hi => ⟨(hb.cell (p := ⟨b, off + i, none⟩) hlt).trans (hc i hi).1, (hc i hi).2⟩⟩
theorem U32s.at_ {w wr : World} {A : Option Addr} {n k : Nat} {zs : List Int} (h : U32s w A n zs) (hb : Below w.heap.size w wr) (hk : k < n) :
    ∃ b off, A = some ⟨b, off, none⟩ ∧ wr.cell? ⟨b, off + k, none⟩ = some (.int .u32 (zs.getD k 0)) ∧ 0 ≤ zs.getD k 0 ∧ zs.getD k 0 ≤ 4294967295 := by
  obtain ⟨b, off, rfl, hlt, hc⟩ := h.2 (by omega)
  exact ⟨b, off, rfl, (hb.cell (p := ⟨b, off + k, none⟩) hlt).trans (hc k hk).1, (hc k hk).2⟩

end Go.Proofs.YtminplfgadhnnaaGreatDoor
end

/- Walks of the law package of layer 2: Powers, reached, number, pick, True, before. -/
section
namespace Go.Proofs.YtminplfgadhnnaaGreatDoor
open Go.RowKit Go.Shelf
set_option linter.unusedSimpArgs false
set_option linter.unusedVariables false

/-- a number of some numbers, turn by turn -/
def turnL (by_ : List Int) (i : Nat) : Int := if by_.length = 0 then 0 else by_.getD (i % by_.length) 0
/-- powers by numbers -/
def powL (n : Nat) (by_ : List Int) : List Int := (List.range n).map fun i => turnL by_ i % 100001
theorem powL_len (n : Nat) (by_ : List Int) : (powL n by_).length = n := by simp [powL]
theorem powL_succ (n : Nat) (by_ : List Int) : powL (n + 1) by_ = powL n by_ ++ [turnL by_ n % 100001] := by unfold powL; rw [List.range_succ]; simp
theorem powL_out (n : Nat) (by_ : List Int) : (powL n by_).any (out 0 100000) = false := by
  rw [List.any_eq_false]
  intro x hx
  unfold powL at hx
  obtain ⟨i, _, rfl⟩ := List.mem_map.1 hx
  unfold out
  simp; omega

end Go.Proofs.YtminplfgadhnnaaGreatDoor
end

/- Appends to rows of the call's own, with what becomes of the other rows; the walk of sorted. -/
section
namespace Go.Proofs.YtminplfgadhnnaaGreatDoor
open Go.RowKit Go.Shelf
set_option linter.unusedSimpArgs false
set_option linter.unusedVariables false
open Bm (mxAt srt srtL)

/-- a row of numbers of the call's own -/
abbrev OwnI (W : World) (B g n c : Nat) (xs : List Int) : Prop := W.ownsRow B 2 1 (.slice (some ⟨g, 0, none⟩) n c) n (xs.map (Value.int .i64))
theorem OwnI.len {W : World} {B g n c : Nat} {xs : List Int} (h : OwnI W B g n c xs) : xs.length = n := by have := h.1; simpa using this
theorem OwnI.ints {W : World} {B g n c : Nat} {xs : List Int} (h : OwnI W B g n c xs) : Ints W (some ⟨g, 0, none⟩) n xs ∧ n ≤ c := by
  obtain ⟨A, c', e, hI, hc⟩ := own_ints h.len h
  injection e with e1 e2 e3
  subst e1 e3
  exact ⟨hI, hc⟩
theorem OwnI.lt {W : World} {B g n c : Nat} {xs : List Int} (h : OwnI W B g n c xs) : B ≤ g ∧ g < W.heap.size := by
  rcases h.2 with ⟨e, _⟩ | ⟨g1, cap, cur, e1, hbg, hgc, _⟩
  · cases e
  · injection e1 with e1; injection e1 with e1; injection e1 with e1
    subst e1
    exact ⟨hbg, (Array.getElem?_eq_some_iff.1 hgc).1⟩
theorem own_empty (w : World) : OwnI (w.alloc (.cells #[] 2)) w.heap.size w.heap.size 0 0 [] :=
  ⟨rfl, .inr ⟨w.heap.size, 0, #[], rfl, Nat.le_refl _, heap_alloc_new w _, Nat.le_refl _, by unfold maxLen; omega, rfl, rfl⟩⟩
theorem OwnI.cellw {W wr : World} {B g n c : Nat} {xs : List Int} (h : OwnI W B g n c xs) (hb : Below W.heap.size W wr) {k : Nat} (hk : k < n) : wr.cell? ⟨g, k, none⟩ = some (.int .i64 (xs.getD k 0)) := by
  obtain ⟨b, off, e, _, hc⟩ := (h.ints.1.below hb).2 (by omega)
  injection e with e
  injection e with e1 e2
  subst e1 e2
  have := hc k hk
  rwa [Nat.zero_add] at this
theorem own_emptyB {B : Nat} (w : World) (hB : B ≤ w.heap.size) : OwnI (w.alloc (.cells #[] 2)) B w.heap.size 0 0 [] :=
  ⟨rfl, .inr ⟨w.heap.size, 0, #[], rfl, hB, heap_alloc_new w _, Nat.le_refl _, by unfold maxLen; omega, rfl, rfl⟩⟩
theorem own_drew {B n : Nat} {w : World} {v : Value} {e : TypeId} {s : Nat} {xs : List Value} (h : w.ownsRow B e s v n xs) : w.drew.ownsRow B e s v n xs := h
theorem below_grew {B : Nat} {w w' : World} {ob : Option Nat} (hg : w.grownBy w' ob) (hob : ∀ g, ob = some g → B ≤ g) (hB : B ≤ w.heap.size) : Below B w w' :=
  ⟨hg.os, hg.tape, hg.output, hg.size, fun i hi => hg.block i (by omega) (fun h => by have := hob i h.symm; omega)⟩
theorem own_grew {w w' : World} {ob : Option Nat} {B : Nat} {e : TypeId} {s : Nat} {v : Value} {n : Nat} {xs : List Value} (h : w.ownsRow B e s v n xs) (hg : w.grownBy w' ob) (hne : ∀ g, v.ownBlock = some g → ob ≠ some g) : w'.ownsRow B e s v n xs := by
  refine ⟨h.1, ?_⟩
  rcases h.2 with h2 | ⟨g, cap, cur, rfl, hB, hgg, rest⟩
  · exact .inl h2
  · exact .inr ⟨g, cap, cur, rfl, hB, (hg.block g (Array.getElem?_eq_some_iff.1 hgg).1 (fun e => hne g rfl e.symm)).trans hgg, rest⟩

set_option maxRecDepth 100000 in
theorem run_ints {w : World} {B n : Nat} {v : Value} {xs : List Int} (hown : w.ownsRow B 2 1 v n (xs.map (Value.int .i64))) {b off m C : Nat} {ys : List Int} (hy : Ints w (some ⟨b, off, none⟩) m ys) (hv : 0 < m ∨ v ≠ .slice none 0 0) (hn : n + m ≤ 5000) (hB : B ≤ w.heap.size) :
    ∃ g' c' w', (∀ ty, (Builtin.append_ #[22, 22] ty #[v, .slice (some ⟨b, off, none⟩) m C]).run Tryz.prog w = .ok (.slice (some ⟨g', 0, none⟩) (n + m) c') w') ∧ OwnI w' B g' (n + m) c' (xs ++ ys) ∧ w.grownBy w' v.ownBlock ∧ (v.ownBlock = some g' ∨ w.heap.size ≤ g') := by
  obtain ⟨i, hi, hz0, hs, hby⟩ := info3R int64R_info
  have hnews : ∀ j u, (ys.map (Value.int .i64))[j]? = some u → w.cell? ((⟨b, off, none⟩ : Addr).add j) = some u := by
    intro j u hu
    rw [List.getElem?_map] at hu
    obtain ⟨x, hx, rfl⟩ := Option.map_eq_some_iff.1 hu
    have hj : j < m := by rw [← hy.1]; exact (List.getElem?_eq_some_iff.1 hx).1
    obtain ⟨b', off', e, _, hc⟩ := hy.2 (by omega)
    injection e with e
    injection e with e1 e2
    subst e1 e2
    have := hc j hj
    rw [List.getD_eq_getElem?_getD, hx] at this
    rw [Go.WideShapes.add_plain]
    exact this
  have h1 : ∀ u ∈ ys.map (Value.int .i64), u.oneCell' = true := by
    intro u hu
    obtain ⟨x, _, rfl⟩ := List.mem_map.1 hu
    rfl
  have hl : (ys.map (Value.int .i64)).length = m * 1 := by rw [List.length_map, hy.1, Nat.mul_one]
  have hl' : (ys.map (Value.int .i64)).length = m * i.size := by rw [hs]; exact hl
  obtain ⟨v', w', hr, ho, hg, hnil⟩ := run_append_own (P := Tryz.prog) w B 22 0 2 i (.int .i64 0) 1 8 Tryz.underlying22 hi hz0 hs hby rfl (by omega) v n _ hown ⟨b, off, none⟩ m C _ hl hnews h1 (by unfold maxLen; omega) (by omega) hB
  have hv' : v' ≠ .slice none 0 0 := fun e => by
    obtain ⟨e1, e2⟩ := hnil.1 e
    rcases hv with h | h
    · omega
    · exact h e1
  have ho2 : w'.ownsRow B 2 1 v' (n + m) ((xs ++ ys).map (Value.int .i64)) := by rw [List.map_append]; exact ho
  rcases ho2.2 with ⟨e, _⟩ | ⟨g', c', cur', rfl, hrest⟩
  · exact absurd e hv'
  · refine ⟨g', c', w', fun ty => hr, ho2, hg, ?_⟩
    rcases hown.2 with ⟨rfl, rfl⟩ | ⟨g, cap, cur, rfl, hbg, hgc, hnc, hcm, hcs, htake⟩
    · have hm : 0 < m := by
        rcases hv with h | h
        · exact h
        · exact absurd rfl h
      have h2 := run_append_nil (P := Tryz.prog) w 22 0 2 i (.int .i64 0) Tryz.underlying22 hi hz0 ⟨b, off, none⟩ m C _ hl' hnews hm (by omega) (by rw [hby]; omega)
      rw [h2] at hr
      injection hr with e1 e2
      injection e1 with e1
      injection e1 with e1
      injection e1 with e1
      exact .inr (by omega)
    · by_cases hroom : n + m ≤ cap
      · have h2 := run_append_room (P := Tryz.prog) w 22 0 2 i Tryz.underlying22 hi g n cap cur hgc ⟨b, off, none⟩ m C _ hl' hnews h1 hroom (by rw [hl', hcs, hs, ← Nat.add_mul]; exact Nat.mul_le_mul_right _ hroom)
        rw [h2] at hr
        injection hr with e1 e2
        injection e1 with e1
        injection e1 with e1
        injection e1 with e1
        exact .inl (by simp [Value.ownBlock, e1])
      · have holds : ∀ j u, (xs.map (Value.int .i64))[j]? = some u → w.cell? ((⟨g, 0, none⟩ : Addr).add j) = some u := hown.cells (g := g) rfl
        have h2 := run_append_grow (P := Tryz.prog) w 22 0 2 i (.int .i64 0) Tryz.underlying22 hi hz0 ⟨g, 0, none⟩ n cap (xs.map (Value.int .i64)) (by rw [hs]; exact hown.1) holds ⟨b, off, none⟩ m C _ hl' hnews (by omega) (by omega) (growslice_fits (by omega) (by rw [hby]; omega))
        rw [h2] at hr
        injection hr with e1 e2
        injection e1 with e1
        injection e1 with e1
        injection e1 with e1
        exact .inr (by omega)

theorem list_ints {ops : Array Oper} {rest : List Oper} {o : Oper} {a : Act} {w : World} {Q : Exit → Act → World → Prop} (hg : o.guard = none) (s x : Operand)
    (hop : o.op = Op.call { callee := Callee.builtin Builtin.append, args := #[s, x], argTypes := #[22, 22] })
    (B n : Nat) (v : Value) (xs : List Int) (hs : a.eval s = v) (hown : w.ownsRow B 2 1 v n (xs.map (Value.int .i64))) (b off m C : Nat) (ys : List Int) (hx : a.eval x = .slice (some ⟨b, off, none⟩) m C) (hy : Ints w (some ⟨b, off, none⟩) m ys) (hv : 0 < m ∨ v ≠ .slice none 0 0) (hn : n + m ≤ 5000) (hB : B ≤ w.heap.size)
    (hK : ∀ g' c' w', OwnI w' B g' (n + m) c' (xs ++ ys) → w.grownBy w' v.ownBlock → (v.ownBlock = some g' ∨ w.heap.size ≤ g') → wpList Tryz.prog ops Q rest (a.put o.dst (.slice (some ⟨g', 0, none⟩) (n + m) c')) w') : wpList Tryz.prog ops Q (o :: rest) a w := by
  obtain ⟨g', c', w', hr, ho, hgr, hw⟩ := run_ints (C := C) hown hy hv hn hB
  exact list_app hg s x hop hs hx hr (hK g' c' w' ho hgr hw)
theorem wp_ints {o : Oper} {a : Act} {w : World} {K : Act → World → Prop} {Q : Exit → Act → World → Prop} (s x : Operand)
    (hop : o.op = Op.call { callee := Callee.builtin Builtin.append, args := #[s, x], argTypes := #[22, 22] })
    (B n : Nat) (v : Value) (xs : List Int) (hs : a.eval s = v) (hown : w.ownsRow B 2 1 v n (xs.map (Value.int .i64))) (b off m C : Nat) (ys : List Int) (hx : a.eval x = .slice (some ⟨b, off, none⟩) m C) (hy : Ints w (some ⟨b, off, none⟩) m ys) (hv : 0 < m ∨ v ≠ .slice none 0 0) (hn : n + m ≤ 5000) (hB : B ≤ w.heap.size)
    (hK : ∀ g' c' w', OwnI w' B g' (n + m) c' (xs ++ ys) → w.grownBy w' v.ownBlock → (v.ownBlock = some g' ∨ w.heap.size ≤ g') → K (a.put o.dst (.slice (some ⟨g', 0, none⟩) (n + m) c')) w') : o.wp Tryz.prog a w K Q := by
  obtain ⟨g', c', w', hr, ho, hgr, hw⟩ := run_ints (C := C) hown hy hv hn hB
  unfold Oper.wp execOp
  simp only [hop, resolve, invoke, builtin, Sem.run_bind, Sem.run_pure, Result.andThen_ok, List.map_toArray, List.map_cons, List.map_nil, hs, hx, hr]
  exact hK g' c' w' ho hgr hw

theorem own_slice {w : World} {B n : Nat} {t : TypeId} {v : Value} {xs : List Value} (h : w.ownsRow B t 1 v n xs) (hn : 1 ≤ n) : ∃ g c, v = .slice (some ⟨g, 0, none⟩) n c := by
  rcases h.2 with ⟨_, h0⟩ | ⟨g, cap, cur, e, _⟩
  · omega
  · exact ⟨g, cap, e⟩
def slLen : Value → Nat
  | .slice _ n _ => n
  | _ => 0
theorem srt_step {k : Nat} {l : List Int} (h : l.length = k + 1) : srt (k + 1) l = l.getD (mxAt l k) 0 :: srt k (l.take (mxAt l k) ++ l.drop (mxAt l k + 1)) := by
  rw [srt, if_neg (by intro e; rw [e] at h; simp at h), show l.length - 1 = k by omega, List.eraseIdx_eq_take_drop_succ]

end Go.Proofs.YtminplfgadhnnaaGreatDoor
end

/- Walks of the law package of layer 2: reached, before, number, pick. -/
section
namespace Go.Proofs.YtminplfgadhnnaaGreatDoor
open Go.RowKit Go.Shelf
set_option linter.unusedSimpArgs false
set_option linter.unusedVariables false

/-- how many of the first limits a power reaches -/
def reaK (ls : List Int) (x : Int) : Nat → Nat
  | 0 => 0
  | k + 1 => reaK ls x k + if ls.getD k 0 % 100001 ≤ x then 1 else 0
def reaL (ls : List Int) (x : Int) : Int := ((reaK ls x ls.length : Nat) : Int)
theorem reaK_le (ls : List Int) (x : Int) : ∀ k, reaK ls x k ≤ k
  | 0 => Nat.le_refl _
  | k + 1 => by have := reaK_le ls x k; rw [reaK]; split <;> omega
theorem reaK_mono (ls : List Int) {x y : Int} (h : x ≤ y) : ∀ k, reaK ls x k ≤ reaK ls y k
  | 0 => Nat.le_refl _
  | k + 1 => by have := reaK_mono ls h k; rw [reaK, reaK]; split <;> split <;> omega
theorem reaL_mono (ls : List Int) : Bm.Mono (reaL ls) := fun a b h => by unfold reaL; have := reaK_mono ls h ls.length; omega
theorem reaL_bd (ls : List Int) (x : Int) (h : ls.length ≤ 20) : 0 ≤ reaL ls x ∧ reaL ls x ≤ 20 := by unfold reaL; have := reaK_le ls x ls.length; omega

/-- one row comes before another one -/
def befB : List Int → List Int → Bool
  | x :: a, y :: b => if x = y then befB a b else decide (x < y)
  | _, _ => false
theorem drop_cons {l : List Int} {i : Nat} (h : i < l.length) : l.drop i = l.getD i 0 :: l.drop (i + 1) := by
  rw [List.drop_eq_getElem_cons h, List.getD_eq_getElem?_getD, List.getElem?_eq_getElem h]; rfl

/-- a number of a range, by a number -/
def pickE (lo hi by_ : Int) : Int := lo + by_ % (hi - lo + 1)
theorem pickE_in {lo hi by_ : Int} (h : lo ≤ hi) : lo ≤ pickE lo hi by_ ∧ pickE lo hi by_ ≤ hi := by
  unfold pickE
  have h1 := Int.emod_nonneg by_ (show hi - lo + 1 ≠ 0 by omega)
  have h2 := Int.emod_lt_of_pos by_ (show 0 < hi - lo + 1 by omega)
  omega
set_option maxHeartbeats 1000000 in
theorem pick_any (lo hi by_ : Int) (w : World) (h1 : lo ≤ hi) (h2 : 0 ≤ lo) (h3 : hi ≤ 1000000) (h4 : 0 ≤ by_) (h5 : by_ ≤ 4294967295) :
    Calls Tryz.prog 53 #[.agg #[.int .i64 lo, .int .i64 hi], .int .u32 by_] w fun e w' => e = .returned (.int .i64 (pickE lo hi by_)) ∧ Below w.heap.size w w' := by
  have hp := pickE_in (by_ := by_) h1
  have hmod : by_.tmod (hi - lo + 1) = by_ % (hi - lo + 1) := Int.tmod_eq_emod_of_nonneg h4
  have h0 : ¬ hi - lo + 1 = 0 := by omega
  have hdef : lo + by_ % (hi - lo + 1) = pickE lo hi by_ := rfl
  generalize pickE lo hi by_ = r at *
  go_enter Tryz.func53, Tryz.ntmps53
  go_wp2_with fail
  go_quiet (fail)
  go_wp2_with fail
  go_ret
  exact ⟨by first | rfl | exact ret_int hdef, blA⟩

end Go.Proofs.YtminplfgadhnnaaGreatDoor
end

/- Plain laws: what a programme that goes wrong on no row of dark and bright lamps does to any row; which row comes before which. -/
section
namespace Go.Proofs.YtminplfgadhnnaaGreatDoor
set_option linter.unusedSimpArgs false
set_option linter.unusedVariables false
open Bm (Pr OkP runL runB runF tab rowL ordB pickB unord bfP UnF b2i fstBad num thr b2i)

/-- what a statement asks of a row -/
def gdB (n m : Nat) (l : List Int) : Bool := if m = n then ordB l else pickB l m
theorem gd_row {n m k : Nat} {p : List Pr} (hp : OkP n p) (hm : m ≤ n) : gdB n m (runL p (rowL n k)) = !badT n m (runB p (tab n k)) := by
  unfold gdB badT
  by_cases e : m = n
  · rw [if_pos e, if_pos e, ← ord_bad hp, Bool.not_not]
  · rw [if_neg e, if_neg e, ← pick_bad hp hm, Bool.not_not]
theorem un_runF {n : Nat} {p : List Pr} (hp : OkP n p) {bf : Nat → Nat → Bool} {ys : List Int} (hl : ys.length = n) (h : UnF n bf (fun i => (runL p ys).getD i 0)) : UnF n bf (runF p (fun i => ys.getD i 0)) := by
  obtain ⟨k, i, hk, hi, hb, hlt⟩ := h
  refine ⟨k, i, hk, hi, hb, ?_⟩
  have h1 := Bm.runL_get n p hp ys hl k hk
  have h2 := Bm.runL_get n p hp ys hl i (by omega)
  rw [← h1, ← h2]; exact hlt
theorem zo_good {n m : Nat} {p : List Pr} (hp : OkP n p) (hm : m ≤ n) (h : fstBad n (fun k => badT n m (runB p (tab n k))) = none) {ys : List Int} (hl : ys.length = n) : gdB n m (runL p ys) = true := by
  have hrl : (runL p ys).length = n := by rw [Bm.runL_len, hl]
  have hno := Bm.fstBad_none.1 h
  unfold gdB
  by_cases e : m = n
  · rw [if_pos e]
    cases hb : ordB (runL p ys) with
    | true => rfl
    | false =>
      have hu := Bm.ordB_un.1 hb
      rw [hrl] at hu
      obtain ⟨t, ht⟩ := Bm.zeroOne hp (un_runF hp hl hu)
      have := hno (num (thr t fun i => ys.getD i 0) n) (Bm.num_lt _ n)
      unfold badT at this
      rw [if_pos e, ht] at this
      cases this
  · rw [if_neg e]
    cases hb : pickB (runL p ys) m with
    | true => rfl
    | false =>
      have hu := (Bm.pickB_un (by omega)).1 hb
      rw [hrl] at hu
      obtain ⟨t, ht⟩ := Bm.zeroOne hp (un_runF hp hl hu)
      have := hno (num (thr t fun i => ys.getD i 0) n) (Bm.num_lt _ n)
      unfold badT at this
      rw [if_neg e, ht] at this
      cases this

theorem getD_map {g : Int → Int} {l : List Int} {i : Nat} (hi : i < l.length) : (l.map g).getD i 0 = g (l.getD i 0) := by
  rw [List.getD_eq_getElem?_getD, List.getD_eq_getElem?_getD, List.getElem?_map, List.getElem?_eq_getElem hi]; rfl
/-- a map that keeps the order goes through a programme -/
theorem runL_map {n : Nat} {p : List Pr} (hp : OkP n p) {g : Int → Int} (hg : Bm.Mono g) {ys : List Int} (hl : ys.length = n) : runL p (ys.map g) = (runL p ys).map g := by
  have h1 : (ys.map g).length = n := by rw [List.length_map, hl]
  have h2 : (runL p ys).length = n := by rw [Bm.runL_len, hl]
  refine list_ext_getD _ _ (by rw [Bm.runL_len, h1, List.length_map, h2]) fun i hi => ?_
  rw [Bm.runL_len, h1] at hi
  rw [Bm.runL_get n p hp _ h1 i hi, getD_map (by omega), Bm.runL_get n p hp _ hl i hi, Bm.runF_congr p hp (g := fun i => g (ys.getD i 0)) (fun i hi => getD_map (by omega)) i hi, Bm.runF_map hg]

theorem rowL_succ (n k : Nat) : rowL (n + 1) k = b2i (k.testBit n) :: rowL n k := by
  unfold rowL tab
  rw [List.range_succ_eq_map, List.map_cons, List.map_map]
  congr 1
  refine List.map_congr_left fun i hi => ?_
  have hi := List.mem_range.1 hi
  show b2i (k.testBit (n + 1 - 1 - (i + 1))) = _
  rw [show n + 1 - 1 - (i + 1) = n - 1 - i by omega]
theorem bef_row : ∀ (n j k : Nat), befB (rowL n j) (rowL n k) = true → j % 2 ^ n < k % 2 ^ n
  | 0, j, k, h => by simp [rowL, befB] at h
  | n + 1, j, k, h => by
    rw [rowL_succ, rowL_succ, befB] at h
    rw [Nat.pow_succ, Nat.mod_mul, Nat.mod_mul]
    have tj : (j.testBit n) = decide (j / 2 ^ n % 2 = 1) := Nat.testBit_eq_decide_div_mod_eq
    have tk : (k.testBit n) = decide (k / 2 ^ n % 2 = 1) := Nat.testBit_eq_decide_div_mod_eq
    have hj := Nat.mod_lt j (show 0 < 2 ^ n from Nat.pos_of_ne_zero (by simp))
    have hk := Nat.mod_lt k (show 0 < 2 ^ n from Nat.pos_of_ne_zero (by simp))
    rw [tj, tk] at h
    rcases Nat.mod_two_eq_zero_or_one (j / 2 ^ n) with e1 | e1 <;> rcases Nat.mod_two_eq_zero_or_one (k / 2 ^ n) with e2 | e2 <;> rw [e1, e2] at h ⊢ <;> simp [b2i] at h ⊢
    · exact bef_row n j k h
    · omega
    · exact bef_row n j k h
theorem bef_row' {n j k : Nat} (hj : j < 2 ^ n) (hk : k < 2 ^ n) (h : befB (rowL n j) (rowL n k) = true) : j < k := by
  have := bef_row n j k h
  rwa [Nat.mod_eq_of_lt hj, Nat.mod_eq_of_lt hk] at this
theorem rowL_out (n k : Nat) : (rowL n k).any (out 0 100000) = false := by
  rw [List.any_eq_false]
  intro x hx
  unfold rowL at hx
  obtain ⟨i, _, rfl⟩ := List.mem_map.1 hx
  cases tab n k i <;> decide
theorem rowL_01 {n k i : Nat} (hi : i < n) : (rowL n k).getD i 0 = 0 ∨ (rowL n k).getD i 0 = 1 := by
  rw [Bm.rowL_get hi]
  cases tab n k i <;> simp [b2i]

end Go.Proofs.YtminplfgadhnnaaGreatDoor
end

/- Plain laws: the programme that is built, and pairs after it; a trimmed programme. -/
section
namespace Go.Proofs.YtminplfgadhnnaaGreatDoor
set_option linter.unusedSimpArgs false
set_option linter.unusedVariables false
open Bm (Pr OkP runL runB runF tab rowL ordB unord fstBad srtL srtL_eq usd uslL trmL exch cex buildL depL)

/-- a row in order stays as it is -/
theorem ord_cex {l : List Int} (h : ordB l = true) {x : Pr} (hx : x.1 < x.2 ∧ x.2 < l.length) : cex x l = l := by
  have := Bm.ordB_le h x.1 x.2 (by omega) hx.2
  rw [Bm.cex_swap hx, if_neg (by omega)]
theorem ord_runL {n : Nat} {l : List Int} (h : ordB l = true) (hl : l.length = n) : ∀ p : List Pr, OkP n p → runL p l = l
  | [], _ => rfl
  | x :: p, hp => by
    show runL p (cex x l) = l
    rw [ord_cex h (by have := hp.head; omega)]
    exact ord_runL h hl p hp.tail
theorem built_none {n : Nat} (h2 : 2 ≤ n) (h12 : n ≤ 12) : fstBad n (fun k => badT n n (runB (buildL n) (tab n k))) = none := by
  rw [Bm.fstBad_none]
  intro k hk
  unfold badT
  rw [if_pos rfl]
  exact Bm.build_sorts h2 h12 k hk
theorem built_sorts {n : Nat} (h2 : 2 ≤ n) (h12 : n ≤ 12) {ys : List Int} (hl : ys.length = n) : ordB (runL (buildL n) ys) = true ∧ runL (buildL n) ys = srtL ys := by
  have hp := (Bm.build_ok h2 h12).1
  have h := zo_good hp (Nat.le_refl n) (built_none h2 h12) hl
  unfold gdB at h
  rw [if_pos rfl] at h
  exact ⟨h, srtL_eq (Bm.ordB_dec.1 h) (Bm.runL_perm n _ hp ys hl)⟩
theorem ord_runB {n : Nat} {r : Nat → Bool} (h : unord n (fun _ _ => true) r = false) : ∀ q : List Pr, OkP n q → runB q r = r
  | [], _ => rfl
  | x :: q, hq => by
    show runB q (Bm.xch x r) = r
    have hx := hq.head
    have e : Bm.xch x r = r := Bm.xch_skip (fun h2 => by
      cases h1 : r x.1 with
      | true => rfl
      | false =>
        have : unord n (fun _ _ => true) r = true := Bm.unord_iff.2 ⟨x.2, x.1, hx.2, hx.1, rfl, h2, h1⟩
        rw [h] at this; cases this)
    rw [e]
    exact ord_runB h q hq.tail
theorem built_usd {n : Nat} (h2 : 2 ≤ n) (h12 : n ≤ 12) {q : List Pr} (hq : OkP n q) {x : Pr} (hx : x.1 < x.2 ∧ x.2 < n) : usd n (buildL n ++ q) x = false := by
  refine usd_none fun k hk => ?_
  have hs := Bm.build_sorts h2 h12 k hk
  unfold exch
  rw [Bm.runB_append, ord_runB hs q hq]
  cases h3 : runB (buildL n) (tab n k) x.2 with
  | false => rfl
  | true =>
    cases h4 : runB (buildL n) (tab n k) x.1 with
    | true => rfl
    | false =>
      have : unord n (fun _ _ => true) (runB (buildL n) (tab n k)) = true := Bm.unord_iff.2 ⟨x.2, x.1, hx.2, hx.1, rfl, h3, h4⟩
      rw [hs] at this; cases this
theorem built_usl {n : Nat} (h2 : 2 ≤ n) (h12 : n ≤ 12) (q : List Pr) : ∀ k, k ≤ q.length → OkP n q → uslL n [] 0 (buildL n ++ q.take k) = uslL n [] 0 (buildL n) ++ (List.range k).map ((buildL n).length + ·)
  | 0, _, _ => by simp
  | k + 1, hk, hq => by
    have ih := built_usl h2 h12 q k (by omega) hq
    have hx : q[k]? = some q[k] := List.getElem?_eq_getElem (by omega)
    rw [← take_get hx, ← List.append_assoc, usl_snoc, ih, List.nil_append, built_usd h2 h12 (hq.sub fun y hy => List.mem_of_mem_take hy) (hq _ (List.getElem_mem _)), if_neg (by decide), List.range_succ, List.map_append]
    have hl : (q.take k).length = k := by rw [List.length_take]; omega
    simp [hl]
theorem usl_last {n m i : Nat} (h2 : 2 ≤ n) (h12 : n ≤ 12) {q : List Pr} (hm : q.length = m) (hq : OkP n q) (hi : i < m) (U : List Nat) (hU : uslL n [] 0 (buildL n ++ q) = U) : m ≤ U.length ∧ U.getD (U.length - 1 - i) 0 = (buildL n).length + m - 1 - i := by
  have h := built_usl h2 h12 q m (by omega) hq
  rw [List.take_of_length_le (by omega), hU] at h
  have hl : U.length = (uslL n [] 0 (buildL n)).length + m := by rw [h]; simp
  refine ⟨by omega, ?_⟩
  rw [List.getD_eq_getElem?_getD, h, List.getElem?_append_right (by simp; omega)]
  have e : ((uslL n [] 0 (buildL n)) ++ (List.range m).map ((buildL n).length + ·)).length - 1 - i - (uslL n [] 0 (buildL n)).length = m - 1 - i := by simp; omega
  rw [e, List.getElem?_map, List.getElem?_range (by omega)]
  simp; omega

/-- pairs by numbers -/
def extP (n : Nat) (x : Int × Int) : Pr := ((x.1 % ((n : Int) - 1)).toNat, (x.1 % ((n : Int) - 1)).toNat + 1 + (x.2 % ((n : Int) - 1 - x.1 % ((n : Int) - 1))).toNat)
theorem ext_ok {n : Nat} (h2 : 2 ≤ n) (zs : List (Int × Int)) : OkP n (zs.map (extP n)) := by
  intro x hx
  obtain ⟨y, _, rfl⟩ := List.mem_map.1 hx
  unfold extP
  have h1 := Int.emod_nonneg y.1 (show (n : Int) - 1 ≠ 0 by omega)
  have h3 := Int.emod_lt_of_pos y.1 (show 0 < (n : Int) - 1 by omega)
  generalize y.1 % ((n : Int) - 1) = a at *
  have h4 := Int.emod_nonneg y.2 (show (n : Int) - 1 - a ≠ 0 by omega)
  have h5 := Int.emod_lt_of_pos y.2 (show 0 < (n : Int) - 1 - a by omega)
  generalize y.2 % ((n : Int) - 1 - a) = b at *
  simp only []
  omega

/-- a trimmed programme makes the same of any row -/
theorem trm_ok {n : Nat} {p : List Pr} (hp : OkP n p) : OkP n (trmL n [] p) := hp.sub fun x hx => (Bm.trm_sub p []).mem hx
theorem trm_runL {n : Nat} {p : List Pr} (hp : OkP n p) {ys : List Int} (hl : ys.length = n) : runL (trmL n [] p) ys = runL p ys := by
  refine list_ext_getD _ _ (by rw [Bm.runL_len, Bm.runL_len]) fun i hi => ?_
  rw [Bm.runL_len, hl] at hi
  rw [Bm.runL_get n _ (trm_ok hp) _ hl i hi, Bm.runL_get n _ hp _ hl i hi]
  have := Bm.trm_run p [] [] hp (fun x hx => by cases hx) (fun f => rfl) (fun i => ys.getD i 0)
  rw [List.nil_append, List.nil_append] at this
  rw [this]
theorem trm_again {n : Nat} {p : List Pr} (hp : OkP n p) : trmL n [] (trmL n [] p) = trmL n [] p := Bm.trm_twice p [] [] hp (fun x hx => by cases hx) (fun r => rfl)
theorem usl_row {n k : Nat} {p : List Pr} (hp : OkP n p) (hk : k ∈ uslL n [] 0 p) {ys : List Int} (hl : ys.length = n) : ∃ x : Pr, p[k]? = some x ∧ (x.1 < x.2 ∧ x.2 < n) ∧ (runL (p.take k) ys).getD x.2 0 ≤ (runL (p.take k) ys).getD x.1 0 := by
  obtain ⟨x, hx, hu⟩ := Bm.usl_mem hk
  have hxo := hp x (List.mem_of_getElem? hx)
  have ht : OkP n (p.take k) := hp.sub fun y hy => List.mem_of_mem_take hy
  refine ⟨x, hx, hxo, ?_⟩
  rw [Bm.runL_get n _ ht _ hl x.2 hxo.2, Bm.runL_get n _ ht _ hl x.1 (by omega)]
  exact Bm.usd_false ht hxo hu _

end Go.Proofs.YtminplfgadhnnaaGreatDoor
end
