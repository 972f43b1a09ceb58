/- Walks of package eye: a map from fractions to numbers. -/
import Derived.Test.YtcmllkjgggcghaaED6
import Derived.Maps.RangeWalk
import Derived.Maps.OwnSet
import Derived.Maps.OwnOps
import Derived.Maps.OwnIn
import Derived.DeepKeys4
import Derived.WideKeyEntry
import Derived.Laws.IdiomRangeMap
namespace Go.Proofs.Ytcmllkjgggcghaa
open Go.RowKit Go.Shelf Go.ChangeMaps Go.MapKept
open Go.WideElems (Fit rd rg pl rd_val elemAt entry_then_store)
set_option linter.unusedSimpArgs false
set_option linter.unusedVariables false

theorem rk_laid : laidOutB Try.prog = true := by kernel_rfl
theorem rk_row : (25 : TypeId) < Try.prog.types.size := of_decide_eq_true (by kernel_rfl)
theorem rk_under : Try.prog.underlying 25 = some (.struct #[⟨"Num", 2, 0, false, "", "", 0⟩, ⟨"Den", 2, 1, false, "", "", 8⟩]) := by kernel_rfl
theorem i64_under : Try.prog.underlying 2 = some (.int .i64) := by kernel_rfl
theorem mp_under : Try.prog.underlying 90 = some (.map 25 2) := by kernel_rfl
theorem rk_wide : (match Try.prog.underlying 25 with | some (.array _ _) | some (.struct _) => true | _ => false) = true := by rw [rk_under]
theorem rk_kt : Try.prog.keyTypeAt 2 25 = true := by kernel_rfl
set_option maxRecDepth 100000 in
theorem rk_klaw : WideMaps.KeyLaw Try.prog 25 := deep_law_laid (P := Try.prog) (m := 2) (k := 25) rk_laid (by omega) rk_row rk_kt rk_wide
theorem rk_size : ∃ m, Try.prog.types.size = m + 1 := by
  cases h : Try.prog.types.size with
  | zero => have := rk_row; rw [h] at this; exact absurd this (Nat.not_lt_zero _)
  | succ m => exact ⟨m, rfl⟩
theorem rk_law : Maps.Keyed Try.prog 25 := Maps.Keyed.of_law rk_klaw
theorem rk_zero (w : World) : (zeroValue 2).run Try.prog w = .ok (.int .i64 0) w := by kernel_rfl
theorem rk_keyT : Try.prog.keyType 25 = true := by kernel_rfl
theorem rk_cells : Try.prog.cellsOf 25 = 2 := by kernel_rfl
theorem i64_cells : Try.prog.cellsOf 2 = 1 := by kernel_rfl

/-- what a fraction reads as, as a key -/
def kR (r : Int × Int) : Lit := .string (keyBytes [.int .i64 r.1, .int .i64 r.2])
/-- a fraction as a value -/
def rV (r : Int × Int) : Value := .agg #[.int .i64 r.1, .int .i64 r.2]
/-- both numbers are such numbers -/
def W2 (r : Int × Int) : Prop := (Lit.int .i64 r.1).wf = true ∧ (Lit.int .i64 r.2).wf = true

theorem rk_mk {r : Int × Int} (h : W2 r) : keyOf Try.prog 25 (rV r) = some (kR r) := by
  obtain ⟨m, hm⟩ := rk_size
  have h1 := h.1
  have h2 := h.2
  unfold keyOf rV kR
  simp only [rk_under]
  rw [if_pos (by simp [rk_keyT, Value.formed, rk_under, rk_cells]), hm]
  unfold Program.keyLits
  simp only [rk_under, Value.cells]
  rw [if_pos (by rw [rk_cells]; exact ⟨rfl, by simp⟩)]
  simp [i64_cells, Program.keyLits, i64_under, h1, h2]

theorem len_two {α : Type} : ∀ {l : List α}, l.length = 2 → ∃ a b, l = [a, b]
  | [a, b], _ => ⟨a, b, rfl⟩
  | [], h => by simp at h
  | [_], h => by simp at h
  | _ :: _ :: _ :: _, h => by simp at h

theorem rk_inv {v : Value} {l : Lit} (h : keyOf Try.prog 25 v = some l) : ∃ r, v = rV r ∧ W2 r ∧ l = kR r := by
  obtain ⟨xs, L, rfl, hL, rfl⟩ := keyOf_top (P := Try.prog) (k := 25) (by rw [rk_under]) h
  obtain ⟨m, hm⟩ := rk_size
  rw [hm] at hL
  unfold Program.keyLits at hL
  simp only [rk_under] at hL
  split at hL
  · rename_i hc
    rw [rk_cells] at hc
    obtain ⟨xs⟩ := xs
    obtain ⟨a, b, rfl⟩ := len_two (show xs.length = 2 from hc.1)
    simp only [i64_cells, List.mapM_cons, List.mapM_nil, List.drop_zero, List.take_succ_cons, List.take_zero, List.drop_succ_cons, bind, Option.map_eq_some_iff, Option.bind_eq_some_iff, pure, Option.some.injEq] at hL
    obtain ⟨LL, ⟨l1, h1, l2, ⟨l3, h3, l4, rfl, rfl⟩, rfl⟩, rfl⟩ := hL
    obtain ⟨x, e1, rfl⟩ := keyLits_int' i64_under h1
    obtain ⟨y, e2, rfl⟩ := keyLits_int' i64_under h3
    simp only [List.cons.injEq, and_true] at e1 e2
    subst e1 e2
    refine ⟨(x, y), rfl, ⟨?_, ?_⟩, by simp [kR]⟩
    · unfold Program.keyLits at h1
      simp only [i64_under] at h1
      split at h1
      · rename_i h; exact h.2
      · cases h1
    · unfold Program.keyLits at h3
      simp only [i64_under] at h3
      split at h3
      · rename_i h; exact h.2
      · cases h3
  · cases hL

theorem kR_inj {r s : Int × Int} (hr : W2 r) (hs : W2 s) (h : kR r = kR s) : r = s := by
  have h1 := rk_mk hr
  have h2 := rk_mk hs
  rw [h] at h1
  have := rk_law.inj h1 h2
  unfold rV at this
  simp at this
  exact Prod.ext this.1 this.2

theorem kR_key {r : Int × Int} (hr : W2 r) : WideAt.IsKeyLit (kR r) := rk_law.key (rk_mk hr)

/-- block b of w is a map with the fractions of lf, at which it has the numbers of F -/
def Grp (w : World) (b n sz : Nat) (lf : Int × Int → Bool) (F : Int × Int → Int) : Prop :=
  ∃ D : DataW Unit, w.ownsMap Try.prog 25 (plainElem Try.prog 2) b n D ∧ Maps.size D = sz ∧ (∀ r, W2 r → Maps.has D (kR r) = lf r) ∧ (∀ r, W2 r → lf r = true → ∀ z, D.atKey (kR r) z = .lit (.int .i64 (F r))) ∧ ∀ r, lf r = true → W2 r

theorem Grp.made (w : World) (F : Int × Int → Int) : Grp (w.alloc (.map #[] 0)) w.heap.size 0 0 (fun _ => false) F :=
  ⟨.map [], World.ownsMap_made _ _ _ _, rfl, fun _ _ => rfl, fun _ _ h => by (cases h), fun _ h => by cases h⟩
theorem Grp.kept {w w' : World} {b n sz : Nat} {lf : Int × Int → Bool} {F : Int × Int → Int} {row : Option Nat} (h : Grp w b n sz lf F) (hg : w.grownBy w' row) (hne : some b ≠ row) : Grp w' b n sz lf F := by
  obtain ⟨D, h1, h2⟩ := h
  exact ⟨D, h1.kept hg hne, h2⟩
theorem Grp.lt {w : World} {b n sz : Nat} {lf : Int × Int → Bool} {F : Int × Int → Int} (h : Grp w b n sz lf F) : b < w.heap.size := by
  obtain ⟨D, h1, _⟩ := h
  exact h1.lt
theorem Grp.of_heap {w w' : World} {b n sz : Nat} {lf : Int × Int → Bool} {F : Int × Int → Int} (h : Grp w b n sz lf F) (hb : w'.heap[b]? = w.heap[b]?) : Grp w' b n sz lf F := by
  obtain ⟨D, ⟨es, clock, h1, h2⟩, h3⟩ := h
  exact ⟨D, ⟨es, clock, hb.trans h1, h2⟩, h3⟩
theorem Grp.mono {w : World} {b n n' sz : Nat} {lf : Int × Int → Bool} {F : Int × Int → Int} (h : Grp w b n sz lf F) (hn : n ≤ n') : Grp w b n' sz lf F := by
  obtain ⟨D, h1, h2⟩ := h
  exact ⟨D, h1.mono hn, h2⟩

/-- what a look-up gives -/
def gv (lf : Int × Int → Bool) (F : Int × Int → Int) (r : Int × Int) : Int := if lf r then F r else 0

theorem Grp.look {w : World} {b n sz : Nat} {lf : Int × Int → Bool} {F : Int × Int → Int} (h : Grp w b n sz lf F) {r : Int × Int} (hr : W2 r) :
    (Instr.lookup 90 (.map (some b)) (rV r) false).run Try.prog w = .ok (.int .i64 (gv lf F r)) w := by
  obtain ⟨D, h1, h2, h3, h4, h5⟩ := h
  obtain ⟨c, hrun, hat, _⟩ := h1.lookup_int rk_law mp_under i64_under (rk_zero _) (rk_mk hr)
  have hc : c = gv lf F r := by
    unfold gv
    by_cases hl : lf r = true
    · rw [if_pos hl]
      rw [h4 r hr hl] at hat
      simp at hat
      exact hat.symm
    · rw [if_neg hl]
      have hn : Maps.has D (kR r) = false := by rw [h3 r hr]; simpa using hl
      rw [Maps.atKey_of_not_has hn] at hat
      simp at hat
      exact hat.symm
  rw [hrun, hc]

theorem Grp.put {w : World} {b n sz : Nat} {lf : Int × Int → Bool} {F : Int × Int → Int} (h : Grp w b n sz lf F) {r : Int × Int} (hr : W2 r) (hn : n ≤ 100000) (v : Int) (hv : (Lit.int .i64 v).wf = true) :
    ∃ w', (Instr.mapUpdate 90 (.map (some b)) (rV r) (.int .i64 v)).run Try.prog w = .ok () w' ∧
      Grp w' b (n + 1) (if lf r then sz else sz + 1) (fun x => decide (x = r) || lf x) (fun x => if x = r then v else F x) ∧ w.grownBy w' (some b) := by
  obtain ⟨D, h1, h2, h3, h4, h5⟩ := h
  obtain ⟨w', hrun, hown, hg⟩ := h1.update rk_law mp_under (by unfold maxLen; omega) (rk_mk hr) (plainElem_int i64_under hv)
  have ht := h1.tidy rk_law
  refine ⟨w', hrun, ⟨_, hown, ?_, ?_, ?_, ?_⟩, hg⟩
  · rw [Maps.size_put ht, h3 r hr, h2]
  · intro x hx
    by_cases e : x = r
    · subst e
      rw [Maps.has_put_same ht.isMap (kR_key hx)]; simp
    · rw [Maps.has_put_other (fun k => e (kR_inj hx hr k)), h3 x hx]; simp [e]
  · intro x hx hl z
    by_cases e : x = r
    · subst e
      rw [Maps.atKey_put_same ht.isMap (kR_key hx)]; simp
    · rw [Maps.atKey_put_other (fun k => e (kR_inj hx hr k))]
      show D.atKey (kR x) z = .lit (.int .i64 (if x = r then v else F x))
      rw [if_neg e]
      exact h4 x hx (by simpa [e] using hl) z
  · intro x hl
    by_cases e : x = r
    · rw [e]; exact hr
    · exact h5 x (by simpa [e] using hl)

end Go.Proofs.Ytcmllkjgggcghaa
