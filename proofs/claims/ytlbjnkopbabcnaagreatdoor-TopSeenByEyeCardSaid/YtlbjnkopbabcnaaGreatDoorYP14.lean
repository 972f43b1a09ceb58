/- PE1 -/
import Derived.Test.YtlbjnkopbabcnaaGreatDoorYP13
/- Walks of package metamer: the ends of a product; a chip less another one. -/
section
namespace Go.Proofs.YtlbjnkopbabcnaaGreatDoor
open Go.RowKit Go.Shelf
set_option linter.unusedSimpArgs false
set_option linter.unusedVariables false

set_option maxRecDepth 100000 in
set_option maxHeartbeats 4000000 in
theorem low_any (i b : Nat) (E : Option Addr) (m ce : Nat) (L : Option Addr) (n cl : Nat) (rs : List (RowR (Int × Int))) (ls : List (Int × Int)) (w : World) (h : Cse w E m L n rs ls) (hc : CaseOk n ls m rs) (hi : i < 3) (hb : b < n) :
    Calls Tryz.prog 124 #[.agg #[.slice E m ce, .slice L n cl], .int .i64 (i : Nat), .int .i64 (b : Nat)] w fun e w' => e = .returned (.int .i64 (Mm.low (rgA ls) (egA rs) i b)) ∧ Below w.heap.size w w' := by
  obtain rfl : m = 3 := hc.2.2.1
  have hn8 := hc.2.1
  have hbd := Mm.low_le hc.ok hi hb
  obtain ⟨eb, eo, A', n', c', zs', rfl, hg, elt, c0, hp, hn'⟩ := h.e.atA (Below.refl _ _) hi
  obtain rfl : n' = n := by have := hc.2.2.2.1 i hi; rw [hg] at this; exact this
  obtain ⟨pb, po, rfl, plt, p0, p1⟩ := hp.atA (Below.refl _ _) hb
  obtain ⟨lb, lo, rfl, llt, q0, q1⟩ := h.l.atA (Below.refl _ _) hb
  have hv : Mm.low (rgA ls) (egA rs) i b = (rgA zs' b).1 * (rgA ls b).1 := by unfold Mm.low egA; rw [hg]
  rw [hv] at hbd ⊢
  obtain ⟨b1, b2, b3⟩ := hbd
  generalize (rgA zs' b).1 = x at *
  generalize (rgA ls b).1 = y at *
  have hw : IntKind.i64.wrap (x * y) = x * y := IntWalk.i64_in _ (by omega)
  have hii : (i : Int) < 3 := by omega
  have hbi : (b : Int) < (n' : Int) := by omega
  clear h hc hp hg hv b1 b2 b3 q1 p1
  go_enter Tryz.func124, Tryz.ntmps124
  go_wp2_with fail
  go_quiet (fail)
  go_wp2_with fail
  go_ret
  exact ⟨rfl, blA⟩

set_option maxRecDepth 100000 in
set_option maxHeartbeats 4000000 in
theorem high_any (i b : Nat) (E : Option Addr) (m ce : Nat) (L : Option Addr) (n cl : Nat) (rs : List (RowR (Int × Int))) (ls : List (Int × Int)) (w : World) (h : Cse w E m L n rs ls) (hc : CaseOk n ls m rs) (hi : i < 3) (hb : b < n) :
    Calls Tryz.prog 125 #[.agg #[.slice E m ce, .slice L n cl], .int .i64 (i : Nat), .int .i64 (b : Nat)] w fun e w' => e = .returned (.int .i64 (Mm.high (rgA ls) (egA rs) i b)) ∧ Below w.heap.size w w' := by
  obtain rfl : m = 3 := hc.2.2.1
  have hn8 := hc.2.1
  have hbd := Mm.low_le hc.ok hi hb
  obtain ⟨eb, eo, A', n', c', zs', rfl, hg, elt, c0, hp, hn'⟩ := h.e.atA (Below.refl _ _) hi
  obtain rfl : n' = n := by have := hc.2.2.2.1 i hi; rw [hg] at this; exact this
  obtain ⟨pb, po, rfl, plt, p0, p1⟩ := hp.atA (Below.refl _ _) hb
  obtain ⟨lb, lo, rfl, llt, q0, q1⟩ := h.l.atA (Below.refl _ _) hb
  have hv : Mm.high (rgA ls) (egA rs) i b = (rgA zs' b).2 * (rgA ls b).2 := by unfold Mm.high egA; rw [hg]
  rw [hv] at hbd ⊢
  obtain ⟨b1, b2, b3⟩ := hbd
  generalize (rgA zs' b).2 = x at *
  generalize (rgA ls b).2 = y at *
  have hw : IntKind.i64.wrap (x * y) = x * y := IntWalk.i64_in _ (by omega)
  have hii : (i : Int) < 3 := by omega
  have hbi : (b : Int) < (n' : Int) := by omega
  clear h hc hp hg hv b1 b2 b3
  go_enter Tryz.func125, Tryz.ntmps125
  go_wp2_with fail
  go_quiet (fail)
  go_wp2_with fail
  go_ret
  exact ⟨rfl, blA⟩

/-- a chip less another one, as far as the first k bands -/
def lesL (zs us : List Int) (n k : Nat) : List Int := (List.range n).map fun b => if b < k then zF zs b - zF us b else zF zs b
theorem lesL_len (zs us : List Int) (n k : Nat) : (lesL zs us n k).length = n := by simp [lesL]
theorem lesL_get (zs us : List Int) (n k : Nat) {b : Nat} (hb : b < n) : (lesL zs us n k).getD b 0 = if b < k then zF zs b - zF us b else zF zs b := by
  unfold lesL
  rw [List.getD_eq_getElem?_getD, List.getElem?_map, List.getElem?_range hb]; rfl
theorem lesL_set (zs us : List Int) (n : Nat) {k : Nat} (hk : k < n) : (lesL zs us n k).set k (zF zs k - zF us k) = lesL zs us n (k + 1) := by
  apply List.ext_getElem (by simp [lesL])
  intro q h1 h2
  simp only [lesL, List.getElem_set, List.getElem_map, List.getElem_range]
  by_cases e : k = q
  · subst e; rw [if_pos rfl, if_pos (by omega)]
  · rw [if_neg e]
    by_cases e2 : q < k
    · rw [if_pos e2, if_pos (by omega)]
    · rw [if_neg e2, if_neg (by omega)]
theorem lesL_zero (zs us : List Int) {n : Nat} (h : zs.length = n) : lesL zs us n 0 = zs := by
  apply List.ext_getElem (by simp [lesL, h])
  intro q h1 h2
  simp [lesL, zF, h2]

end Go.Proofs.YtlbjnkopbabcnaaGreatDoor
end
