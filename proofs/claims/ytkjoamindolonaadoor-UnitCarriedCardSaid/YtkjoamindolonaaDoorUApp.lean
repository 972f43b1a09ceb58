/- Appends of numbers that must grow. -/
import Derived.Test.YtkjoamindolonaaDoorUBase
import Derived.ArgAppend
import Derived.Deep.RegionLawGrows
import Derived.Deep.AppendLies
namespace Go.Proofs.YtkjoamindolonaaDoor
open Go.RowKit Go.Shelf
set_option linter.unusedSimpArgs false
set_option linter.unusedVariables false

theorem Ints.alloc {w : World} {A : Option Addr} {n : Nat} {zs : List Int} (h : Ints w A n zs) (o : Obj) : Ints (w.alloc o) A n zs := h.below (balloc (Below.refl _ _) o)
theorem Ints.drewN {w : World} {A : Option Addr} {n : Nat} {zs : List Int} (h : Ints w A n zs) (k : Nat) : Ints (w.drewN k) A n zs := h
theorem Ints.drew {w : World} {A : Option Addr} {n : Nat} {zs : List Int} (h : Ints w A n zs) : Ints w.drew A n zs := h
theorem Ints.new1 (w : World) (H : Nat) (x : Int) (t : TypeId) (hH : w.heap.size = H) : Ints (w.alloc (.cells #[.int .i64 x] t)) (some ⟨H, 0, none⟩) 1 [x] := Ints.new w H [x] t hH
theorem Ints.new2 (w : World) (H : Nat) (x y : Int) (t : TypeId) (hH : w.heap.size = H) : Ints (w.alloc (.cells #[.int .i64 x, .int .i64 y] t)) (some ⟨H, 0, none⟩) 2 [x, y] := Ints.new w H [x, y] t hH
theorem Ints.nil (w : World) (A : Option Addr) : Ints w A 0 [] := ⟨rfl, fun h => absurd h (by omega)⟩

theorem addr_add (b off j : Nat) : (⟨b, off, none⟩ : Addr).add j = ⟨b, off + j, none⟩ := by
  unfold Addr.add; split
  · rename_i h; simp [h]
  · rfl

theorem Ints.reads {w : World} {A : Option Addr} {n : Nat} {zs : List Int} (h : Ints w A n zs) : ∀ b, A = some b → ∀ j u, (zs.map (Value.int .i64))[j]? = some u → w.cell? (b.add j) = some u := by
  intro ad had j u hu
  have hj : j < zs.length := by
    have := List.getElem?_eq_some_iff.1 hu
    obtain ⟨h1, _⟩ := this
    simpa using h1
  obtain ⟨b, off, hA, _, hc⟩ := h.2 (by rw [← h.1]; omega)
  rw [had] at hA
  injection hA with hA
  subst hA
  rw [addr_add, hc j (by rw [← h.1]; exact hj)]
  rw [List.getElem?_map, List.getElem?_eq_getElem hj] at hu
  rw [List.getD_eq_getElem?_getD, List.getElem?_eq_getElem hj]
  simpa using hu

theorem Ints.of_own {w : World} {B : Nat} {g n cap : Nat} {zs : List Int} (h : w.ownsRow B 2 1 (.slice (some ⟨g, 0, none⟩) n cap) n (zs.map (Value.int .i64))) : Ints w (some ⟨g, 0, none⟩) n zs := by
  obtain ⟨hl, h2⟩ := h
  simp at hl
  refine ⟨hl, fun hn => ?_⟩
  rcases h2 with ⟨hv, h0⟩ | ⟨g', cap', cur, hv, hB, hh, hn1, hn2, hcs, htake⟩
  · omega
  · injection hv with hv1 hv2 hv3
    injection hv1 with hv1
    injection hv1 with hv1
    subst hv1
    have hlt : g < w.heap.size := by
      rcases Nat.lt_or_ge g w.heap.size with hlt | hge
      · exact hlt
      · rw [Array.getElem?_eq_none hge] at hh; cases hh
    refine ⟨g, 0, rfl, hlt, fun i hi => ?_⟩
    have h1 := cell_of_row w g (0 + i) cur 2 (0, 0) hh
    rw [h1]
    have h3 : (cur.toList.take (n * 1))[i]? = (zs.map (Value.int .i64))[i]? := by rw [htake]
    have hil : i < zs.length := by omega
    rw [List.getElem?_take_of_lt (by omega), List.getElem?_map, List.getElem?_eq_getElem hil] at h3
    rw [List.getD_eq_getElem?_getD, List.getElem?_eq_getElem hil, Nat.zero_add]
    simpa using h3

theorem int_info : (Tryd.prog.info? 2).map (fun i => (i.zero, i.size, i.bytes)) = some (some (.int .i64 0), 1, 8) := by kernel_rfl

/-- an append of numbers that must grow: what the new slice reads as -/
theorem after_grow {w w' : World} {n m : Nat} {xs ys : List Int} {v : Value} (hpos : 0 < n + m) (h : w'.ownsRow w.heap.size 2 1 v (n + m) (xs.map (Value.int .i64) ++ ys.map (Value.int .i64))) (hg : w.grownBy w' none) :
    ∃ g c, v = .slice (some ⟨g, 0, none⟩) (n + m) c ∧ Ints w' (some ⟨g, 0, none⟩) (n + m) (xs ++ ys) ∧ n + m ≤ c ∧ Below w.heap.size w w' := by
  rw [← List.map_append] at h
  obtain ⟨g, c, rfl, _, _⟩ := World.ownsRow.form h hpos
  refine ⟨g, c, rfl, Ints.of_own h, ?_, (Below.refl _ w).grown hg (Nat.le_refl _) (fun k hk => by cases hk)⟩
  rcases h.2 with ⟨hv, _⟩ | ⟨g', cap', cur, hv, _, _, hn1, _⟩
  · cases hv
  · injection hv with _ _ hv3; omega

theorem step_appI {ops : Array Oper} {o : Oper} {a : Act} {w : World} {K : Act → World → Prop} {Q : Exit → Act → World → Prop} {E : Prop}
    (hg : o.guard = none) (s x : Operand) (hop : o.op = Op.call { callee := Callee.builtin Builtin.append, args := #[s, x], argTypes := #[40, 40] })
    (ao : Option Addr) (n cap : Nat) (xs : List Int) (hs : a.eval s = .slice ao n cap) (hxs : Ints w ao n xs) (hnone : ao = none → n = 0 ∧ cap = 0)
    (ap : Option Addr) (m c : Nat) (ys : List Int) (hx : a.eval x = .slice ap m c) (hys : Ints w ap m ys) (hm : 0 < m) (hfull : cap < n + m) (b1 : n + m ≤ 100000)
    (hK : ∀ g c' w', Ints w' (some ⟨g, 0, none⟩) (n + m) (xs ++ ys) → n + m ≤ c' → Below w.heap.size w w' → K (a.put o.dst (.slice (some ⟨g, 0, none⟩) (n + m) c')) w') :
    if Region.wanted o (yielded ops a.tmps) = true then Oper.wp Tryd.prog o a w K Q else E := by
  obtain ⟨i0, hi0, hz0, hz1, hz2⟩ := info_parts int_info
  obtain ⟨b, off, rfl, _, _⟩ := hys.2 hm
  refine step_append_grows hg s x 40 hop 2 i0 (.int .i64 0) 1 8 Tryd.underlying40 hi0 hz0 hz1 hz2 rfl (by omega) ao n cap (xs.map (Value.int .i64)) hs hnone (by simp [hxs.1]) hxs.reads
    ⟨b, off, none⟩ m c (ys.map (Value.int .i64)) hx (by simp [hys.1]) (hys.reads _ rfl) (by intro u hu; obtain ⟨y, _, rfl⟩ := List.mem_map.1 hu; rfl) hfull (by unfold maxLen; omega) (by omega) ?_
  intro v' w' h1 h2
  obtain ⟨g, c', rfl, h3, h4, h5⟩ := after_grow (by omega) h1 h2
  exact hK g c' w' h3 h4 h5

theorem list_appI {ops : Array Oper} {rest : List Oper} {o : Oper} {a : Act} {w : World} {Q : Exit → Act → World → Prop}
    (hg : o.guard = none) (s x : Operand) (hop : o.op = Op.call { callee := Callee.builtin Builtin.append, args := #[s, x], argTypes := #[40, 40] })
    (ao : Option Addr) (n cap : Nat) (xs : List Int) (hs : a.eval s = .slice ao n cap) (hxs : Ints w ao n xs) (hnone : ao = none → n = 0 ∧ cap = 0)
    (ap : Option Addr) (m c : Nat) (ys : List Int) (hx : a.eval x = .slice ap m c) (hys : Ints w ap m ys) (hm : 0 < m) (hfull : cap < n + m) (b1 : n + m ≤ 100000)
    (hK : ∀ g c' w', Ints w' (some ⟨g, 0, none⟩) (n + m) (xs ++ ys) → n + m ≤ c' → Below w.heap.size w w' → wpList Tryd.prog ops Q rest (a.put o.dst (.slice (some ⟨g, 0, none⟩) (n + m) c')) w') :
    wpList Tryd.prog ops Q (o :: rest) a w := by
  obtain ⟨i0, hi0, hz0, hz1, hz2⟩ := info_parts int_info
  obtain ⟨b, off, rfl, _, _⟩ := hys.2 hm
  refine wpList_append_grows w hg s x 40 hop 2 i0 (.int .i64 0) 1 8 Tryd.underlying40 hi0 hz0 hz1 hz2 rfl (by omega) ao n cap (xs.map (Value.int .i64)) hs hnone (by simp [hxs.1]) hxs.reads
    ⟨b, off, none⟩ m c (ys.map (Value.int .i64)) hx (by simp [hys.1]) (hys.reads _ rfl) (by intro u hu; obtain ⟨y, _, rfl⟩ := List.mem_map.1 hu; rfl) hfull (by unfold maxLen; omega) (by omega) ?_
  intro v' w' h1 h2
  obtain ⟨g, c', rfl, h3, h4, h5⟩ := after_grow (by omega) h1 h2
  exact hK g c' w' h3 h4 h5

end Go.Proofs.YtkjoamindolonaaDoor
