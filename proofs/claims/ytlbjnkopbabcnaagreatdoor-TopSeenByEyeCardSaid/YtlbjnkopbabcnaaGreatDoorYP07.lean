/- PA4 -/
import Derived.Test.YtlbjnkopbabcnaaGreatDoorYP05
import Derived.Laws.OwnMore
import Derived.Deep.AppendLies
import Derived.OwnWalk
/- Rows that are put into a row of the call's own; numbers beside blocks that are written. -/
section
namespace Go.Proofs.YtlbjnkopbabcnaaGreatDoor
open Go.RowKit Go.Shelf
set_option linter.unusedSimpArgs false
set_option linter.unusedVariables false

/-- an append leaves the row where it was, or makes it anew -/
theorem append_where {w : World} {base : Nat} {t ty e : TypeId} {i : TypeInfo} {z : Value} {size : Nat} (ht : Tryz.prog.underlying t = some (.slice e)) (hi : Tryz.prog.info? e = some i) (hz : i.zero = some z) (hsize : i.size = size)
    {v : Value} {n : Nat} {xs : List Value} (hown : w.ownsRow base e size v n xs) {a : Addr} {m c : Nat} {news : List Value} (hm : 0 < m) (hl : news.length = m * size) (hnews : ∀ j u, news[j]? = some u → w.cell? (a.add j) = some u) (h1 : ∀ u ∈ news, u.oneCell' = true)
    (h63 : n + m ≤ maxLen) (hbytes : (n + m) * i.bytes ≤ 140737488355328) {v' : Value} {w' : World} (hr : (Builtin.append_ #[t, t] ty #[v, .slice (some a) m c]).run Tryz.prog w = .ok v' w') :
    (∃ g cap, v = .slice (some ⟨g, 0, none⟩) n cap ∧ n + m ≤ cap ∧ v' = .slice (some ⟨g, 0, none⟩) (n + m) cap) ∨ (v'.ownBlock = some w.heap.size ∧ ∀ p : Addr, p.block < w.heap.size → w'.cell? p = w.cell? p) := by
  subst hsize
  have hsmall : n + m ≤ 9223372036854775807 := by simp only [maxLen] at h63; omega
  rcases hown.2 with ⟨rfl, rfl⟩ | ⟨g, cap, cur, rfl, hbg, hg, hnc, hcm, hcs, htake⟩
  · have h2 := run_append_nil (P := Tryz.prog) w t ty e i z ht hi hz a m c news hl hnews hm (by omega) (by have hb := hbytes; simp only [Nat.zero_add] at hb; omega)
    rw [h2] at hr
    injection hr with e1 e2
    subst e1 e2
    exact .inr ⟨rfl, fun p hp => World.cell?_alloc_lt _ _ _ hp⟩
  · by_cases hroom : n + m ≤ cap
    · have hfit : n * i.size + news.length ≤ cur.size := by rw [hl, hcs, ← Nat.add_mul]; exact Nat.mul_le_mul_right _ hroom
      have h2 := run_append_room (P := Tryz.prog) w t ty e i ht hi g n cap cur hg a m c news hl hnews h1 hroom hfit
      rw [h2] at hr
      injection hr with e1 e2
      subst e1
      exact .inl ⟨g, cap, rfl, hroom, rfl⟩
    · have holds : ∀ j u, xs[j]? = some u → w.cell? ((⟨g, 0, none⟩ : Addr).add j) = some u := hown.cells (g := g) rfl
      have h2 := run_append_grow (P := Tryz.prog) w t ty e i z ht hi hz ⟨g, 0, none⟩ n cap xs hown.1 holds a m c news hl hnews (by omega) (by omega) (growslice_fits (by omega) hbytes)
      rw [h2] at hr
      injection hr with e1 e2
      subst e1 e2
      exact .inr ⟨rfl, fun p hp => World.cell?_alloc_lt _ _ _ hp⟩

/-- an append of one slice, and where the row lies then -/
theorem list_sliceG {T e : TypeId} (hT : ElemT T e (.slice none 0 0) 1 24) {ops : Array Oper} {rest : List Oper} {o : Oper} {a : Act} {w : World} {Q : Exit → Act → World → Prop}
    (hg : o.guard = none) (s x : Operand) (hop : o.op = Op.call { callee := Callee.builtin Builtin.append, args := #[s, x], argTypes := #[T, T] })
    (B n : Nat) (v : Value) (xs : List Value) (hs : a.eval s = v) (hown : w.ownsRow B e 1 v n xs)
    (b : Nat) {A : Option Addr} {m c : Nat} (hx : a.eval x = .slice (some ⟨b, 0, none⟩) 1 1) (hy : w.cell? ⟨b, 0, none⟩ = some (.slice A m c)) (hn : n ≤ 5000) (hB : B ≤ w.heap.size)
    (hK : ∀ g c' w', w'.ownsRow B e 1 (.slice (some ⟨g, 0, none⟩) (n + 1) c') (n + 1) (xs ++ [.slice A m c]) → w.grownBy w' v.ownBlock → (v.ownBlock = some g ∨ w.heap.size ≤ g) → wpList Tryz.prog ops Q rest (a.put o.dst (.slice (some ⟨g, 0, none⟩) (n + 1) c')) w') :
    wpList Tryz.prog ops Q (o :: rest) a w := by
  obtain ⟨hu, hinf, hzc, hs0, hby⟩ := hT
  obtain ⟨i0, hi0, hzz⟩ := Option.map_eq_some_iff.1 hinf
  simp only [Prod.mk.injEq] at hzz
  obtain ⟨hz0, hz1, hz2⟩ := hzz
  have hnews : ∀ j u, [Value.slice A m c][j]? = some u → w.cell? ((⟨b, 0, none⟩ : Addr).add j) = some u := by
    intro j u hj
    match j, hj with
    | 0, hj => simp at hj; subst hj; simpa [Addr.add] using hy
    | j + 1, hj => simp at hj
  have h1 : ∀ u ∈ [Value.slice A m c], u.oneCell' = true := by intro u hu; simp at hu; subst hu; rfl
  have hbb : (n + 1) * 24 ≤ 6000 * 32 := Nat.mul_le_mul (by omega) hby
  obtain ⟨v', w', hr, ho, hgr, hnil⟩ := run_append_own (P := Tryz.prog) w B T o.type e i0 (.slice none 0 0) 1 24 hu hi0 hz0 hz1 hz2 hzc hs0 v n _ hown ⟨b, 0, none⟩ 1 1 [.slice A m c] rfl hnews h1 (by unfold maxLen; omega) (by omega) hB
  have hw := append_where hu hi0 hz0 hz1 hown (by omega) rfl hnews h1 (by unfold maxLen; omega) (by rw [hz2]; omega) hr
  rcases ho.2 with ⟨rfl, h0⟩ | ⟨g', c', cur', rfl, hrest⟩
  · omega
  refine wpList_plain hg fun K hK' => ?_
  unfold Oper.wp execOp
  simp only [hop, resolve, invoke, builtin, Sem.run_bind, Sem.run_pure, Result.andThen_ok, List.map_toArray, List.map_cons, List.map_nil, hs, hx, hr]
  refine hK' _ _ (hK g' c' w' ho hgr ?_)
  rcases hw with ⟨g1, c1, rfl, -, e2⟩ | ⟨e1, -⟩
  · injection e2 with e2; injection e2 with e2; injection e2 with e2
    subst e2
    exact .inl rfl
  · have : g' = w.heap.size := by simpa [Value.ownBlock] using e1
    exact .inr (by omega)
theorem Ints.other {w : World} {g n : Nat} {zs : List Int} (h : Ints w (some ⟨g, 0, none⟩) n zs) {p : Addr} (hp : g ≠ p.block) (u : Value) : Ints (w.setCell p u) (some ⟨g, 0, none⟩) n zs := by
  refine ⟨h.1, fun hn => ?_⟩
  obtain ⟨b, off, e, hlt, hc⟩ := h.2 hn
  injection e with e
  injection e with e1 e2
  subst e1 e2
  exact ⟨g, 0, rfl, by simpa [World.setCell] using hlt, fun i hi => by rw [World.cell?_setCell_other _ _ _ _ (by intro e; apply hp; rw [e])]; exact hc i hi⟩
theorem Ints.keepB {w w' : World} {g n B : Nat} {zs : List Int} (h : Ints w (some ⟨g, 0, none⟩) n zs) (hg : g < B) (hb : Below B w w') : Ints w' (some ⟨g, 0, none⟩) n zs := by
  refine ⟨h.1, fun hn => ?_⟩
  obtain ⟨b, off, e, hlt, hc⟩ := h.2 hn
  injection e with e
  injection e with e1 e2
  subst e1 e2
  exact ⟨g, 0, rfl, Nat.lt_of_lt_of_le hlt hb.size, fun i hi => (hb.cell (p := ⟨g, 0 + i, none⟩) hg).trans (hc i hi)⟩
theorem Ints.grew {w w' : World} {g n : Nat} {ob : Option Nat} {zs : List Int} (h : Ints w (some ⟨g, 0, none⟩) n zs) (hg : w.grownBy w' ob) (hne : ob ≠ some g) : Ints w' (some ⟨g, 0, none⟩) n zs := by
  refine ⟨h.1, fun hn => ?_⟩
  obtain ⟨b, off, e, hlt, hc⟩ := h.2 hn
  injection e with e
  injection e with e1 e2
  subst e1 e2
  refine ⟨g, 0, rfl, Nat.lt_of_lt_of_le hlt hg.size, fun i hi => ?_⟩
  rw [← hc i hi]
  unfold World.cell?
  rw [hg.block g hlt (fun e => hne e.symm)]
theorem below_grewB {B : Nat} {w w' : World} {ob : Option Nat} (hg : w.grownBy w' ob) (hob : ∀ g, ob = some g → B ≤ g) (hB : B ≤ w.heap.size) : Below B w w' :=
  ⟨hg.os, hg.tape, hg.output, hg.size, fun i hi => hg.block i (by omega) (fun h => by have := hob i h.symm; omega)⟩
end Go.Proofs.YtlbjnkopbabcnaaGreatDoor
end
