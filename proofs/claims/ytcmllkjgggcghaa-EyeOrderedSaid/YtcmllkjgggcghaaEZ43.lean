/- EI4 EI5 -/
import Derived.Test.YtcmllkjgggcghaaEZ26
import Derived.Laws.OwnMore
import Derived.Deep.AppendLies
import Derived.OwnWalk
import Derived.Test.YtcmllkjgggcghaaEZ30
/- Rows of the call's own: which block an append leaves; lists of plates; lists of numbers. -/
section
namespace Go.Proofs.Ytcmllkjgggcghaa
open Go.RowKit Go.Shelf
set_option linter.unusedSimpArgs false
set_option linter.unusedVariables false

/-- an append leaves the row where it was, or makes it anew -/
theorem append_where {w : World} {base : Nat} {t ty e : TypeId} {i : TypeInfo} {z : Value} {size : Nat} (ht : Try.prog.underlying t = some (.slice e)) (hi : Try.prog.info? e = some i) (hz : i.zero = some z) (hsize : i.size = size)
    {v : Value} {n : Nat} {xs : List Value} (hown : w.ownsRow base e size v n xs) {a : Addr} {m c : Nat} {news : List Value} (hm : 0 < m) (hl : news.length = m * size) (hnews : ∀ j u, news[j]? = some u → w.cell? (a.add j) = some u) (h1 : ∀ u ∈ news, u.oneCell' = true)
    (h63 : n + m ≤ maxLen) (hbytes : (n + m) * i.bytes ≤ 140737488355328) {v' : Value} {w' : World} (hr : (Builtin.append_ #[t, t] ty #[v, .slice (some a) m c]).run Try.prog w = .ok v' w') :
    (∃ g cap, v = .slice (some ⟨g, 0, none⟩) n cap ∧ n + m ≤ cap ∧ v' = .slice (some ⟨g, 0, none⟩) (n + m) cap) ∨ (v'.ownBlock = some w.heap.size ∧ ∀ p : Addr, p.block < w.heap.size → w'.cell? p = w.cell? p) := by
  subst hsize
  have hsmall : n + m ≤ 9223372036854775807 := by simp only [maxLen] at h63; omega
  rcases hown.2 with ⟨rfl, rfl⟩ | ⟨g, cap, cur, rfl, hbg, hg, hnc, hcm, hcs, htake⟩
  · have h2 := run_append_nil (P := Try.prog) w t ty e i z ht hi hz a m c news hl hnews hm (by omega) (by have hb := hbytes; simp only [Nat.zero_add] at hb; omega)
    rw [h2] at hr
    injection hr with e1 e2
    subst e1 e2
    exact .inr ⟨rfl, fun p hp => World.cell?_alloc_lt _ _ _ hp⟩
  · by_cases hroom : n + m ≤ cap
    · have hfit : n * i.size + news.length ≤ cur.size := by rw [hl, hcs, ← Nat.add_mul]; exact Nat.mul_le_mul_right _ hroom
      have h2 := run_append_room (P := Try.prog) w t ty e i ht hi g n cap cur hg a m c news hl hnews h1 hroom hfit
      rw [h2] at hr
      injection hr with e1 e2
      subst e1
      exact .inl ⟨g, cap, rfl, hroom, rfl⟩
    · have holds : ∀ j u, xs[j]? = some u → w.cell? ((⟨g, 0, none⟩ : Addr).add j) = some u := hown.cells (g := g) rfl
      have h2 := run_append_grow (P := Try.prog) w t ty e i z ht hi hz ⟨g, 0, none⟩ n cap xs hown.1 holds a m c news hl hnews (by omega) (by omega) (growslice_fits (by omega) hbytes)
      rw [h2] at hr
      injection hr with e1 e2
      subst e1 e2
      exact .inr ⟨rfl, fun p hp => World.cell?_alloc_lt _ _ _ hp⟩

theorem int64T_info : (Try.prog.info? 2).map (fun i => (i.zero, i.size, i.bytes)) = some (some (.int .i64 0), 1, 8) := by kernel_rfl
theorem plT_info : (Try.prog.info? 73).map (fun i => (i.zero, i.size, i.bytes)) = some (some (.agg #[.slice none 0 0, .slice none 0 0]), 2, 48) := by kernel_rfl
theorem info3 {T : TypeId} {z : Value} {s b : Nat} (h : (Try.prog.info? T).map (fun i => (i.zero, i.size, i.bytes)) = some (some z, s, b)) : ∃ i, Try.prog.info? T = some i ∧ i.zero = some z ∧ i.size = s ∧ i.bytes = b := by
  obtain ⟨i, hi, hzz⟩ := Option.map_eq_some_iff.1 h
  simp only [Prod.mk.injEq] at hzz
  exact ⟨i, hi, hzz.1, hzz.2.1, hzz.2.2⟩
theorem below_grown {B : Nat} {w w' : World} {v : Value} {base : Nat} {e : TypeId} {size n : Nat} {xs : List Value} (hg : w.grownBy w' v.ownBlock) (hown : w.ownsRow base e size v n xs) (hB : B ≤ base) (hw : B ≤ w.heap.size) : Below B w w' :=
  ⟨hg.os, hg.tape, hg.output, hg.size, fun i hi => hg.block i (by omega) (fun h => by have := hown.lt i h.symm; omega)⟩

theorem balloc' (B : Nat) (W : World) (o : Obj) (h : B ≤ W.heap.size) : Below B W (W.alloc o) := (balloc (Below.refl _ _) o).mono h

/-- a row of numbers of the call's own -/
abbrev OwnI (W : World) (B g n c : Nat) (xs : List Int) : Prop := W.ownsRow B 2 1 (.slice (some ⟨g, 0, none⟩) n c) n (xs.map (Value.int .i64))
theorem OwnI.cell {W : World} {B g n c : Nat} {xs : List Int} (h : OwnI W B g n c xs) (j : Nat) (hj : j < n) : W.cell? ⟨g, j, none⟩ = some (.int .i64 (xs.getD j 0)) := by
  have hl : xs.length = n := by have := h.1; simpa using this
  have h1 := h.cellAt j (by omega)
  rw [h1, List.getElem?_map, List.getD_eq_getElem?_getD, List.getElem?_eq_getElem (by omega)]; rfl
theorem OwnI.lt {W : World} {B g n c : Nat} {xs : List Int} (h : OwnI W B g n c xs) : B ≤ g ∧ g < W.heap.size := World.ownsRow.lt h g rfl
theorem OwnI.ints {W : World} {B g n c : Nat} {xs : List Int} (h : OwnI W B g n c xs) : Ints W (some ⟨g, 0, none⟩) n xs :=
  ⟨by have := h.1; simpa using this, fun _ => ⟨g, 0, rfl, h.lt.2, fun i hi => by rw [Nat.zero_add]; exact h.cell i hi⟩⟩
theorem OwnI.grown {W W' : World} {B g n c g2 : Nat} {xs : List Int} (h : OwnI W B g n c xs) (hg : W.grownBy W' (some g2)) (hne : g ≠ g2) : OwnI W' B g n c xs :=
  World.ownsRow.kept h hg (.inr (fun e => hne (by injection e)))
theorem OwnI.below {W W' : World} {B g n c : Nat} {xs : List Int} (h : OwnI W B g n c xs) (hb : Below W.heap.size W W') : OwnI W' B g n c xs := own_keepI h hb

theorem OwnI.stored {W : World} {B g n c : Nat} {xs : List Int} (h : OwnI W B g n c xs) (j : Nat) (u : Int) : OwnI (W.setCell ⟨g, j, none⟩ (.int .i64 u)) B g n c (xs.set j u) ∧ W.grownBy (W.setCell ⟨g, j, none⟩ (.int .i64 u)) (some g) := by
  obtain ⟨h1, h2⟩ := World.ownsRow.stored h j (.int .i64 u)
  exact ⟨by unfold OwnI; rw [List.map_set]; exact h1, h2⟩

/-- an append of some numbers to an empty row -/
theorem app_empty {W : World} {B b : Nat} (hB : B ≤ W.heap.size) {A : Option Addr} {m cc : Nat} {zs : List Int} (hz : Ints W A m zs) (hm : 0 < m) (hm2 : m ≤ 1000) :
    ∃ c' W', (∀ ty, (Builtin.append_ #[71, 71] ty #[.slice (some ⟨b, 0, none⟩) 0 0, .slice A m cc]).run Try.prog W = .ok (.slice (some ⟨W.heap.size, 0, none⟩) m c') W') ∧ OwnI W' B W.heap.size m c' zs ∧ Below W.heap.size W W' ∧ W.heap.size < W'.heap.size := by
  obtain ⟨i, hi, hz0, hs, hby⟩ := info3 int64T_info
  obtain ⟨bb, oo, rfl, hlt, hc⟩ := hz.2 hm
  have hnews : ∀ j u, (zs.map (Value.int .i64))[j]? = some u → W.cell? ((⟨bb, oo, none⟩ : Addr).add j) = some u := by
    intro j u hu
    rw [List.getElem?_map] at hu
    obtain ⟨x, hx, rfl⟩ := Option.map_eq_some_iff.1 hu
    have hj : j < m := by rw [← hz.1]; exact (List.getElem?_eq_some_iff.1 hx).1
    have := hc j hj
    rw [List.getD_eq_getElem?_getD, hx] at this
    rw [Go.WideShapes.add_plain]
    exact this
  have hr := fun ty => run_append_grow (P := Try.prog) W 71 ty 2 i (.int .i64 0) Try.underlying71 hi hz0 ⟨b, 0, none⟩ 0 0 [] (by simp) (fun j u h => by simp at h) ⟨bb, oo, none⟩ m cc (zs.map (Value.int .i64)) (by rw [hs, List.length_map, hz.1, Nat.mul_one]) hnews (by omega) (by omega) (growslice_fits (by omega) (by rw [hby]; omega))
  simp only [Nat.zero_add] at hr
  have hge := grownCap_ge W m 0 2
  have hcm : grownCap W m 0 2 ≤ maxLen := grownCap_le_maxLen W m 0 2 (by unfold maxLen; omega)
  refine ⟨_, _, hr, ⟨by simp [hz.1], .inr ⟨W.heap.size, _, _, rfl, hB, heap_alloc_new W.drew _, hge, hcm, ?_, ?_⟩⟩, balloc (Below.drew (Below.refl _ _)) _, by simp⟩
  · simp only [Array.size_append, List.size_toArray, List.length_map, size_zeroCells, Value.cells, hz.1, List.length_nil]
    show 0 + m + (grownCap W m 0 2 - m) * 1 = grownCap W m 0 2 * 1
    omega
  · simp only [Array.toList_append, List.append_assoc, List.nil_append]
    rw [Nat.mul_one]
    have : m = (zs.map (Value.int .i64)).length := by simp [hz.1]
    conv => lhs; rw [this]
    exact List.take_left

/-- an append of one number to a row of the call's own -/
theorem app_one {W : World} {B g n c : Nat} {xs : List Int} (hown : OwnI W B g n c xs) {b : Nat} {y : Int} (hy : W.cell? ⟨b, 0, none⟩ = some (.int .i64 y)) (hn : n ≤ 1000) (hB : B ≤ W.heap.size) :
    ∃ g' c' W', (∀ ty, (Builtin.append_ #[71, 71] ty #[.slice (some ⟨g, 0, none⟩) n c, .slice (some ⟨b, 0, none⟩) 1 1]).run Try.prog W = .ok (.slice (some ⟨g', 0, none⟩) (n + 1) c') W') ∧
      OwnI W' B g' (n + 1) c' (xs ++ [y]) ∧ W.grownBy W' (some g) ∧ (g' = g ∨ g' = W.heap.size) ∧ ∀ j, j < n → W'.cell? ⟨g, j, none⟩ = W.cell? ⟨g, j, none⟩ := by
  have hlt : g < W.heap.size := hown.lt.2
  obtain ⟨i, hi, hz0, hs, hby⟩ := info3 int64T_info
  have hnews : ∀ j u, ([Value.int .i64 y] : List Value)[j]? = some u → W.cell? ((⟨b, 0, none⟩ : Addr).add j) = some u := by
    intro j u hu
    match j, hu with
    | 0, hu => simp at hu; subst hu; simpa [Addr.add] using hy
    | j + 1, hu => simp at hu
  have h1 : ∀ u ∈ ([Value.int .i64 y] : List Value), u.oneCell' = true := by
    intro u hu
    simp at hu
    subst hu; rfl
  obtain ⟨v', W', hr, ho, hg, -⟩ := run_append_own (P := Try.prog) W B 71 0 2 i (.int .i64 0) 1 8 Try.underlying71 hi hz0 hs hby rfl (by omega) _ n _ hown ⟨b, 0, none⟩ 1 1 [.int .i64 y] rfl hnews h1 (by unfold maxLen; omega) (by omega) hB
  obtain ⟨g', c', rfl, -⟩ := World.ownsRow.form ho (by omega)
  have hw := append_where Try.underlying71 hi hz0 hs hown (by omega) rfl hnews h1 (by unfold maxLen; omega) (by rw [hby]; omega) hr
  refine ⟨g', c', W', fun ty => hr, by unfold OwnI; rw [List.map_append]; exact ho, hg, ?_, ?_⟩
  · rcases hw with ⟨g1, c1, e1, -, e2⟩ | ⟨e1, -⟩
    · injection e1 with e1; injection e1 with e1; injection e1 with e1
      injection e2 with e2; injection e2 with e2; injection e2 with e2
      exact .inl (by omega)
    · exact .inr (by simpa [Value.ownBlock] using e1)
  · intro j hj
    rcases hw with ⟨g1, c1, e1, -, e2⟩ | ⟨-, e1⟩
    · have e3 : g = g1 := by simpa [Value.ownBlock] using congrArg Value.ownBlock e1
      have e4 : g' = g1 := by simpa [Value.ownBlock] using congrArg Value.ownBlock e2
      obtain rfl : g' = g := by rw [e4, e3]
      clear e1 e2
      have a := World.ownsRow.cellAt ho j (by omega)
      have b := hown.cellAt j (by omega)
      have hl : (xs.map (Value.int .i64)).length = n := by have := hown.1; simpa using this
      rw [a, b, List.getElem?_append_left (by omega)]
    · exact e1 ⟨g, j, none⟩ hlt

/-- a plate as two cells -/
def encP (p : Pl) : List Value := [.slice p.gA p.gn p.gc, .slice p.eA p.en p.ec]
theorem flatP_len (zs : List Pl) : (zs.flatMap encP).length = zs.length * 2 := by
  induction zs with
  | nil => rfl
  | cons p zs ih => rw [List.flatMap_cons, List.length_append, ih, List.length_cons]; simp [encP]; omega
theorem flatP_get : ∀ (zs : List Pl) (i : Nat) (p : Pl), zs[i]? = some p → (zs.flatMap encP)[i * 2]? = some (.slice p.gA p.gn p.gc) ∧ (zs.flatMap encP)[i * 2 + 1]? = some (.slice p.eA p.en p.ec)
  | [], i, p, h => by simp at h
  | q :: zs, 0, p, h => by simp at h; subst h; simp [encP]
  | q :: zs, i + 1, p, h => by
    rw [List.getElem?_cons_succ] at h
    obtain ⟨h1, h2⟩ := flatP_get zs i p h
    rw [List.flatMap_cons]
    have e1 : (i + 1) * 2 = (encP q).length + i * 2 := by simp [encP]; omega
    have e2 : (i + 1) * 2 + 1 = (encP q).length + (i * 2 + 1) := by simp [encP]; omega
    rw [e2, e1, List.getElem?_append_right (by omega), List.getElem?_append_right (by omega), Nat.add_sub_cancel_left, Nat.add_sub_cancel_left]
    exact ⟨h1, h2⟩
/-- a row of plates of the call's own -/
abbrev OwnP (W : World) (B : Nat) (v : Value) (n : Nat) (zs : List Pl) : Prop := W.ownsRow B 73 2 v n (zs.flatMap encP)
theorem OwnP.plates {W : World} {B n : Nat} {v : Value} {zs : List Pl} (h : OwnP W B v n zs) (hl : zs.length = n) (hok : ∀ p ∈ zs, PlOk W p) : ∃ A c, v = .slice A n c ∧ Plates W A n zs := by
  rcases h.2 with ⟨rfl, h0⟩ | ⟨g, cap, cur, rfl, hB, hg, _⟩
  · subst h0
    exact ⟨none, 0, rfl, hl, fun h => absurd h (by omega), hok⟩
  · refine ⟨some ⟨g, 0, none⟩, cap, rfl, hl, fun hn => ⟨g, 0, rfl, (Array.getElem?_eq_some_iff.1 hg).1, fun i p hp => ?_⟩, hok⟩
    have hi : i < n := by rw [← hl]; exact (List.getElem?_eq_some_iff.1 hp).1
    obtain ⟨h1, h2⟩ := flatP_get zs i p hp
    rw [Nat.zero_add]
    exact ⟨(World.ownsRow.cellAt h (i * 2) (by omega)).trans h1, (World.ownsRow.cellAt h (i * 2 + 1) (by omega)).trans h2⟩

/-- an append of one plate to a row of the call's own -/
theorem list_ownP {ops : Array Oper} {rest : List Oper} {o : Oper} {a : Act} {w : World} {Q : Exit → Act → World → Prop}
    (hg : o.guard = none) (s x : Operand) (hop : o.op = Op.call { callee := Callee.builtin Builtin.append, args := #[s, x], argTypes := #[22, 22] })
    (B n : Nat) (v : Value) (zs : List Pl) (hs : a.eval s = v) (hown : OwnP w B v n zs)
    (b : Nat) (p : Pl) (hx : a.eval x = .slice (some ⟨b, 0, none⟩) 1 1) (h0 : w.cell? ⟨b, 0, none⟩ = some (.slice p.gA p.gn p.gc)) (h1 : w.cell? ⟨b, 1, none⟩ = some (.slice p.eA p.en p.ec)) (hn : n ≤ 1000) (hB : B ≤ w.heap.size)
    (hK : ∀ g c w', OwnP w' B (.slice (some ⟨g, 0, none⟩) (n + 1) c) (n + 1) (zs ++ [p]) → w.grownBy w' v.ownBlock → (v.ownBlock = some g ∨ g = w.heap.size) → wpList Try.prog ops Q rest (a.put o.dst (.slice (some ⟨g, 0, none⟩) (n + 1) c)) w') :
    wpList Try.prog ops Q (o :: rest) a w := by
  obtain ⟨i, hi, hz0, hsz, hby⟩ := info3 plT_info
  have hnews : ∀ j u, (encP p)[j]? = some u → w.cell? ((⟨b, 0, none⟩ : Addr).add j) = some u := by
    intro j u hu
    match j, hu with
    | 0, hu => simp [encP] at hu; subst hu; simpa [Addr.add] using h0
    | 1, hu => simp [encP] at hu; subst hu; simpa [Addr.add] using h1
    | j + 2, hu => simp [encP] at hu
  have hone : ∀ u ∈ encP p, u.oneCell' = true := by
    intro u hu
    simp [encP] at hu
    rcases hu with rfl | rfl <;> rfl
  obtain ⟨v', w', hr, ho, hgr, -⟩ := run_append_own (P := Try.prog) w B 22 o.type 73 i (.agg #[.slice none 0 0, .slice none 0 0]) 2 48 Try.underlying22 hi hz0 hsz hby rfl (by omega) v n _ hown ⟨b, 0, none⟩ 1 1 (encP p) rfl hnews hone (by unfold maxLen; omega) (by omega) hB
  obtain ⟨g', c', rfl, -⟩ := World.ownsRow.form ho (by omega)
  have hw := append_where Try.underlying22 hi hz0 hsz hown (by omega) rfl hnews hone (by unfold maxLen; omega) (by rw [hby]; omega) hr
  refine wpList_plain hg fun K hK' => ?_
  unfold Oper.wp execOp
  simp only [hop, resolve, invoke, builtin, Sem.run_bind, Sem.run_pure, Result.andThen_ok, List.map_toArray, List.map_cons, List.map_nil, hs, hx, hr]
  refine hK' _ _ (hK g' c' w' (by unfold OwnP; rw [show (zs ++ [p]).flatMap encP = zs.flatMap encP ++ encP p by simp]; exact ho) hgr ?_)
  rcases hw with ⟨g1, c1, rfl, -, e2⟩ | ⟨e1, -⟩
  · injection e2 with e2; injection e2 with e2; injection e2 with e2
    subst e2
    exact .inl rfl
  · exact .inr (by simpa [Value.ownBlock] using e1)

end Go.Proofs.Ytcmllkjgggcghaa
end

/- Plain laws: plates turned round; a plate one of whose answers is parted. -/
section
namespace Go.Proofs.Ytcmllkjgggcghaa
set_option linter.unusedSimpArgs false
set_option linter.unusedVariables false

theorem plAt_some {zs : List Pl} {k : Nat} (h : k < zs.length) : zs[k]? = some (plAt zs k) := by
  rw [plAt_eq (List.getElem?_eq_getElem h)]
  exact List.getElem?_eq_getElem h

/-- the first plates of those that are turned -/
def turnL (zs : List Pl) (b i : Nat) : List Pl := (List.range i).map fun q => plAt zs ((q + b) % zs.length)
theorem turnL_succ (zs : List Pl) (b i : Nat) : turnL zs b (i + 1) = turnL zs b i ++ [plAt zs ((i + b) % zs.length)] := by
  unfold turnL
  rw [List.range_succ, List.map_append]; rfl
theorem turnL_len (zs : List Pl) (b i : Nat) : (turnL zs b i).length = i := by simp [turnL]
theorem turnL_mem {zs : List Pl} {b i : Nat} (h0 : 0 < zs.length) {p : Pl} (hp : p ∈ turnL zs b i) : p ∈ zs := by
  unfold turnL at hp
  obtain ⟨q, _, rfl⟩ := List.mem_map.1 hp
  exact List.mem_of_getElem? (plAt_some (Nat.mod_lt _ h0))
theorem turn_perm {zs : List Pl} (h0 : 0 < zs.length) (b : Nat) : (turnL zs b zs.length).Perm zs := by
  have hr : b % zs.length < zs.length := Nat.mod_lt _ h0
  have e : turnL zs b zs.length = zs.drop (b % zs.length) ++ zs.take (b % zs.length) := by
    refine List.ext_getElem? fun q => ?_
    unfold turnL
    rw [List.getElem?_map]
    rcases Nat.lt_or_ge q zs.length with hq | hq
    · rw [List.getElem?_range hq, Option.map_some]
      have hm : (q + b) % zs.length = (q + b % zs.length) % zs.length := by rw [Nat.add_mod, Nat.add_mod q (b % zs.length), Nat.mod_mod]
      generalize b % zs.length = r at *
      rw [hm]
      rcases Nat.lt_or_ge q (zs.length - r) with h1 | h1
      · rw [List.getElem?_append_left (by rw [List.length_drop]; exact h1), List.getElem?_drop, Nat.mod_eq_of_lt (by omega), ← plAt_some (by omega), Nat.add_comm]
      · have e2 : (q + r) % zs.length = q + r - zs.length := by rw [Nat.mod_eq_sub_mod (by omega), Nat.mod_eq_of_lt (by omega)]
        rw [List.getElem?_append_right (by rw [List.length_drop]; exact h1), List.length_drop, List.getElem?_take_of_lt (by omega), e2, ← plAt_some (by omega)]
        congr 1; omega
    · rw [List.getElem?_eq_none (by simp; omega), List.getElem?_eq_none (by simp; omega)]; rfl
  rw [e]
  exact List.perm_append_comm.trans (by rw [List.take_append_drop])

theorem any_perm {zs zs' : List Pl} (h : zs.Perm zs') (q : Pl → Bool) : zs.any q = zs'.any q := by
  rw [Bool.eq_iff_iff, List.any_eq_true, List.any_eq_true]
  exact ⟨fun ⟨x, h1, h2⟩ => ⟨x, h.mem_iff.1 h1, h2⟩, fun ⟨x, h1, h2⟩ => ⟨x, h.mem_iff.2 h1, h2⟩⟩
theorem testE_perm {zs zs' : List Pl} (h : zs.Perm zs') : testE zs = testE zs' := by
  unfold testE
  rw [h.length_eq, any_perm h, any_perm h, any_perm h]

theorem sameT_of {w w' : World} {zs zs' : List Pl} {n n' : Nat} (hl : zs.length = n) (hl' : zs'.length = n') (hn : n ≤ 6) (hn' : n' ≤ 6) (hg : ∀ p ∈ zs, Good p) (hg' : ∀ p ∈ zs', Good p) (hok : ∀ p ∈ zs, PlOk w p) (hok' : ∀ p ∈ zs', PlOk w' p)
    (h : ∀ F, Hom F → ocW zs' F = ocW zs F) : SameT (ocG zs' n') (ocE zs' n') (manyT zs') (ocG zs n) (ocE zs n) (manyT zs) :=
  ⟨fun k hk => (oc_bd hl' hg' hok' hn' hk).1, fun k hk => (oc_bd hl hg hok hn hk).1, fun F hF => by rw [oc_sum hl hg F, oc_sum hl' hg' F, h F hF]⟩
theorem same_best {zs zs' : List Pl} {n n' : Nat} {most : Int} {t t' : Int × Int} (hs : SameT (ocG zs' n') (ocE zs' n') (manyT zs') (ocG zs n) (ocE zs n) (manyT zs)) (ht : IsBest (ocG zs n) (ocE zs n) (manyT zs) most t) (ht' : IsBest (ocG zs' n') (ocE zs' n') (manyT zs') most t') :
    t' = t ∧ sumL (ocG zs' n') (regL zs' n' t' (manyT zs')) = sumL (ocG zs n) (regL zs n t (manyT zs)) ∧ sumL (ocE zs' n') (regL zs' n' t' (manyT zs')) = sumL (ocE zs n) (regL zs n t (manyT zs)) := by
  obtain rfl := isBest_one (hs.best ht') ht
  rw [sumL_reg, sumL_reg, sumL_reg, sumL_reg]
  exact ⟨rfl, hs.sG t', hs.sE t'⟩

theorem getD_set_app {l : List Int} {j : Nat} (hj : j < l.length) (a : Int) : (l.set j a ++ [a]).getD j 0 = a ∧ (l.set j a ++ [a]).getD l.length 0 = a ∧ ∀ i, i < l.length → i ≠ j → (l.set j a ++ [a]).getD i 0 = l.getD i 0 := by
  refine ⟨?_, ?_, fun i hi hne => ?_⟩
  · rw [List.getD_eq_getElem?_getD, List.getElem?_append_left (by simpa using hj), List.getElem?_set_self hj]; rfl
  · rw [List.getD_eq_getElem?_getD, List.getElem?_append_right (by simp)]; simp
  · rw [List.getD_eq_getElem?_getD, List.getElem?_append_left (by simpa using hi), List.getElem?_set_ne (fun e => hne e.symm), List.getD_eq_getElem?_getD]

/-- a plate one of whose answers is parted, wherever its new lists lie -/
structure Parted (p p' : Pl) (j : Nat) (a b : Int) : Prop where
  gn : p'.gn = p.gn + 1
  gs : p'.gs = p.gs.set j a ++ [a]
  es : p'.es = p.es.set j b ++ [b]
theorem parted_sum {zs : List Pl} {k j : Nat} {p' : Pl} {a b : Int} (hk : k < zs.length) (hp : Parted (plAt zs k) p' j a b) (hj : j < (plAt zs k).gn) (hgl : (plAt zs k).gs.length = (plAt zs k).gn) (hel : (plAt zs k).es.length = (plAt zs k).gn)
    (ha : (plAt zs k).gs.getD j 0 = 2 * a) (hb : (plAt zs k).es.getD j 0 = 2 * b) {F : Int → Int → Int} (hF : Hom F) : ocW (zs.set k p') F = ocW zs F := by
  have hget := plAt_some hk
  have e0 : zs[k] = plAt zs k := by have := List.getElem?_eq_getElem hk; rw [hget] at this; injection this with this; exact this.symm
  have e1 : zs.set k p' = zs.take k ++ p' :: zs.drop (k + 1) := List.set_eq_take_append_cons_drop .. |>.trans (if_pos hk)
  have e2 : zs = zs.take k ++ plAt zs k :: zs.drop (k + 1) := by
    conv => lhs; rw [← List.take_append_drop k zs, List.drop_eq_getElem_cons hk, e0]
  generalize plAt zs k = p at *
  rw [e1, ocW_perm List.perm_middle]
  conv => rhs; rw [e2, ocW_perm List.perm_middle]
  obtain ⟨g1, g2, g3⟩ := getD_set_app (l := p.gs) (j := j) (by omega) a
  obtain ⟨h1, h2, h3⟩ := getD_set_app (l := p.es) (j := j) (by omega) b
  rw [hgl] at g2 g3
  rw [hel] at h2 h3
  rw [← hp.gs] at g1 g2 g3
  rw [← hp.es] at h1 h2 h3
  exact ocW_part hj hp.gn ha hb g1 h1 g2 h2 (fun i hi hne => ⟨g3 i hi hne, h3 i hi hne⟩) hF

end Go.Proofs.Ytcmllkjgggcghaa
end
