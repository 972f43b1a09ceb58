/- EK09 -/
import Derived.Test.YtcmllkjgggcghaaEZ28
import Derived.Test.YtcmllkjgggcghaaEZ43
import Derived.Test.YtcmllkjgggcghaaEZ01
/- The walk of EyeOrdered: but for Works. -/
section
namespace Go.Proofs.Ytcmllkjgggcghaa
open Go.RowKit Go.Shelf
set_option linter.unusedSimpArgs false
set_option linter.unusedVariables false

/-- two rows of the call's own lie in different blocks -/
def Dist (v u : Value) : Prop := ∀ k, v.ownBlock = some k → u.ownBlock ≠ some k
theorem Dist.symm {v u : Value} (h : Dist v u) : Dist u v := fun k h1 h2 => h k h2 h1
theorem Dist.step {v u : Value} {g c n H : Nat} (h : Dist v u) (hw : v.ownBlock = some g ∨ g = H) (hq : ∀ k, u.ownBlock = some k → k < H) : Dist (.slice (some ⟨g, 0, none⟩) n c) u := by
  intro k hk hu
  have hk' : g = k := by simpa [Value.ownBlock] using hk
  subst hk'
  rcases hw with hw | hw
  · exact h g hw hu
  · have := hq g hu; omega
theorem Dist.or {v u : Value} (h : Dist v u) : u.ownBlock = none ∨ u.ownBlock ≠ v.ownBlock := by
  cases hu : u.ownBlock with
  | none => exact .inl rfl
  | some k => exact .inr (fun e => h k e.symm hu)

theorem flatP_set : ∀ (zs : List Pl) (k : Nat) (p : Pl), k < zs.length → (((zs.flatMap encP).set (k * 2) (.slice p.gA p.gn p.gc)).set (k * 2 + 1) (.slice p.eA p.en p.ec)) = (zs.set k p).flatMap encP
  | [], k, p, h => by simp at h
  | q :: zs, 0, p, h => by simp [encP]
  | q :: zs, k + 1, p, h => by
    have ih := flatP_set zs k p (by simpa using h)
    have e1 : (k + 1) * 2 = k * 2 + 1 + 1 := by omega
    rw [List.flatMap_cons, List.set_cons_succ, List.flatMap_cons, ← ih, e1]
    simp [encP]

theorem wp_app {o : Oper} {a : Act} {w : World} {K : Act → World → Prop} {Q : Exit → Act → World → Prop} (s x : Operand) (hop : o.op = Op.call { callee := Callee.builtin Builtin.append, args := #[s, x], argTypes := #[71, 71] })
    {v v2 v' : Value} {w' : World} (hs : a.eval s = v) (hx : a.eval x = v2) (hr : ∀ ty, (Builtin.append_ #[71, 71] ty #[v, v2]).run Try.prog w = .ok v' w') (h : K (a.put o.dst v') w') : Oper.wp Try.prog o a w K Q := by
  unfold Oper.wp execOp
  simp only [hop, resolve, invoke, builtin, Sem.run_bind, Sem.run_pure, Result.andThen_ok, List.map_toArray, List.map_cons, List.map_nil, hs, hx, hr]
  exact h

/-- region 21: two lists are copied -/
def S21 (b o k : Nat) (gA : Option Addr) (m gc : Nat) (eA : Option Addr) (ec : Nat) (W : World) : Prop := W.cell? ⟨b, o + k * 2, none⟩ = some (.slice gA m gc) ∧ W.cell? ⟨b, o + k * 2 + 1, none⟩ = some (.slice eA m ec)
structure J21 (W1 : World) (m : Nat) (gs es : List Int) (d : Nat → Bool) (v164 v170 v171 v177 v26 v27 : Value) (W : World) : Prop where
  hb : Below W1.heap.size W1 W
  e0 : d 0 = true → ∃ b, v164 = .slice (some ⟨b, 0, none⟩) 0 0
  e7 : d 7 = true → ∃ b, v171 = .slice (some ⟨b, 0, none⟩) 0 0
  e6 : d 6 = true → ∃ g c, v170 = .slice (some ⟨g, 0, none⟩) m c ∧ OwnI W W1.heap.size g m c gs
  e13 : d 13 = true → ∃ g c g2 c2, v170 = .slice (some ⟨g, 0, none⟩) m c ∧ v177 = .slice (some ⟨g2, 0, none⟩) m c2 ∧ OwnI W W1.heap.size g2 m c2 es ∧ g ≠ g2
  e14 : d 14 = true → v26 = v170
  e15 : d 15 = true → v27 = v177
  o13 : d 13 = true → d 6 = true
  o14 : d 14 = true → d 13 = true
  o15 : d 15 = true → d 14 = true
theorem J21.k6 {W1 W W' : World} {m : Nat} {gs es : List Int} {d : Nat → Bool} {v164 v170 v171 v177 v26 v27 : Value} (h : J21 W1 m gs es d v164 v170 v171 v177 v26 v27 W) (hb : Below W.heap.size W W') : d 6 = true → ∃ g c, v170 = .slice (some ⟨g, 0, none⟩) m c ∧ OwnI W' W1.heap.size g m c gs :=
  fun hd => by obtain ⟨g, c, e, ho⟩ := h.e6 hd; exact ⟨g, c, e, ho.below hb⟩
theorem J21.k13 {W1 W W' : World} {m : Nat} {gs es : List Int} {d : Nat → Bool} {v164 v170 v171 v177 v26 v27 : Value} (h : J21 W1 m gs es d v164 v170 v171 v177 v26 v27 W) (hb : Below W.heap.size W W') : d 13 = true → ∃ g c g2 c2, v170 = .slice (some ⟨g, 0, none⟩) m c ∧ v177 = .slice (some ⟨g2, 0, none⟩) m c2 ∧ OwnI W' W1.heap.size g2 m c2 es ∧ g ≠ g2 :=
  fun hd => by obtain ⟨g, c, g2, c2, e, e2, ho, hn⟩ := h.e13 hd; exact ⟨g, c, g2, c2, e, e2, ho.below hb, hn⟩
theorem len_six' {α : Type} {l : List α} (h : l.length = 6) : ∃ a b c d e f, l = [a, b, c, d, e, f] := by
  match l, h with
  | [a, b, c, d, e, f], _ => exact ⟨a, b, c, d, e, f, rfl⟩
theorem tf {x y : Bool} {p : Prop} (h : x = true → y = true) (hy : y = false) (hx : x = true) : p := by rw [h hx] at hy; cases hy

/-- region 24: one number more in each -/
def S24 (g1 g2 j : Nat) (x y : Int) (W : World) : Prop := W.cell? ⟨g1, j, none⟩ = some (.int .i64 x) ∧ W.cell? ⟨g2, j, none⟩ = some (.int .i64 y)
structure I24 (W0 W1 : World) (g1 c1 g2 c2 m j gq k : Nat) (gs es : List Int) (x y : Int) (d : Nat → Bool) (v197 v198 v204 v205 v206 v207 : Value) (W : World) : Prop where
  hb : Below W0.heap.size W0 W
  sz : W1.heap.size ≤ W.heap.size
  s : S24 g1 g2 j x y W
  e7 : d 7 = true → ∃ b, v197 = .slice (some ⟨b, 0, none⟩) 1 1 ∧ W1.heap.size ≤ b ∧ (d 8 = false → W.cell? ⟨b, 0, none⟩ = some (.int .i64 x))
  e14 : d 14 = true → ∃ b, v204 = .slice (some ⟨b, 0, none⟩) 1 1 ∧ W1.heap.size ≤ b ∧ (d 15 = false → W.cell? ⟨b, 0, none⟩ = some (.int .i64 y))
  n8 : d 8 = false → OwnI W W0.heap.size g1 m c1 gs
  n15 : d 15 = false → OwnI W W0.heap.size g2 m c2 es
  e8 : d 8 = true → ∃ g c, v198 = .slice (some ⟨g, 0, none⟩) (m + 1) c ∧ OwnI W W0.heap.size g (m + 1) c (gs ++ [x]) ∧ (g = g1 ∨ W1.heap.size ≤ g)
  e15 : d 15 = true → ∃ g c, v205 = .slice (some ⟨g, 0, none⟩) (m + 1) c ∧ OwnI W W0.heap.size g (m + 1) c (es ++ [y])
  e16 : d 16 = true → v206 = .agg #[v198, v205]
  e17 : d 17 = true → v207 = .pointer (some ⟨gq, k * 2, none⟩)
  o15 : d 15 = true → d 8 = true
  o16 : d 16 = true → d 15 = true
  o17 : d 17 = true → d 16 = true
theorem I24.k7 {W0 W1 W W' : World} {g1 c1 g2 c2 m j gq k : Nat} {gs es : List Int} {x y : Int} {d : Nat → Bool} {v197 v198 v204 v205 v206 v207 : Value} (h : I24 W0 W1 g1 c1 g2 c2 m j gq k gs es x y d v197 v198 v204 v205 v206 v207 W) (hc : ∀ b u, W1.heap.size ≤ b → W.cell? ⟨b, 0, none⟩ = some u → W'.cell? ⟨b, 0, none⟩ = some u) : d 7 = true → ∃ b, v197 = .slice (some ⟨b, 0, none⟩) 1 1 ∧ W1.heap.size ≤ b ∧ (d 8 = false → W'.cell? ⟨b, 0, none⟩ = some (.int .i64 x)) :=
  fun hd => by obtain ⟨b, e, h1, h2⟩ := h.e7 hd; exact ⟨b, e, h1, fun h8 => hc _ _ h1 (h2 h8)⟩
theorem I24.k14 {W0 W1 W W' : World} {g1 c1 g2 c2 m j gq k : Nat} {gs es : List Int} {x y : Int} {d : Nat → Bool} {v197 v198 v204 v205 v206 v207 : Value} (h : I24 W0 W1 g1 c1 g2 c2 m j gq k gs es x y d v197 v198 v204 v205 v206 v207 W) (hc : ∀ b u, W1.heap.size ≤ b → W.cell? ⟨b, 0, none⟩ = some u → W'.cell? ⟨b, 0, none⟩ = some u) : d 14 = true → ∃ b, v204 = .slice (some ⟨b, 0, none⟩) 1 1 ∧ W1.heap.size ≤ b ∧ (d 15 = false → W'.cell? ⟨b, 0, none⟩ = some (.int .i64 y)) :=
  fun hd => by obtain ⟨b, e, h1, h2⟩ := h.e14 hd; exact ⟨b, e, h1, fun h8 => hc _ _ h1 (h2 h8)⟩
theorem I24.alloc {W0 W1 W : World} {g1 c1 g2 c2 m j gq k : Nat} {gs es : List Int} {x y : Int} {d : Nat → Bool} {v197 v198 v204 v205 v206 v207 : Value} (h : I24 W0 W1 g1 c1 g2 c2 m j gq k gs es x y d v197 v198 v204 v205 v206 v207 W) (o : Obj) : I24 W0 W1 g1 c1 g2 c2 m j gq k gs es x y d v197 v198 v204 v205 v206 v207 (W.alloc o) := by
  have hb : Below W.heap.size W (W.alloc o) := balloc (Below.refl _ _) o
  have hc : ∀ b u, W1.heap.size ≤ b → W.cell? ⟨b, 0, none⟩ = some u → (W.alloc o).cell? ⟨b, 0, none⟩ = some u := fun b u _ h => (World.cell?_alloc_lt _ _ _ (World.block_lt_of_cell? W _ h)).trans h
  exact ⟨bstep h.hb hb, Nat.le_trans h.sz hb.size, ⟨(World.cell?_alloc_lt _ _ _ (World.block_lt_of_cell? W _ h.s.1)).trans h.s.1, (World.cell?_alloc_lt _ _ _ (World.block_lt_of_cell? W _ h.s.2)).trans h.s.2⟩, h.k7 hc, h.k14 hc,
    fun hd => (h.n8 hd).below hb, fun hd => (h.n15 hd).below hb, fun hd => by obtain ⟨g, c, e, ho, hw⟩ := h.e8 hd; exact ⟨g, c, e, ho.below hb, hw⟩, fun hd => by obtain ⟨g, c, e, ho⟩ := h.e15 hd; exact ⟨g, c, e, ho.below hb⟩, h.e16, h.e17, h.o15, h.o16, h.o17⟩
/-- what is so behind the store -/
structure P24 (w W7 : World) (b2 b3 : Nat) (u1 u2 sG sE : Int) (gq cq n k : Nat) (zs : List Pl) (gn j : Nat) (gs es : List Int) (a b : Int) (W : World) : Prop where
  p : ∃ p' : Pl, (p'.gn = gn + 1 ∧ p'.gs = gs.set j a ++ [a] ∧ p'.es = es.set j b ++ [b]) ∧ Plates W (some ⟨gq, 0, none⟩) n (zs.set k p')
  c2 : Cs W b2 #[.int .i64 u1, .int .i64 u2]
  c3 : Cs W b3 #[.int .i64 sG, .int .i64 sE]
  hb : Below w.heap.size w W
theorem own_set2 {W : World} {B gq n cq k : Nat} {zs : List Pl} (h : OwnP W B (.slice (some ⟨gq, 0, none⟩) n cq) n zs) (hk : k < zs.length) (p : Pl) :
    OwnP ((W.setCell ⟨gq, k * 2, none⟩ (.slice p.gA p.gn p.gc)).setCell ⟨gq, k * 2 + 1, none⟩ (.slice p.eA p.en p.ec)) B (.slice (some ⟨gq, 0, none⟩) n cq) n (zs.set k p) ∧ W.grownBy ((W.setCell ⟨gq, k * 2, none⟩ (.slice p.gA p.gn p.gc)).setCell ⟨gq, k * 2 + 1, none⟩ (.slice p.eA p.en p.ec)) (some gq) := by
  obtain ⟨h1, h2⟩ := World.ownsRow.stored h (k * 2) (.slice p.gA p.gn p.gc)
  obtain ⟨h3, h4⟩ := World.ownsRow.stored h1 (k * 2 + 1) (.slice p.eA p.en p.ec)
  refine ⟨by unfold OwnP; rw [← flatP_set zs k p hk]; exact h3, ⟨h4.os.trans h2.os, h4.tape.trans h2.tape, h4.output.trans h2.output, Nat.le_trans h2.size h4.size, fun i hi hne => (h4.block i (Nat.lt_of_lt_of_le hi h2.size) hne).trans (h2.block i hi hne)⟩⟩
theorem post24 {w W7 W : World} {b2 b3 : Nat} {u1 u2 sG sE : Int} {B gq cq n k : Nat} {zs : List Pl} {gn j : Nat} {gs es : List Int} {a b : Int} (hz : ∀ q ∈ zs, PlOk w q) (hl : zs.length = n) (hk : k < n) (hgn : gn ≤ 4) (h7 : Below w.heap.size w W7) (hb : Below W7.heap.size W7 W)
    (hQ : OwnP W7 B (.slice (some ⟨gq, 0, none⟩) n cq) n zs) (hB : w.heap.size ≤ B) (hb2 : b2 < B) (hb3 : b3 < B) (c2 : Cs W7 b2 #[.int .i64 u1, .int .i64 u2]) (c3 : Cs W7 b3 #[.int .i64 sG, .int .i64 sE]) {g c g' c' : Nat} (h1 : OwnI W W7.heap.size g (gn + 1) c (gs.set j a ++ [a])) (h2 : OwnI W W7.heap.size g' (gn + 1) c' (es.set j b ++ [b])) :
    P24 w W7 b2 b3 u1 u2 sG sE gq cq n k zs gn j gs es a b ((W.setCell ⟨gq, k * 2, none⟩ (.slice (some ⟨g, 0, none⟩) (gn + 1) c)).setCell ⟨gq, k * 2 + 1, none⟩ (.slice (some ⟨g', 0, none⟩) (gn + 1) c')) := by
  have hlt := World.ownsRow.lt hQ gq rfl
  have hQ2 := own_keepI hQ hb
  obtain ⟨q1, q2⟩ := own_set2 hQ2 (k := k) (by omega) ⟨some ⟨g, 0, none⟩, gn + 1, c, gs.set j a ++ [a], some ⟨g', 0, none⟩, gn + 1, c', es.set j b ++ [b]⟩
  dsimp only at q1 q2
  have l1 := h1.lt
  have l2 := h2.lt
  have hwW : Below w.heap.size w W := h7.trans (hb.mono h7.size)
  generalize (W.setCell ⟨gq, k * 2, none⟩ (.slice (some ⟨g, 0, none⟩) (gn + 1) c)).setCell ⟨gq, k * 2 + 1, none⟩ (.slice (some ⟨g', 0, none⟩) (gn + 1) c') = W9 at *
  have hb9 : Below w.heap.size w W9 := hwW.trans ⟨q2.os, q2.tape, q2.output, q2.size, fun i hi => q2.block i (by have := hwW.size; omega) (fun e => by injection e; omega)⟩
  refine ⟨⟨⟨some ⟨g, 0, none⟩, gn + 1, c, gs.set j a ++ [a], some ⟨g', 0, none⟩, gn + 1, c', es.set j b ++ [b]⟩, ⟨rfl, rfl, rfl⟩, ?_⟩, ?_, ?_, hb9⟩
  · have hok : ∀ p ∈ zs.set k ⟨some ⟨g, 0, none⟩, gn + 1, c, gs.set j a ++ [a], some ⟨g', 0, none⟩, gn + 1, c', es.set j b ++ [b]⟩, PlOk W9 p := fun p hp => by
      rcases List.mem_or_eq_of_mem_set hp with hp | rfl
      · exact (hz p hp).below hb9
      · exact ⟨(h1.grown q2 (by omega)).ints, (h2.grown q2 (by omega)).ints, by show gn + 1 ≤ 9223372036854775807; omega, by show gn + 1 ≤ 9223372036854775807; omega⟩
    obtain ⟨A, cc, e, hP⟩ := OwnP.plates q1 (by simpa using hl) hok
    injection e with e1 e2 e3
    rw [e1]; exact hP
  · exact (c2.keep hb).of_heap q2.size (q2.block _ (by have := c2.lt; have := hb.size; omega) (fun e => by injection e; omega))
  · exact (c3.keep hb).of_heap q2.size (q2.block _ (by have := c3.lt; have := hb.size; omega) (fun e => by injection e; omega))

set_option maxRecDepth 100000 in
set_option maxHeartbeats 16000000 in
theorem eyeOrdered_walk (kw : ∀ w : World, Calls Try.prog 14 #[] w fun e w' => e = .returned (.bool true) ∧ Below w.heap.size w w') (A : Option Addr) (n c : Nat) (zs : List Pl) (most : Int) (by_ plate ans : Nat) (w : World) (hz : Plates w A n zs) (hn : n ≤ 9223372036854775807) (hm : 0 ≤ most ∧ most ≤ 4294967295) (hby : by_ ≤ 255) (hpl : plate ≤ 255) (han : ans ≤ 255) :
    Calls Try.prog 11 #[.slice A n c, .int .u32 most, .int .u8 (by_ : Nat), .int .u8 (plate : Nat), .int .u8 (ans : Nat)] w fun e w' => e = .returned (.bool true) ∧ Below w.heap.size w w' := by
  have kg := fun (W : World) (hb : Below w.heap.size w W) => fine_any A n c zs W (hz.below hb) hn
  unfold RetFine at kg
  have Hz := Lib.hid hz
  clear hz
  go_enter Try.func11, Try.ntmps11
  go_wp2_with fail
  refine (kg _ blA).mono ?_
  rintro _ w1 ⟨g, rfl, hgt, hb1⟩
  replace hbw : Below w.heap.size w w1 := blA
  clear hb1
  clear kg
  cases g with
  | false =>
    clear hgt
    go_wp2_with fail
    refine (kw _).mono ?_
    rintro e w2 ⟨rfl, hb2⟩
    replace hbw : Below w.heap.size w w2 := blA
    clear hb2
    go_wp2_with fail
    go_ret
    exact ⟨rfl, blA⟩
  | true =>
    have ht := hgt rfl
    obtain ⟨t1, t2, hg⟩ := testE_ok ht
    have hl := Hz.out.1
    have n6 : n ≤ 6 := by omega
    have n1 : 1 ≤ n := by omega
    have km := fun (W : World) (hb : Below w.heap.size w W) => many_same A n c zs W (Hz.out.below hb) n6 hg (manyT zs) rfl
    clear hgt
    by_cases h300 : (300 : Int) < (manyT zs : Int)
    · go_wp2_with fail
      refine (km _ hbw).mono ?_
      rintro _ wm ⟨rfl, rfl⟩
      go_wp2_with fail
      refine (kw _).mono ?_
      rintro e w2 ⟨rfl, hb2⟩
      replace hbw : Below w.heap.size w w2 := blA
      clear hb2
      go_wp2_with fail
      go_ret
      exact ⟨rfl, blA⟩
    have hw : IntKind.i64.wrap most = most := IntWalk.i64_in _ (by omega)
    have kB := fun (W : World) (hb : Below w.heap.size w W) => best_cok A n c zs most W (Hz.out.below hb) n6 ht hm.1 (by omega)
    unfold RetLREc at kB
    go_wp2_with fail
    refine (km _ hbw).mono ?_
    rintro _ wm ⟨rfl, rfl⟩
    clear km
    go_wp2_with fail
    refine (kB _ hbw).mono ?_
    rintro _ w2 ⟨⟨u1, u2⟩, hB, A2, n2, c2, rfl, h2, hb2, hc2⟩
    replace hbw : Below w.heap.size w w2 := blA
    clear hb2
    have s2 : w.heap.size ≤ w2.heap.size := hbw.size
    clear kB h300
    have k1 := fun (W : World) (hb : Below w.heap.size w W) (hi : Ints W A2 n2 (regL zs n (u1, u2) (manyT zs))) => esum_ok A A2 n c n2 c2 zs _ W (Hz.out.below hb) n6 hi hc2 ht (regL_set zs n (u1, u2) (manyT zs))
    unfold RetOE at k1
    dsimp only at k1
    obtain ⟨sG, hsG⟩ : ∃ s, sumL (ocG zs n) (regL zs n (u1, u2) (manyT zs)) = s := ⟨_, rfl⟩
    obtain ⟨sE, hsE⟩ : ∃ s, sumL (ocE zs n) (regL zs n (u1, u2) (manyT zs)) = s := ⟨_, rfl⟩
    rw [hsG, hsE] at k1
    -- what every test with the same sums gives
    have hsame : ∀ (zs' : List Pl) (W W' : World) (hb : Below w.heap.size w W) (hb' : Below W.heap.size W W') (A' : Option Addr) (c' : Nat) (hz' : Plates W A' n zs') (ht' : testE zs' = 0) (hF : ∀ F, Hom F → ocW zs' F = ocW zs F) (t : Int × Int) (hB' : IsBest (ocG zs' n) (ocE zs' n) (manyT zs') most t) (A5 : Option Addr) (n5 c5 : Nat) (hi : Ints W' A5 n5 (regL zs' n t (manyT zs'))) (hc : n5 ≤ c5),
        t = (u1, u2) ∧ ∀ W9, Below W'.heap.size W' W9 → Calls Try.prog 38 #[.slice A' n c', .slice A5 n5 c5] W9 fun e w' => e = .returned (.tuple #[.agg #[.int .i64 sG, .int .i64 sE], .int .i64 0]) ∧ Below W9.heap.size W9 w' := by
      intro zs' W W' hb hb' A' c' hz' ht' hF t hB' A5 n5 c5 hi hc
      obtain ⟨-, -, hg'⟩ := testE_ok ht'
      have hs := sameT_of hl hz'.1 n6 n6 hg hg' Hz.out.2.2 hz'.2.2 hF
      obtain ⟨e1, e2, e3⟩ := same_best hs hB hB'
      refine ⟨e1, fun W9 hb9 => ?_⟩
      have := esum_ok A' A5 n c' n5 c5 zs' _ W9 ((hz'.below hb').below hb9) n6 (hi.below hb9) hc ht' (regL_set zs' n t (manyT zs'))
      rw [e2, e3, hsG, hsE] at this
      exact this
    have Hsame := Lib.hid hsame
    have Ht := Lib.hid ht
    have Hg := Lib.hid hg
    have Hl := Lib.hid hl
    clear hsame hsG hsE hB t1 t2 hg ht hl
    go_wp2_with fail
    refine (k1 _ blA (Ints.alloc h2 _)).mono ?_
    rintro _ w3 ⟨rfl, hb3⟩
    try clear h2
    replace B12 : Cs w3 (w2.heap.size) #[.int .i64 u1, .int .i64 u2] := Cs.keep csA hb3
    replace hbw : Below w.heap.size w w3 := blA
    replace cB12 := B12.c
    replace fB12 := B12.f
    replace lB12 := B12.lt
    clear hb3
    clear k1 hc2
    have s23 : w2.heap.size < w3.heap.size := B12.lt
    go_wp2_with fail
    have nI : (0 : Int) < (n : Int) := by omega
    have nB : ((n : Int) == 0) = false := by simp; omega
    have nN : ¬ (n : Int) = 0 := by omega
    have fb : IntKind.i64.wrap (by_ : Int) = (by_ : Int) := IntWalk.i64_in _ (by omega)
    go_loopw [16, 17, 18] (fun s16 s17 s18 wx => ∃ (i : Nat) (W : World), i ≤ n ∧ s18 = .int .i64 (i : Nat) ∧ Hid (W = wx) ∧ Hid (OwnP W (w3.heap.size + 1) s16 i (turnL zs by_ i)) ∧ Hid (OwnP W (w3.heap.size + 1) s17 i (zs.take i)) ∧ Hid (Dist s16 s17) ∧ w3.heap.size + 1 ≤ W.heap.size ∧ Cs W w2.heap.size #[.int .i64 u1, .int .i64 u2] ∧ Cs W w3.heap.size #[.int .i64 sG, .int .i64 sE] ∧ Below w.heap.size w W) (fun _ _ s18 _ => n - (intOf s18).toNat)
    case atStart => exact ⟨0, _, Nat.zero_le _, rfl, Lib.hid rfl, Lib.hid (World.ownsRow_nil _ _ _ _), Lib.hid (World.ownsRow_nil _ _ _ _), Lib.hid (fun k h => by simp [Value.ownBlock] at h), by simp, csA, csA, blA⟩
    case round =>
      clear B12 cB12 fB12 lB12 hbw
      obtain ⟨i, W, hi, rfl, HW, HT, HQ, HD, hsW, B12, B14, hbw⟩ := hrel
      obtain rfl := HW.out
      clear HW
      by_cases hin : i < n
      · have hiI : (i : Int) < (n : Int) := by omega
        have hi0 : (0 : Int) ≤ (i : Int) := by omega
        have hmod : (i + by_) % n < n := Nat.mod_lt _ (by omega)
        obtain ⟨b, off, p, rfl, hget, c0, c1⟩ := Hz.out.at_ hbw hmod
        obtain ⟨b', off', q, e', hget2, d0, d1⟩ := Hz.out.at_ hbw hin
        injection e' with e'
        injection e' with e1 e2
        subst e1 e2
        have f1 : IntKind.i64.wrap ((i : Int) + (by_ : Int)) = (i : Int) + (by_ : Int) := IntWalk.i64_in _ (by omega)
        have f2 : ((i : Int) + (by_ : Int)).tmod (n : Int) = (((i + by_) % n : Nat) : Int) := by rw [Int.tmod_eq_emod_of_nonneg (by omega)]; rfl
        have f3 : IntKind.i64.wrap (((i + by_) % n : Nat) : Int) = (((i + by_) % n : Nat) : Int) := IntWalk.i64_in _ (by omega)
        have f4 : (0 : Int) ≤ (((i + by_) % n : Nat) : Int) := by omega
        have f5 : (((i + by_) % n : Nat) : Int) < (n : Int) := by omega
        have HTn : Hid (turnL zs by_ (i + 1) = turnL zs by_ i ++ [p]) := Lib.hid (by rw [turnL_succ, Hl.out, plAt_eq hget])
        have HQn : Hid (zs.take (i + 1) = zs.take i ++ [q]) := Lib.hid (by rw [List.take_add_one, hget2]; rfl)
        clear hget hget2
        generalize (i + by_) % n = r at *
        go_upto_region 12 with (at_builtin; refine list_ownP rfl _ _ rfl (w3.heap.size + 1) i _ (turnL zs by_ i) (by rfl) (HT.out.alloc _) W.heap.size p (by rfl) (by simp) (by simp) (by omega) (by simp; omega) ?_; intro g5 c5 w5 hT5 hg5 hw5)
        have hb5 : Below (w3.heap.size + 1) W w5 := (balloc' (w3.heap.size + 1) W _ hsW).trans (below_grown hg5 (HT.out.alloc _) (Nat.le_refl _) (by simp; omega))
        have hQ5 : OwnP w5 (w3.heap.size + 1) u17 i (zs.take i) := World.ownsRow.kept (HQ.out.alloc _) hg5 HD.out.or
        have hD5 : Dist (.slice (some ⟨g5, 0, none⟩) (i + 1) c5) u17 := HD.out.step hw5 (fun k hk => (World.ownsRow.lt (HQ.out.alloc _) k hk).2)
        have E12 : Cs w5 w2.heap.size #[.int .i64 u1, .int .i64 u2] := B12.of_heap hb5.size (hb5.block _ (by omega))
        have E14 : Cs w5 w3.heap.size #[.int .i64 sG, .int .i64 sE] := B14.of_heap hb5.size (hb5.block _ (by omega))
        have hbw5 : Below w.heap.size w w5 := hbw.trans (hb5.mono (by omega))
        have hs5 := hb5.size
        have dd := Hz.out.at_ hbw5 hin
        obtain ⟨b', off', q', e', hget3, d0', d1'⟩ := dd
        injection e' with e'
        injection e' with e1 e2
        subst e1 e2
        have HQn' : Hid (zs.take (i + 1) = zs.take i ++ [q']) := Lib.hid (by rw [List.take_add_one, hget3]; rfl)
        have HT5 := Lib.hid (HTn.out ▸ hT5)
        have HQ5 := Lib.hid hQ5
        have HD5 := Lib.hid hD5
        clear hT5 hQ5 hD5 hg5 hw5 HT HQ HD B12 B14 hbw hb5 c0 c1 d0 d1 f1 f2 f3 f4 f5 HTn HQn hget3
        go_wp2_with (at_builtin; refine list_ownP rfl _ _ rfl (w3.heap.size + 1) i _ (zs.take i) (by rfl) (HQ5.out.alloc _) w5.heap.size q' (by rfl) (by simp) (by simp) (by omega) (by simp; omega) ?_; intro g6 c6 w6 hQ6 hg6 hw6)
        have hb6 : Below (w3.heap.size + 1) w5 w6 := (balloc' (w3.heap.size + 1) w5 _ (by omega)).trans (below_grown hg6 (HQ5.out.alloc _) (Nat.le_refl _) (by simp; omega))
        have hT6 : OwnP w6 (w3.heap.size + 1) _ (i + 1) (turnL zs by_ (i + 1)) := World.ownsRow.kept (HT5.out.alloc _) hg6 HD5.out.symm.or
        have hD6 := (HD5.out.symm.step (c := c6) (n := i + 1) hw6 (fun k hk => (World.ownsRow.lt (HT5.out.alloc _) k hk).2)).symm
        go_roundw
        case rel => exact ⟨i + 1, _, by omega, by go_num, Lib.hid rfl, Lib.hid hT6, Lib.hid (HQn'.out ▸ hQ6), Lib.hid hD6, by have := hb6.size; omega, E12.of_heap hb6.size (hb6.block _ (by omega)), E14.of_heap hb6.size (hb6.block _ (by omega)), hbw5.trans (hb6.mono (by omega))⟩
        case measure => simp [intOf]; omega
      · obtain rfl : n = i := by omega
        have l0 : 0 < zs.length := by rw [Hl.out]; omega
        have hTp := turn_perm l0 by_
        have hQ := HQ.out
        have hT := HT.out
        rw [Hl.out] at hTp
        rw [List.take_of_length_le (by rw [Hl.out]; exact Nat.le_refl _)] at hQ
        obtain ⟨AT, cT, rfl, hPT⟩ := OwnP.plates hT (turnL_len zs by_ n) (fun p hp => (Hz.out.2.2 p (turnL_mem l0 hp)).below hbw)
        obtain ⟨gq, cq, rfl, -⟩ := World.ownsRow.form hQ n1
        have htT : testE (turnL zs by_ n) = 0 := (testE_perm hTp).trans Ht.out
        have hFT : ∀ F, Hom F → ocW (turnL zs by_ n) F = ocW zs F := fun F _ => ocW_perm hTp F
        clear HT HQ HD hT hTp hin
        generalize turnL zs by_ n = tz at *
        have kB2 := fun (W' : World) (hb' : Below W.heap.size W W') => best_cok AT n cT tz most W' (hPT.below hb') n6 htT hm.1 (by omega)
        unfold RetLREc at kB2
        have HFT := Lib.hid hFT
        have HtT := Lib.hid htT
        clear hFT htT
        have cB12 := B12.c
        have fB12 := B12.f
        have lB12 := B12.lt
        have cB14 := B14.c
        have fB14 := B14.f
        have lB14 := B14.lt
        go_wp2_with fail
        refine (kB2 _ blA).mono ?_
        rintro _ w5 ⟨⟨x1, x2⟩, hBT, A5, n5, c5, rfl, h5, hb5, hc5⟩
        obtain ⟨e1, kS⟩ := Hsame.out tz W w5 hbw hb5 AT cT hPT HtT.out HFT.out (x1, x2) hBT A5 n5 c5 h5 hc5
        have e1 := e1.symm
        injection e1 with e1 e2
        subst e1 e2
        clear kB2 hBT hPT HFT HtT
        replace B12 : Cs w5 (w2.heap.size) #[.int .i64 u1, .int .i64 u2] := Cs.keep csA hb5
        replace B14 : Cs w5 (w3.heap.size) #[.int .i64 sG, .int .i64 sE] := Cs.keep csA hb5
        replace hQ : OwnP w5 (w3.heap.size + 1) (.slice (some ⟨gq, 0, none⟩) n cq) n zs := own_keepI hQ blA
        replace hbw : Below w.heap.size w w5 := blA
        replace cB12 := B12.c
        replace fB12 := B12.f
        replace lB12 := B12.lt
        replace cB14 := B14.c
        replace fB14 := B14.f
        replace lB14 := B14.lt
        clear hb5
        go_wp2_with fail
        refine (kS _ blA).mono ?_
        rintro _ w6 ⟨rfl, hb6⟩
        clear kS h5 hc5
        replace B12 : Cs w6 (w2.heap.size) #[.int .i64 u1, .int .i64 u2] := Cs.keep csA hb6
        replace B14 : Cs w6 (w3.heap.size) #[.int .i64 sG, .int .i64 sE] := Cs.keep csA hb6
        replace B20 : Cs w6 (w5.heap.size) #[.int .i64 u1, .int .i64 u2] := Cs.keep csA hb6
        replace hQ : OwnP w6 (w3.heap.size + 1) (.slice (some ⟨gq, 0, none⟩) n cq) n zs := own_keepI hQ blA
        replace hbw : Below w.heap.size w w6 := blA
        replace cB12 := B12.c
        replace fB12 := B12.f
        replace lB12 := B12.lt
        replace cB14 := B14.c
        replace fB14 := B14.f
        replace lB14 := B14.lt
        replace cB20 := B20.c
        replace fB20 := B20.f
        replace lB20 := B20.lt
        clear hb6
        go_upto_region 17 with fail
        replace B12 : Cs (w6.alloc (.cells #[.int .i64 sG, .int .i64 sE] 59)) w2.heap.size #[.int .i64 u1, .int .i64 u2] := csA
        replace B14 : Cs (w6.alloc (.cells #[.int .i64 sG, .int .i64 sE] 59)) w3.heap.size #[.int .i64 sG, .int .i64 sE] := csA
        replace hQ := own_keepI hQ (show Below w6.heap.size w6 (w6.alloc (.cells #[.int .i64 sG, .int .i64 sE] 59)) from blA)
        replace hbw : Below w.heap.size w (w6.alloc (.cells #[.int .i64 sG, .int .i64 sE] 59)) := blA
        clear B20 cB12 fB12 lB12 cB14 fB14 lB14 cB20 fB20 lB20
        generalize w6.alloc (.cells #[.int .i64 sG, .int .i64 sE] 59) = W7 at *
        have hk : plate % n < n := Nat.mod_lt _ (by omega)
        have p1 : IntKind.i64.wrap (plate : Int) = (plate : Int) := IntWalk.i64_in _ (by omega)
        have p2 : (plate : Int).tmod (n : Int) = ((plate % n : Nat) : Int) := by rw [Int.tmod_eq_emod_of_nonneg (by omega)]; rfl
        have p3 : IntKind.i64.wrap ((plate % n : Nat) : Int) = ((plate % n : Nat) : Int) := IntWalk.i64_in _ (by omega)
        generalize plate % n = k at *
        have p4 : (0 : Int) ≤ (k : Int) := by omega
        have p5 : (k : Int) < (n : Int) := by omega
        obtain ⟨b, off, p, rfl, hget, c0, c1⟩ := Hz.out.at_ hbw hk
        have hpa := plAt_eq hget
        have hmem := List.mem_of_getElem? hget
        have g := Hg.out p hmem
        have hok := Hz.out.2.2 p hmem
        obtain ⟨gA, gn, gc, gs, eA, en, ec, es⟩ := p
        obtain ⟨g2, g4, hen, gs0, es0, -, s20, sE20⟩ := g
        dsimp only at hen g2 g4 gs0 es0 c0 c1 s20 sE20
        subst hen
        obtain ⟨i1, i2, -, -⟩ := hok
        dsimp only at i1 i2
        have hgl := i1.1
        have hel := i2.1
        have hj : ans % en < en := Nat.mod_lt _ (by omega)
        have r1 : IntKind.i64.wrap (ans : Int) = (ans : Int) := IntWalk.i64_in _ (by omega)
        have r2 : (ans : Int).tmod (en : Int) = ((ans % en : Nat) : Int) := by rw [Int.tmod_eq_emod_of_nonneg (by omega)]; rfl
        have r3 : IntKind.i64.wrap ((ans % en : Nat) : Int) = ((ans % en : Nat) : Int) := IntWalk.i64_in _ (by omega)
        have r6 : ((en : Int) == 0) = false := by simp; omega
        generalize ans % en = j at *
        have r4 : (0 : Int) ≤ (j : Int) := by omega
        have r5 : (j : Int) < (en : Int) := by omega
        obtain ⟨bg, og, rfl, hgb, hgc⟩ := i1.2 (by omega)
        obtain ⟨be, oe, rfl, heb, hec⟩ := i2.2 (by omega)
        have cg := (hbw.cell (p := ⟨bg, og + j, none⟩) hgb).trans (hgc j hj)
        have ce := (hbw.cell (p := ⟨be, oe + j, none⟩) heb).trans (hec j hj)
        have hx0 : 0 ≤ gs.getD j 0 := gs0 _ (by rw [List.getD_eq_getElem?_getD, List.getElem?_eq_getElem (by omega)]; exact List.getElem_mem _)
        have hy0 : 0 ≤ es.getD j 0 := es0 _ (by rw [List.getD_eq_getElem?_getD, List.getElem?_eq_getElem (by omega)]; exact List.getElem_mem _)
        have hxB : gs.getD j 0 ≤ 20 := by
          have q1 := sum_take gs j (by omega)
          have q2 := sum_take_le gs (j + 1) gs0
          have q3 := sum_take_le gs j gs0
          omega
        have hyB : es.getD j 0 ≤ 20 := by
          have q1 := sum_take es j (by omega)
          have q2 := sum_take_le es (j + 1) es0
          have q3 := sum_take_le es j es0
          omega
        clear gs0 es0 hgc hec hmem s20 sE20
        obtain ⟨x, hx⟩ : ∃ x, gs.getD j 0 = x := ⟨_, rfl⟩
        obtain ⟨y, hy⟩ : ∃ x, es.getD j 0 = x := ⟨_, rfl⟩
        rw [hx] at cg hx0 hxB
        rw [hy] at ce hy0 hyB
        have t1 : x.tmod 2 = x % 2 := Int.tmod_eq_emod_of_nonneg hx0
        have t2 : y.tmod 2 = y % 2 := Int.tmod_eq_emod_of_nonneg hy0
        have t3 : IntKind.i64.wrap (x % 2) = x % 2 := IntWalk.i64_in _ (by omega)
        have t4 : IntKind.i64.wrap (y % 2) = y % 2 := IntWalk.i64_in _ (by omega)
        have Hxy := Lib.hid (And.intro hx hy)
        clear hx hy
        have Hpa := Lib.hid hpa
        have Hget := Lib.hid hget
        have Hgl := Lib.hid hgl
        have Hel := Lib.hid hel
        clear hpa hget hgl hel
        by_cases q4 : en = 4
        · have q4B : ((en : Int) == 4) = true := by simp; omega
          have q4I : (en : Int) = 4 := by omega
          go_wp2_with fail
          refine (kw _).mono ?_
          rintro e w9 ⟨rfl, hb9⟩
          replace hbw : Below w.heap.size w w9 := blA
          clear hb9
          go_wp2_with fail
          go_ret
          exact ⟨rfl, blA⟩
        have q4B : ((en : Int) == 4) = false := by simp; omega
        have q4I : ¬ (en : Int) = 4 := by omega
        by_cases qx : x % 2 = 0
        rotate_left
        · have qxB : (x % 2 != 0) = true := by simp [qx]
          have qxE : (x % 2 == 0) = false := by simp [qx]
          go_wp2_with fail
          refine (kw _).mono ?_
          rintro e w9 ⟨rfl, hb9⟩
          replace hbw : Below w.heap.size w w9 := blA
          clear hb9
          go_wp2_with fail
          go_ret
          exact ⟨rfl, blA⟩
        by_cases qy : y % 2 = 0
        rotate_left
        · have qyB : (y % 2 != 0) = true := by simp [qy]
          have qyE : (y % 2 == 0) = false := by simp [qy]
          go_wp2_with fail
          refine (kw _).mono ?_
          rintro e w9 ⟨rfl, hb9⟩
          replace hbw : Below w.heap.size w w9 := blA
          clear hb9
          go_wp2_with fail
          go_ret
          exact ⟨rfl, blA⟩
        obtain ⟨xa, hxa⟩ : ∃ a, x = 2 * a := ⟨x / 2, by omega⟩
        obtain ⟨ya, hya⟩ : ∃ a, y = 2 * a := ⟨y / 2, by omega⟩
        have s4 : x.tdiv 2 = xa := by rw [Int.tdiv_eq_ediv_of_nonneg hx0]; omega
        have s5 : y.tdiv 2 = ya := by rw [Int.tdiv_eq_ediv_of_nonneg hy0]; omega
        have s6 : IntKind.i64.wrap xa = xa := IntWalk.i64_in _ (by omega)
        have s7 : IntKind.i64.wrap ya = ya := IntWalk.i64_in _ (by omega)
        go_upto_region 21 with fail
        go_cut [26, 27] (fun s26 s27 wx => ∃ g1 c1 g2 c2 : Nat, s26 = .slice (some ⟨g1, 0, none⟩) en c1 ∧ s27 = .slice (some ⟨g2, 0, none⟩) en c2 ∧ OwnI wx W7.heap.size g1 en c1 gs ∧ OwnI wx W7.heap.size g2 en c2 es ∧ g1 ≠ g2 ∧ Below W7.heap.size W7 wx)
        case first =>
         as_aux_lemma =>
          clear kw Hsame hQ B12 B14 s4 s5 s6 s7 t1 t2 t3 t4 cg ce r1 r2 r3 r4 r5 r6 p1 p2 p3 fb q4B q4I Hxy Hpa Hget Hg Ht
          have hS0 : S21 b off k (some ⟨bg, og, none⟩) en gc (some ⟨be, oe, none⟩) ec W7 := ⟨c0, c1⟩
          refine wp_region_free (S := S21 b off k (some ⟨bg, og, none⟩) en gc (some ⟨be, oe, none⟩) ec) [(1, 2), (2, 6), (3, 14), (4, 30), (5, 62), (8, 318), (9, 830), (10, 1854), (11, 3902), (12, 7998)] 7998 [(0, []), (6, [0]), (7, []), (13, [6, 7]), (14, [0, 6, 13]), (15, [0, 6, 7, 13, 14])] (by kernel_rfl) (by kernel_rfl) (fun c a d v w h => by cases d <;> exact h) hS0 (fun hHeld => ?_)
          clear hHeld hS0
          refine free_take (v := ?_) rfl (by rfl) ?_ ?_
          rotate_left
          · intro w9 hSw; (unfold S21 at hSw); (go_simp <;> with_reducible rfl)
          try simp only [Act.put, List.setIfInBounds_toArray, List.set_cons_zero, List.set_cons_succ]
          refine free_take (v := ?_) rfl (by rfl) ?_ ?_
          rotate_left
          · intro w9 hSw; (unfold S21 at hSw); (go_simp <;> with_reducible rfl)
          try simp only [Act.put, List.setIfInBounds_toArray, List.set_cons_zero, List.set_cons_succ]
          refine free_take (v := ?_) rfl (by rfl) ?_ ?_
          rotate_left
          · intro w9 hSw; (unfold S21 at hSw); (go_simp <;> with_reducible rfl)
          try simp only [Act.put, List.setIfInBounds_toArray, List.set_cons_zero, List.set_cons_succ]
          refine free_take (v := ?_) rfl (by rfl) ?_ ?_
          rotate_left
          · intro w9 hSw; (unfold S21 at hSw); (go_simp <;> with_reducible rfl)
          try simp only [Act.put, List.setIfInBounds_toArray, List.set_cons_zero, List.set_cons_succ]
          refine free_take (v := ?_) rfl (by rfl) ?_ ?_
          rotate_left
          · intro w9 hSw; (unfold S21 at hSw); (go_simp <;> with_reducible rfl)
          try simp only [Act.put, List.setIfInBounds_toArray, List.set_cons_zero, List.set_cons_succ]
          refine free_take (v := ?_) rfl (by rfl) ?_ ?_
          rotate_left
          · intro w9 hSw; (unfold S21 at hSw); (go_simp <;> with_reducible rfl)
          try simp only [Act.put, List.setIfInBounds_toArray, List.set_cons_zero, List.set_cons_succ]
          refine free_take (v := ?_) rfl (by rfl) ?_ ?_
          rotate_left
          · intro w9 hSw; (unfold S21 at hSw); (go_simp <;> with_reducible rfl)
          try simp only [Act.put, List.setIfInBounds_toArray, List.set_cons_zero, List.set_cons_succ]
          refine free_take (v := ?_) rfl (by rfl) ?_ ?_
          rotate_left
          · intro w9 hSw; (unfold S21 at hSw); (go_simp <;> with_reducible rfl)
          try simp only [Act.put, List.setIfInBounds_toArray, List.set_cons_zero, List.set_cons_succ]
          refine free_take (v := ?_) rfl (by rfl) ?_ ?_
          rotate_left
          · intro w9 hSw; (unfold S21 at hSw); (go_simp <;> with_reducible rfl)
          try simp only [Act.put, List.setIfInBounds_toArray, List.set_cons_zero, List.set_cons_succ]
          refine free_take (v := ?_) rfl (by rfl) ?_ ?_
          rotate_left
          · intro w9 hSw; (unfold S21 at hSw); (go_simp <;> with_reducible rfl)
          try simp only [Act.put, List.setIfInBounds_toArray, List.set_cons_zero, List.set_cons_succ]
          refine free_part [164, 170, 171, 177, 26, 27] (fun d vs W => ∃ v164 v170 v171 v177 v26 v27, vs = [v164, v170, v171, v177, v26, v27] ∧ J21 W7 en gs es d v164 v170 v171 v177 v26 v27 W) (fun d vs W ⟨_, _, _, _, _, _, _, h⟩ => ⟨(h.hb.cell (p := ⟨b, _, none⟩) (World.block_lt_of_cell? W7 _ c0)).trans c0, (h.hb.cell (p := ⟨b, _, none⟩) (World.block_lt_of_cell? W7 _ c1)).trans c1⟩) ?_ ?_ ?_
          · intro d vs hl hd
            obtain ⟨v164, v170, v171, v177, v26, v27, rfl⟩ := len_six' hl
            simp only [fsts, noB] at hd
            obtain ⟨n0, n6, n7, n13, n14, n15, -⟩ := hd
            exact ⟨_, _, _, _, _, _, rfl, Below.drew (Below.refl _ _), fun h => by simp [n0] at h, fun h => by simp [n7] at h, fun h => by simp [n6] at h, fun h => by simp [n13] at h, fun h => by simp [n14] at h, fun h => by simp [n15] at h, fun h => by simp [n13] at h, fun h => by simp [n14] at h, fun h => by simp [n15] at h⟩
          refine free_step rfl ?_ ?_
          · rintro d _ W2 ⟨v164, v170, v171, v177, v26, v27, rfl, hJ⟩ hd hD K9 hS9
            simp only [puts, Act.put, List.setIfInBounds_toArray, List.set_cons_zero, List.set_cons_succ]
            go_simp
            refine hS9.out _ _ ⟨[.slice (some ⟨W2.heap.size, 0, none⟩) 0 0, v170, v171, v177, v26, v27], by simp only [puts, Act.put, List.setIfInBounds_toArray, List.set_cons_zero, List.set_cons_succ], _, _, _, _, _, _, rfl, ?_⟩
            have hb2 : Below W2.heap.size W2 (W2.alloc (.cells #[] 2)) := balloc (Below.refl _ _) _
            exact ⟨bstep hJ.hb hb2, fun _ => ⟨_, rfl⟩, hJ.e7, hJ.k6 hb2, hJ.k13 hb2, hJ.e14, hJ.e15, hJ.o13, hJ.o14, hJ.o15⟩
          refine free_step rfl ?_ ?_
          · rintro d _ W2 ⟨v164, v170, v171, v177, v26, v27, rfl, hJ⟩ hd hD K9 hS9
            simp only [puts, Act.put, List.setIfInBounds_toArray, List.set_cons_zero, List.set_cons_succ]
            obtain ⟨h0, -⟩ := hD
            obtain ⟨b0, rfl⟩ := hJ.e0 h0
            obtain ⟨c9, W9, hr, ho, hb9, hlt9⟩ := app_empty (b := b0) (cc := gc) hJ.hb.size ((i1.below hbw).below hJ.hb) (by omega) (by omega)
            rw [if_pos (by rfl)]
            refine wp_app _ _ rfl rfl rfl hr ?_
            simp only [Act.put, List.setIfInBounds_toArray, List.set_cons_zero, List.set_cons_succ]
            refine hS9.out _ _ ⟨[.slice (some ⟨b0, 0, none⟩) 0 0, .slice (some ⟨W2.heap.size, 0, none⟩) en c9, v171, v177, v26, v27], by simp only [puts, Act.put, List.setIfInBounds_toArray, List.set_cons_zero, List.set_cons_succ], _, _, _, _, _, _, rfl, ?_⟩
            exact ⟨bstep hJ.hb hb9, fun _ => ⟨_, rfl⟩, hJ.e7, fun _ => ⟨_, c9, rfl, ho⟩, fun h => tf hJ.o13 hd h, fun h => tf (fun h => hJ.o13 (hJ.o14 h)) hd h, hJ.e15, fun _ => rfl, hJ.o14, hJ.o15⟩
          refine free_step rfl ?_ ?_
          · rintro d _ W2 ⟨v164, v170, v171, v177, v26, v27, rfl, hJ⟩ hd hD K9 hS9
            simp only [puts, Act.put, List.setIfInBounds_toArray, List.set_cons_zero, List.set_cons_succ]
            go_simp
            refine hS9.out _ _ ⟨[v164, v170, .slice (some ⟨W2.heap.size, 0, none⟩) 0 0, v177, v26, v27], by simp only [puts, Act.put, List.setIfInBounds_toArray, List.set_cons_zero, List.set_cons_succ], _, _, _, _, _, _, rfl, ?_⟩
            have hb2 : Below W2.heap.size W2 (W2.alloc (.cells #[] 2)) := balloc (Below.refl _ _) _
            exact ⟨bstep hJ.hb hb2, hJ.e0, fun _ => ⟨_, rfl⟩, hJ.k6 hb2, hJ.k13 hb2, hJ.e14, hJ.e15, hJ.o13, hJ.o14, hJ.o15⟩
          refine free_step rfl ?_ ?_
          · rintro d _ W2 ⟨v164, v170, v171, v177, v26, v27, rfl, hJ⟩ hd hD K9 hS9
            simp only [puts, Act.put, List.setIfInBounds_toArray, List.set_cons_zero, List.set_cons_succ]
            obtain ⟨h6, h7, -⟩ := hD
            obtain ⟨b7, rfl⟩ := hJ.e7 h7
            obtain ⟨g, c, rfl, ho6⟩ := hJ.e6 h6
            obtain ⟨c9, W9, hr, ho, hb9, hlt9⟩ := app_empty (b := b7) (cc := ec) hJ.hb.size ((i2.below hbw).below hJ.hb) (by omega) (by omega)
            rw [if_pos (by rfl)]
            refine wp_app _ _ rfl rfl rfl hr ?_
            simp only [Act.put, List.setIfInBounds_toArray, List.set_cons_zero, List.set_cons_succ]
            refine hS9.out _ _ ⟨[v164, .slice (some ⟨g, 0, none⟩) en c, .slice (some ⟨b7, 0, none⟩) 0 0, .slice (some ⟨W2.heap.size, 0, none⟩) en c9, v26, v27], by simp only [puts, Act.put, List.setIfInBounds_toArray, List.set_cons_zero, List.set_cons_succ], _, _, _, _, _, _, rfl, ?_⟩
            exact ⟨bstep hJ.hb hb9, hJ.e0, fun _ => ⟨_, rfl⟩, fun _ => ⟨g, c, rfl, ho6.below hb9⟩, fun _ => ⟨g, c, _, c9, rfl, rfl, ho, by have := ho6.lt; omega⟩, hJ.e14, fun h => tf (fun h => hJ.o14 (hJ.o15 h)) hd h, fun _ => h6, fun _ => rfl, hJ.o15⟩
          refine free_step rfl ?_ ?_
          · rintro d _ W2 ⟨v164, v170, v171, v177, v26, v27, rfl, hJ⟩ hd hD K9 hS9
            simp only [puts, Act.put, List.setIfInBounds_toArray, List.set_cons_zero, List.set_cons_succ]
            obtain ⟨h0, h6, h13, -⟩ := hD
            go_simp
            refine hS9.out _ _ ⟨[v164, v170, v171, v177, v170, v27], by simp only [puts, Act.put, List.setIfInBounds_toArray, List.set_cons_zero, List.set_cons_succ], _, _, _, _, _, _, rfl, ?_⟩
            exact ⟨hJ.hb, hJ.e0, hJ.e7, hJ.e6, hJ.e13, fun _ => rfl, hJ.e15, hJ.o13, fun _ => h13, fun _ => rfl⟩
          refine free_step rfl ?_ ?_
          · rintro d _ W2 ⟨v164, v170, v171, v177, v26, v27, rfl, hJ⟩ hd hD K9 hS9
            simp only [puts, Act.put, List.setIfInBounds_toArray, List.set_cons_zero, List.set_cons_succ]
            obtain ⟨h0, h6, h7, h13, h14, -⟩ := hD
            go_simp
            refine hS9.out _ _ ⟨[v164, v170, v171, v177, v26, v177], by simp only [puts, Act.put, List.setIfInBounds_toArray, List.set_cons_zero, List.set_cons_succ], _, _, _, _, _, _, rfl, ?_⟩
            exact ⟨hJ.hb, hJ.e0, hJ.e7, hJ.e6, hJ.e13, hJ.e14, fun _ => rfl, hJ.o13, hJ.o14, fun _ => h14⟩
          · exact free_done
          rintro d _ W2 hd ⟨v164, v170, v171, v177, v26, v27, rfl, hJ⟩
          simp only [fsts, allB] at hd
          obtain ⟨h0, h6, h7, h13, h14, h15, -⟩ := hd
          obtain ⟨g, c, g2, c2, rfl, rfl, ho2, hne⟩ := hJ.e13 h13
          obtain ⟨g', c', e', ho1⟩ := hJ.e6 h6
          injection e' with e1 e2 e3
          injection e1 with e1
          injection e1 with e1
          subst e1 e3
          obtain rfl := hJ.e14 h14
          obtain rfl := hJ.e15 h15
          simp only [puts, Act.put, List.setIfInBounds_toArray, List.set_cons_zero, List.set_cons_succ]
          go_wp2_with fail
          go_meet
          exact ⟨_, _, _, _, rfl, rfl, ho1, ho2, hne, hJ.hb⟩
        case rest =>
          obtain ⟨g1, c1', g2', c2', rfl, rfl, ho1, ho2, hne, hb7⟩ := hcut
          have l1 := ho1.lt
          have l2 := ho2.lt
          have hne' : ¬ g2' = g1 := fun e => hne e.symm
          have d1 := ho1.cell j hj
          have d2 := ho2.cell j hj
          rw [Hxy.out.1] at d1
          rw [Hxy.out.2] at d2
          have z1 := World.ownsRow.frozenAt ho1
          have z2 := World.ownsRow.frozenAt ho2
          obtain ⟨o1, m1⟩ := OwnI.stored ho1 j xa
          have o2 := ho2.grown m1 hne'
          obtain ⟨o3, m2⟩ := OwnI.stored o2 j ya
          have o4 := o1.grown m2 hne
          have hb8 : Below W7.heap.size W7 ((wc.setCell ⟨g1, j, none⟩ (.int .i64 xa)).setCell ⟨g2', j, none⟩ (.int .i64 ya)) := bset (bset hb7 (p := ⟨g1, j, none⟩) l1.1 _) (p := ⟨g2', j, none⟩) l2.1 _
          have HO := Lib.hid (And.intro o4 (And.intro o3 hb8))
          clear o1 o2 o3 o4 m1 m2 hb8 ho1 ho2 hb7
          have l1b := l1.2
          have l2b := l2.2
          go_upto_region 24 with fail
          obtain ⟨o1, o2, hb8⟩ := HO.out
          generalize (wc.setCell ⟨g1, j, none⟩ (.int .i64 xa)).setCell ⟨g2', j, none⟩ (.int .i64 ya) = W8 at *
          clear d1 d2 z1 z2 l1 l2 l1b l2b
          go_cut [] (fun wx => P24 w W7 w2.heap.size w3.heap.size u1 u2 sG sE gq cq n k zs en j gs es xa ya wx)
          case first =>
           as_aux_lemma =>
            clear kw Hsame s4 s5 s6 s7 t1 t2 t3 t4 cg ce r1 r2 r3 r6 p1 p2 p3 fb q4B q4I Hxy Hpa Hg Ht c0 c1 i1 i2 hgb heb qx qy
            have l1 := o1.lt
            have l2 := o2.lt
            have hjl : j < (gs.set j xa).length := by rw [List.length_set]; have := Hgl.out; (try dsimp only at this); omega
            have hjl2 : j < (es.set j ya).length := by rw [List.length_set]; have := Hel.out; (try dsimp only at this); omega
            have d1 := o1.cell j hj
            have d2 := o2.cell j hj
            rw [List.getD_eq_getElem?_getD, List.getElem?_set_self (by simpa using hjl)] at d1
            rw [List.getD_eq_getElem?_getD, List.getElem?_set_self (by simpa using hjl2)] at d2
            have hS0 : S24 g1 g2' j xa ya W8 := ⟨d1, d2⟩
            refine wp_region_free (S := S24 g1 g2' j xa ya) [(0, 1), (1, 3), (2, 7), (3, 15), (4, 31), (5, 63), (6, 127), (9, 639), (10, 1663), (11, 3711), (12, 7807), (13, 15999)] 15999 [(7, []), (8, [7]), (14, []), (15, [8, 14]), (16, [8, 15]), (17, [7, 8, 14, 15, 16]), (18, [7, 8, 14, 15, 16, 17])] (by kernel_rfl) (by kernel_rfl) (fun c a d v w h => by cases d <;> exact h) hS0 (fun hHeld => ?_)
            clear hHeld
            refine free_take (v := ?_) rfl (by rfl) ?_ ?_
            rotate_left
            · intro w9 hSw; (unfold S24 at hSw); (go_simp <;> with_reducible rfl)
            try simp only [Act.put, List.setIfInBounds_toArray, List.set_cons_zero, List.set_cons_succ]
            refine free_take (v := ?_) rfl (by rfl) ?_ ?_
            rotate_left
            · intro w9 hSw; (unfold S24 at hSw); (go_simp <;> with_reducible rfl)
            try simp only [Act.put, List.setIfInBounds_toArray, List.set_cons_zero, List.set_cons_succ]
            refine free_take (v := ?_) rfl (by rfl) ?_ ?_
            rotate_left
            · intro w9 hSw; (unfold S24 at hSw); (go_simp <;> with_reducible rfl)
            try simp only [Act.put, List.setIfInBounds_toArray, List.set_cons_zero, List.set_cons_succ]
            refine free_take (v := ?_) rfl (by rfl) ?_ ?_
            rotate_left
            · intro w9 hSw; (unfold S24 at hSw); (go_simp <;> with_reducible rfl)
            try simp only [Act.put, List.setIfInBounds_toArray, List.set_cons_zero, List.set_cons_succ]
            refine free_take (v := ?_) rfl (by rfl) ?_ ?_
            rotate_left
            · intro w9 hSw; (unfold S24 at hSw); (go_simp <;> with_reducible rfl)
            try simp only [Act.put, List.setIfInBounds_toArray, List.set_cons_zero, List.set_cons_succ]
            refine free_take (v := ?_) rfl (by rfl) ?_ ?_
            rotate_left
            · intro w9 hSw; (unfold S24 at hSw); (go_simp <;> with_reducible rfl)
            try simp only [Act.put, List.setIfInBounds_toArray, List.set_cons_zero, List.set_cons_succ]
            refine free_take (v := ?_) rfl (by rfl) ?_ ?_
            rotate_left
            · intro w9 hSw; (unfold S24 at hSw); (go_simp <;> with_reducible rfl)
            try simp only [Act.put, List.setIfInBounds_toArray, List.set_cons_zero, List.set_cons_succ]
            refine free_take (v := ?_) rfl (by rfl) ?_ ?_
            rotate_left
            · intro w9 hSw; (unfold S24 at hSw); (go_simp <;> with_reducible rfl)
            try simp only [Act.put, List.setIfInBounds_toArray, List.set_cons_zero, List.set_cons_succ]
            refine free_take (v := ?_) rfl (by rfl) ?_ ?_
            rotate_left
            · intro w9 hSw; (unfold S24 at hSw); (go_simp <;> with_reducible rfl)
            try simp only [Act.put, List.setIfInBounds_toArray, List.set_cons_zero, List.set_cons_succ]
            refine free_take (v := ?_) rfl (by rfl) ?_ ?_
            rotate_left
            · intro w9 hSw; (unfold S24 at hSw); (go_simp <;> with_reducible rfl)
            try simp only [Act.put, List.setIfInBounds_toArray, List.set_cons_zero, List.set_cons_succ]
            refine free_take (v := ?_) rfl (by rfl) ?_ ?_
            rotate_left
            · intro w9 hSw; (unfold S24 at hSw); (go_simp <;> with_reducible rfl)
            try simp only [Act.put, List.setIfInBounds_toArray, List.set_cons_zero, List.set_cons_succ]
            refine free_take (v := ?_) rfl (by rfl) ?_ ?_
            rotate_left
            · intro w9 hSw; (unfold S24 at hSw); (go_simp <;> with_reducible rfl)
            try simp only [Act.put, List.setIfInBounds_toArray, List.set_cons_zero, List.set_cons_succ]
            refine free_part [197, 198, 204, 205, 206, 207] (fun d vs W => ∃ v197 v198 v204 v205 v206 v207, vs = [v197, v198, v204, v205, v206, v207] ∧ ((d 18 = false ∧ I24 W7 W8 g1 c1' g2' c2' en j gq k (gs.set j xa) (es.set j ya) xa ya d v197 v198 v204 v205 v206 v207 W) ∨ (d 18 = true ∧ (d 7 && d 8 && d 14 && d 15 && d 16 && d 17) = true ∧ S24 g1 g2' j xa ya W ∧ P24 w W7 w2.heap.size w3.heap.size u1 u2 sG sE gq cq n k zs en j gs es xa ya W))) (fun d vs W ⟨_, _, _, _, _, _, _, h⟩ => by rcases h with ⟨-, h⟩ | ⟨-, -, h, -⟩; exact h.s; exact h) ?_ ?_ ?_
            · intro d vs hl hd
              obtain ⟨v197, v198, v204, v205, v206, v207, rfl⟩ := len_six' hl
              simp only [fsts, noB] at hd
              obtain ⟨n7, n8, n14, n15, n16, n17, n18, -⟩ := hd
              exact ⟨_, _, _, _, _, _, rfl, .inl ⟨n18, hb8.drew, Nat.le_refl _, hS0, fun h => by simp [n7] at h, fun h => by simp [n14] at h, fun _ => o1, fun _ => o2, fun h => by simp [n8] at h, fun h => by simp [n15] at h, fun h => by simp [n16] at h, fun h => by simp [n17] at h, fun h => by simp [n15] at h, fun h => by simp [n16] at h, fun h => by simp [n17] at h⟩⟩
            refine free_step rfl ?_ ?_
            · rintro d _ W2 ⟨v197, v198, v204, v205, v206, v207, rfl, hJ⟩ hd hD K9 hS9
              simp only [puts, Act.put, List.setIfInBounds_toArray, List.set_cons_zero, List.set_cons_succ]
              have h18 : d 18 = false := by rcases hJ with ⟨h, -⟩ | ⟨-, h, -⟩; exact h; exact (by simp [hd] at h)
              obtain hI : I24 W7 W8 g1 c1' g2' c2' en j gq k (gs.set j xa) (es.set j ya) xa ya d v197 v198 v204 v205 v206 v207 W2 := by rcases hJ with ⟨-, h⟩ | ⟨-, h, -⟩; exact h; exact (by simp [hd] at h)
              go_simp
              refine hS9.out _ _ ⟨[.slice (some ⟨W2.heap.size, 0, none⟩) 1 1, v198, v204, v205, v206, v207], by simp only [puts, Act.put, List.setIfInBounds_toArray, List.set_cons_zero, List.set_cons_succ], _, _, _, _, _, _, rfl, ?_⟩
              have hA := hI.alloc (.cells #[.int .i64 xa] 2)
              exact .inl ⟨h18, hA.hb, hA.sz, hA.s, fun _ => ⟨_, rfl, hI.sz, fun _ => by simp⟩, hA.e14, hA.n8, hA.n15, hA.e8, hA.e15, hA.e16, hA.e17, hA.o15, hA.o16, hA.o17⟩
            refine free_step rfl ?_ ?_
            · rintro d _ W2 ⟨v197, v198, v204, v205, v206, v207, rfl, hJ⟩ hd hD K9 hS9
              simp only [puts, Act.put, List.setIfInBounds_toArray, List.set_cons_zero, List.set_cons_succ]
              have h18 : d 18 = false := by rcases hJ with ⟨h, -⟩ | ⟨-, h, -⟩; exact h; exact (by simp [hd] at h)
              obtain hI : I24 W7 W8 g1 c1' g2' c2' en j gq k (gs.set j xa) (es.set j ya) xa ya d v197 v198 v204 v205 v206 v207 W2 := by rcases hJ with ⟨-, h⟩ | ⟨-, h, -⟩; exact h; exact (by simp [hd] at h)
              obtain ⟨h7, -⟩ := hD
              obtain ⟨b9, rfl, hb9, hc9⟩ := hI.e7 h7
              have hown := hI.n8 hd
              obtain ⟨g9, c9, W9, hr, ho, hgr, hw9, hcell⟩ := app_one hown (hc9 hd) (by omega) hI.hb.size
              have hgb : Below W7.heap.size W2 W9 := below_grown (v := .slice (some ⟨g1, 0, none⟩) en c1') hgr hown (Nat.le_refl _) hI.hb.size
              have hsz := hI.sz
              rw [if_pos (by rfl)]
              refine wp_app _ _ rfl rfl rfl hr ?_
              simp only [Act.put, List.setIfInBounds_toArray, List.set_cons_zero, List.set_cons_succ]
              refine hS9.out _ _ ⟨[.slice (some ⟨b9, 0, none⟩) 1 1, .slice (some ⟨g9, 0, none⟩) (en + 1) c9, v204, v205, v206, v207], by simp only [puts, Act.put, List.setIfInBounds_toArray, List.set_cons_zero, List.set_cons_succ], _, _, _, _, _, _, rfl, ?_⟩
              exact .inl ⟨h18, hI.hb.trans hgb, Nat.le_trans hsz hgr.size, ⟨(hcell j hj).trans hI.s.1, hgr.cell hI.s.2 (fun e => hne (by injection e with e; exact e.symm))⟩, fun _ => ⟨b9, rfl, hb9, (fun h => absurd (show true = false from h) (by decide))⟩, hI.k14 (fun b u hb h => hgr.cell h (fun e => by injection e with e; have e2 : b = g1 := e; omega)), (fun h => absurd (show true = false from h) (by decide)), fun h => (hI.n15 h).grown hgr (fun e => hne e.symm), fun _ => ⟨g9, c9, rfl, ho, by rcases hw9 with h | h; exact .inl h; exact .inr (by omega)⟩, fun h => tf hI.o15 hd h, fun h => tf (fun h => hI.o15 (hI.o16 h)) hd h, hI.e17, fun _ => rfl, hI.o16, hI.o17⟩
            refine free_step rfl ?_ ?_
            · rintro d _ W2 ⟨v197, v198, v204, v205, v206, v207, rfl, hJ⟩ hd hD K9 hS9
              simp only [puts, Act.put, List.setIfInBounds_toArray, List.set_cons_zero, List.set_cons_succ]
              have h18 : d 18 = false := by rcases hJ with ⟨h, -⟩ | ⟨-, h, -⟩; exact h; exact (by simp [hd] at h)
              obtain hI : I24 W7 W8 g1 c1' g2' c2' en j gq k (gs.set j xa) (es.set j ya) xa ya d v197 v198 v204 v205 v206 v207 W2 := by rcases hJ with ⟨-, h⟩ | ⟨-, h, -⟩; exact h; exact (by simp [hd] at h)
              go_simp
              refine hS9.out _ _ ⟨[v197, v198, .slice (some ⟨W2.heap.size, 0, none⟩) 1 1, v205, v206, v207], by simp only [puts, Act.put, List.setIfInBounds_toArray, List.set_cons_zero, List.set_cons_succ], _, _, _, _, _, _, rfl, ?_⟩
              have hA := hI.alloc (.cells #[.int .i64 ya] 2)
              exact .inl ⟨h18, hA.hb, hA.sz, hA.s, hA.e7, fun _ => ⟨_, rfl, hI.sz, fun _ => by simp⟩, hA.n8, hA.n15, hA.e8, hA.e15, hA.e16, hA.e17, hA.o15, hA.o16, hA.o17⟩
            refine free_step rfl ?_ ?_
            · rintro d _ W2 ⟨v197, v198, v204, v205, v206, v207, rfl, hJ⟩ hd hD K9 hS9
              simp only [puts, Act.put, List.setIfInBounds_toArray, List.set_cons_zero, List.set_cons_succ]
              have h18 : d 18 = false := by rcases hJ with ⟨h, -⟩ | ⟨-, h, -⟩; exact h; exact (by simp [hd] at h)
              obtain hI : I24 W7 W8 g1 c1' g2' c2' en j gq k (gs.set j xa) (es.set j ya) xa ya d v197 v198 v204 v205 v206 v207 W2 := by rcases hJ with ⟨-, h⟩ | ⟨-, h, -⟩; exact h; exact (by simp [hd] at h)
              obtain ⟨h8, h14, -⟩ := hD
              obtain ⟨b9, rfl, hb9, hc9⟩ := hI.e14 h14
              obtain ⟨g8, c8, rfl, ho8, hw8⟩ := hI.e8 h8
              have hown := hI.n15 hd
              obtain ⟨g9, c9, W9, hr, ho, hgr, hw9, hcell⟩ := app_one hown (hc9 hd) (by omega) hI.hb.size
              have hgb : Below W7.heap.size W2 W9 := below_grown (v := .slice (some ⟨g2', 0, none⟩) en c2') hgr hown (Nat.le_refl _) hI.hb.size
              have hsz := hI.sz
              rw [if_pos (by rfl)]
              refine wp_app _ _ rfl rfl rfl hr ?_
              simp only [Act.put, List.setIfInBounds_toArray, List.set_cons_zero, List.set_cons_succ]
              refine hS9.out _ _ ⟨[v197, .slice (some ⟨g8, 0, none⟩) (en + 1) c8, .slice (some ⟨b9, 0, none⟩) 1 1, .slice (some ⟨g9, 0, none⟩) (en + 1) c9, v206, v207], by simp only [puts, Act.put, List.setIfInBounds_toArray, List.set_cons_zero, List.set_cons_succ], _, _, _, _, _, _, rfl, ?_⟩
              exact .inl ⟨h18, hI.hb.trans hgb, Nat.le_trans hsz hgr.size, ⟨hgr.cell hI.s.1 (fun e => hne (by injection e)), (hcell j hj).trans hI.s.2⟩, hI.k7 (fun b u hb h => hgr.cell h (fun e => by injection e with e; have e2 : b = g2' := e; omega)), fun _ => ⟨b9, rfl, hb9, (fun h => absurd (show true = false from h) (by decide))⟩, fun h => absurd (h8.symm.trans h) (by decide), (fun h => absurd (show true = false from h) (by decide)), fun _ => ⟨g8, c8, rfl, ho8.grown hgr (fun e => by rcases hw8 with h | h; exact hne (h.symm.trans e); omega), hw8⟩, fun _ => ⟨g9, c9, rfl, ho⟩, fun h => tf hI.o16 hd h, hI.e17, fun _ => h8, fun _ => rfl, hI.o17⟩
            refine free_step rfl ?_ ?_
            · rintro d _ W2 ⟨v197, v198, v204, v205, v206, v207, rfl, hJ⟩ hd hD K9 hS9
              simp only [puts, Act.put, List.setIfInBounds_toArray, List.set_cons_zero, List.set_cons_succ]
              have h18 : d 18 = false := by rcases hJ with ⟨h, -⟩ | ⟨-, h, -⟩; exact h; exact (by simp [hd] at h)
              obtain hI : I24 W7 W8 g1 c1' g2' c2' en j gq k (gs.set j xa) (es.set j ya) xa ya d v197 v198 v204 v205 v206 v207 W2 := by rcases hJ with ⟨-, h⟩ | ⟨-, h, -⟩; exact h; exact (by simp [hd] at h)
              obtain ⟨h8, h15, -⟩ := hD
              obtain ⟨g8, c8, rfl, ho8, hw8⟩ := hI.e8 h8
              obtain ⟨g9, c9, rfl, ho9⟩ := hI.e15 h15
              go_simp
              refine hS9.out _ _ ⟨[v197, .slice (some ⟨g8, 0, none⟩) (en + 1) c8, v204, .slice (some ⟨g9, 0, none⟩) (en + 1) c9, .agg #[.slice (some ⟨g8, 0, none⟩) (en + 1) c8, .slice (some ⟨g9, 0, none⟩) (en + 1) c9], v207], by simp only [puts, Act.put, List.setIfInBounds_toArray, List.set_cons_zero, List.set_cons_succ], _, _, _, _, _, _, rfl, ?_⟩
              exact .inl ⟨h18, hI.hb, hI.sz, hI.s, hI.e7, hI.e14, hI.n8, hI.n15, fun _ => ⟨g8, c8, rfl, ho8, hw8⟩, fun _ => ⟨g9, c9, rfl, ho9⟩, fun _ => rfl, hI.e17, hI.o15, fun _ => h15, fun _ => rfl⟩
            refine free_step rfl ?_ ?_
            · rintro d _ W2 ⟨v197, v198, v204, v205, v206, v207, rfl, hJ⟩ hd hD K9 hS9
              simp only [puts, Act.put, List.setIfInBounds_toArray, List.set_cons_zero, List.set_cons_succ]
              have h18 : d 18 = false := by rcases hJ with ⟨h, -⟩ | ⟨-, h, -⟩; exact h; exact (by simp [hd] at h)
              obtain hI : I24 W7 W8 g1 c1' g2' c2' en j gq k (gs.set j xa) (es.set j ya) xa ya d v197 v198 v204 v205 v206 v207 W2 := by rcases hJ with ⟨-, h⟩ | ⟨-, h, -⟩; exact h; exact (by simp [hd] at h)
              obtain ⟨h7, h8, h14, h15, h16, -⟩ := hD
              go_simp
              refine hS9.out _ _ ⟨[v197, v198, v204, v205, v206, .pointer (some ⟨gq, k * 2, none⟩)], by simp only [puts, Act.put, List.setIfInBounds_toArray, List.set_cons_zero, List.set_cons_succ], _, _, _, _, _, _, rfl, ?_⟩
              exact .inl ⟨h18, hI.hb, hI.sz, hI.s, hI.e7, hI.e14, hI.n8, hI.n15, hI.e8, hI.e15, hI.e16, fun _ => rfl, hI.o15, hI.o16, fun _ => h16⟩
            refine free_step rfl ?_ ?_
            · rintro d _ W2 ⟨v197, v198, v204, v205, v206, v207, rfl, hJ⟩ hd hD K9 hS9
              simp only [puts, Act.put, List.setIfInBounds_toArray, List.set_cons_zero, List.set_cons_succ]
              obtain ⟨h7, h8, h14, h15, h16, h17, -⟩ := hD
              obtain hI : I24 W7 W8 g1 c1' g2' c2' en j gq k (gs.set j xa) (es.set j ya) xa ya d v197 v198 v204 v205 v206 v207 W2 := by rcases hJ with ⟨-, h⟩ | ⟨h, -⟩; exact h; exact absurd (hd.symm.trans h) (by decide)
              obtain ⟨g8, c8, rfl, ho8, hw8⟩ := hI.e8 h8
              obtain ⟨g9, c9, rfl, ho9⟩ := hI.e15 h15
              obtain rfl := hI.e16 h16
              obtain rfl := hI.e17 h17
              have hQ2 := own_keepI hQ hI.hb
              have hP := post24 Hz.out.2.2 Hl.out hk (by omega) hbw hI.hb hQ (by omega) (by omega) (by omega) B12 B14 ho8 ho9
              have cq0 := World.ownsRow.cellAt hQ2 (k * 2) (by omega)
              have cq1 := World.ownsRow.cellAt hQ2 (k * 2 + 1) (by omega)
              have fq := World.ownsRow.frozenAt hQ2
              rw [(flatP_get zs k _ Hget.out).1] at cq0
              rw [(flatP_get zs k _ Hget.out).2] at cq1
              have hlq := (World.ownsRow.lt hQ gq rfl).2
              have hs2 := hI.s
              clear hQ2
              go_simp
              refine hS9.out _ _ ⟨[v197, .slice (some ⟨g8, 0, none⟩) (en + 1) c8, v204, .slice (some ⟨g9, 0, none⟩) (en + 1) c9, .agg #[.slice (some ⟨g8, 0, none⟩) (en + 1) c8, .slice (some ⟨g9, 0, none⟩) (en + 1) c9], .pointer (some ⟨gq, k * 2, none⟩)], by simp only [puts, Act.put, List.setIfInBounds_toArray, List.set_cons_zero, List.set_cons_succ], _, _, _, _, _, _, rfl, ?_⟩
              exact .inr ⟨rfl, by simp [addB, h7, h8, h14, h15, h16, h17], ⟨by rw [World.cell?_setCell_other _ _ _ _ (fun e => by injection e; omega), World.cell?_setCell_other _ _ _ _ (fun e => by injection e; omega)]; exact hs2.1, by rw [World.cell?_setCell_other _ _ _ _ (fun e => by injection e; omega), World.cell?_setCell_other _ _ _ _ (fun e => by injection e; omega)]; exact hs2.2⟩, hP⟩
            · exact free_done
            rintro d _ W2 hd ⟨v197, v198, v204, v205, v206, v207, rfl, hJ⟩
            simp only [fsts, allB] at hd
            obtain ⟨h7, h8, h14, h15, h16, h17, h18, -⟩ := hd
            obtain hP : P24 w W7 w2.heap.size w3.heap.size u1 u2 sG sE gq cq n k zs en j gs es xa ya W2 := by rcases hJ with ⟨h, -⟩ | ⟨-, -, -, h⟩; exact absurd (h18.symm.trans h) (by decide); exact h
            simp only [puts, Act.put, List.setIfInBounds_toArray, List.set_cons_zero, List.set_cons_succ]
            go_wp2_with fail
            go_meet
            exact hP
          case rest =>
            clear B12 B14 hbw hQ o1 o2 hb8 HO c0 c1 cg ce i1 i2 hgb heb
            obtain ⟨⟨p', ⟨hp1, hp2, hp3⟩, hPP⟩, B12, B14, hbw⟩ := hcut
            have kg2 := fun (W : World) (hb : Below wc.heap.size wc W) => fine_any (some ⟨gq, 0, none⟩) n cq (zs.set k p') W (hPP.below hb) (by omega)
            unfold RetFine at kg2
            have cB12 := B12.c
            have fB12 := B12.f
            have lB12 := B12.lt
            have cB14 := B14.c
            have fB14 := B14.f
            have lB14 := B14.lt
            go_wp2_with fail
            refine (kg2 _ blA).mono ?_
            rintro _ w9 ⟨g, rfl, hgt2, hb9⟩
            replace hPP := hPP.below hb9
            replace B12 : Cs w9 (w2.heap.size) #[.int .i64 u1, .int .i64 u2] := Cs.keep csA hb9
            replace B14 : Cs w9 (w3.heap.size) #[.int .i64 sG, .int .i64 sE] := Cs.keep csA hb9
            replace hbw : Below w.heap.size w w9 := blA
            replace cB12 := B12.c
            replace fB12 := B12.f
            replace lB12 := B12.lt
            replace cB14 := B14.c
            replace fB14 := B14.f
            replace lB14 := B14.lt
            clear hb9
            clear kg2
            cases g with
            | false =>
              clear hgt2
              go_wp2_with fail
              refine (kw _).mono ?_
              rintro e w10 ⟨rfl, hb10⟩
              try clear cB12 fB12 lB12
              try clear B12
              try clear cB14 fB14 lB14
              try clear B14
              replace hbw : Below w.heap.size w w10 := blA
              clear hb10
              go_wp2_with fail
              go_ret
              exact ⟨rfl, blA⟩
            | true =>
              have ht2 := hgt2 rfl
              clear hgt2
              have hFP : ∀ F, Hom F → ocW (zs.set k p') F = ocW zs F := fun F hF => by
                have hpa := Hpa.out
                refine parted_sum (j := j) (a := xa) (b := ya) (by rw [Hl.out]; exact hk) ?_ ?_ ?_ ?_ ?_ ?_ hF
                · rw [hpa]; exact ⟨hp1, hp2, hp3⟩
                · rw [hpa]; exact hj
                · rw [hpa]; exact Hgl.out
                · rw [hpa]; exact Hel.out
                · rw [hpa]; exact Hxy.out.1.trans hxa
                · rw [hpa]; exact Hxy.out.2.trans hya
              have kB3 := fun (W' : World) (hb' : Below w9.heap.size w9 W') => best_cok (some ⟨gq, 0, none⟩) n cq (zs.set k p') most W' (hPP.below hb') n6 ht2 hm.1 (by omega)
              unfold RetLREc at kB3
              have HFP := Lib.hid hFP
              have Ht2 := Lib.hid ht2
              clear hFP ht2
              have cB12 := B12.c
              have fB12 := B12.f
              have lB12 := B12.lt
              have cB14 := B14.c
              have fB14 := B14.f
              have lB14 := B14.lt
              go_wp2_with fail
              refine (kB3 _ blA).mono ?_
              rintro _ w10 ⟨⟨x1, x2⟩, hBT, A9, n9, c9, rfl, h9, hb10, hc9⟩
              obtain ⟨e1, kS⟩ := Hsame.out (zs.set k p') w9 w10 hbw hb10 (some ⟨gq, 0, none⟩) cq hPP Ht2.out HFP.out (x1, x2) hBT A9 n9 c9 h9 hc9
              have e1 := e1.symm
              injection e1 with e1 e2
              subst e1 e2
              clear kB3 hBT hPP HFP Ht2
              replace B12 : Cs w10 (w2.heap.size) #[.int .i64 u1, .int .i64 u2] := Cs.keep csA hb10
              replace B14 : Cs w10 (w3.heap.size) #[.int .i64 sG, .int .i64 sE] := Cs.keep csA hb10
              replace hbw : Below w.heap.size w w10 := blA
              replace cB12 := B12.c
              replace fB12 := B12.f
              replace lB12 := B12.lt
              replace cB14 := B14.c
              replace fB14 := B14.f
              replace lB14 := B14.lt
              clear hb10
              go_wp2_with fail
              refine (kS _ blA).mono ?_
              rintro _ w11 ⟨rfl, hb11⟩
              clear kS h9 hc9
              replace B12 : Cs w11 (w2.heap.size) #[.int .i64 u1, .int .i64 u2] := Cs.keep csA hb11
              replace B14 : Cs w11 (w3.heap.size) #[.int .i64 sG, .int .i64 sE] := Cs.keep csA hb11
              replace B29 : Cs w11 (w10.heap.size) #[.int .i64 u1, .int .i64 u2] := Cs.keep csA hb11
              replace hbw : Below w.heap.size w w11 := blA
              replace cB12 := B12.c
              replace fB12 := B12.f
              replace lB12 := B12.lt
              replace cB14 := B14.c
              replace fB14 := B14.f
              replace lB14 := B14.lt
              replace cB29 := B29.c
              replace fB29 := B29.f
              replace lB29 := B29.lt
              clear hb11
              go_wp2_with fail
              refine (kw _).mono ?_
              rintro e w12 ⟨rfl, hb12⟩
              try clear cB12 fB12 lB12
              try clear B12
              try clear cB14 fB14 lB14
              try clear B14
              try clear cB29 fB29 lB29
              try clear B29
              replace hbw : Below w.heap.size w w12 := blA
              clear hb12
              go_wp2_with fail
              go_ret
              exact ⟨rfl, blA⟩

end Go.Proofs.Ytcmllkjgggcghaa
end
