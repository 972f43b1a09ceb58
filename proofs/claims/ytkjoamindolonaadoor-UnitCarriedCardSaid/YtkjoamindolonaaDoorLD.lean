/- What UnitCarried leans on: lists of bytes, a fraction of a span by a number, a list of spans that grows. -/
import Derived.Test.YtkjoamindolonaaDoorLA2
import Derived.Test.YtkjoamindolonaaDoorLB
import Derived.Test.YtkjoamindolonaaDoorRA9
import Derived.Test.YtkjoamindolonaaDoorUMath5
namespace Go.Proofs.YtkjoamindolonaaDoor
open Go.RowKit Go.Shelf
set_option linter.unusedSimpArgs false
set_option linter.unusedVariables false
open Um (frac S4 spanB spanE)

/-- a slice value that reads as a list of bytes -/
def Byts (w : World) (A : Option Addr) (n : Nat) (zs : List Int) : Prop :=
  zs.length = n ∧ (0 < n → ∃ b off, A = some ⟨b, off, none⟩ ∧ b < w.heap.size ∧ ∀ i, i < n → w.cell? ⟨b, off + i, none⟩ = some (.int .u8 (zs.getD i 0)) ∧ 0 ≤ zs.getD i 0 ∧ zs.getD i 0 ≤ 255)

theorem Byts.at0 {w wr : World} {A : Option Addr} {n k : Nat} {zs : List Int} (h : Byts w A n zs) (hb : Below w.heap.size w wr) (hk : k < n) :
    ∃ b off, A = some ⟨b, off, none⟩ ∧ wr.cell? ⟨b, off + k, none⟩ = some (.int .u8 (zs.getD k 0)) ∧ 0 ≤ zs.getD k 0 ∧ zs.getD k 0 ≤ 255 := by
  obtain ⟨b, off, rfl, hlt, hc⟩ := h.2 (by omega)
  obtain ⟨h1, h2, h3⟩ := hc k hk
  exact ⟨b, off, rfl, (hb.cell (p := ⟨b, off + k, none⟩) hlt).trans h1, h2, h3⟩

theorem Byts.lt {w : World} {b off n : Nat} {zs : List Int} (h : Byts w (some ⟨b, off, none⟩) n zs) (hn : 0 < n) : b < w.heap.size := by
  obtain ⟨b', off', e, hlt, _⟩ := h.2 hn
  injection e with e
  injection e with e1 e2
  subst e1
  exact hlt
theorem Spans.lt {w : World} {b off n : Nat} {zs : List S4} (h : Spans w (some ⟨b, off, none⟩) n zs) (hn : 0 < n) : b < w.heap.size := by
  obtain ⟨b', off', e, hlt, _⟩ := h.2 hn
  injection e with e
  injection e with e1 e2
  subst e1
  exact hlt
theorem cell_other2 {w : World} {p : Addr} {v : Option Value} (h : w.cell? p = v) {g : Nat} (hg : p.block ≠ g) (x y : Value) : ((w.setCell ⟨g, 0, none⟩ x).setCell ⟨g, 1, none⟩ y).cell? p = v := by
  rw [World.cell?_setCell_other _ _ _ _ (by intro e; apply hg; rw [← e]), World.cell?_setCell_other _ _ _ _ (by intro e; apply hg; rw [← e])]
  exact h

theorem Byts.cell {w wr : World} {b off n k : Nat} {zs : List Int} (h : Byts w (some ⟨b, off, none⟩) n zs) (hb : Below w.heap.size w wr) (hk : k < n) :
    wr.cell? ⟨b, off + k, none⟩ = some (.int .u8 (zs.getD k 0)) ∧ 0 ≤ zs.getD k 0 ∧ zs.getD k 0 ≤ 255 := by
  obtain ⟨b', off', e, h1, h2⟩ := h.at0 hb hk
  injection e with e
  injection e with e1 e2
  subst e1 e2
  exact ⟨h1, h2⟩

theorem Spans.cells {w wr : World} {b off n k : Nat} {zs : List S4} {x y z u : Int} (h : Spans w (some ⟨b, off, none⟩) n zs) (hb : Below w.heap.size w wr) (hk : k < n) (hg : zs[k]? = some (x, y, z, u)) :
    wr.cell? ⟨b, off + k * 4, none⟩ = some (.int .i64 x) ∧ wr.cell? ⟨b, off + k * 4 + 1, none⟩ = some (.int .i64 y) ∧ wr.cell? ⟨b, off + k * 4 + 2, none⟩ = some (.int .i64 z) ∧ wr.cell? ⟨b, off + k * 4 + 3, none⟩ = some (.int .i64 u) := by
  obtain ⟨b', off', e, hlt, hc⟩ := h.2 (by omega)
  injection e with e
  injection e with e1 e2
  subst e1 e2
  have hz : zs.getD k (0, 0, 0, 0) = (x, y, z, u) := by rw [List.getD_eq_getElem?_getD, hg]; rfl
  obtain ⟨c0, c1, c2, c3⟩ := hc k hk
  rw [hz] at c0 c1 c2 c3
  exact ⟨(hb.cell (p := ⟨b, _, none⟩) hlt).trans c0, (hb.cell (p := ⟨b, _, none⟩) hlt).trans c1, (hb.cell (p := ⟨b, _, none⟩) hlt).trans c2, (hb.cell (p := ⟨b, _, none⟩) hlt).trans c3⟩

theorem own_keep {w w' : World} {base : Nat} {e : TypeId} {s : Nat} {v : Value} {n : Nat} {xs : List Value} (h : w.ownsRow base e s v n xs) (hb : Below w.heap.size w w') : w'.ownsRow base e s v n xs := by
  refine ⟨h.1, ?_⟩
  rcases h.2 with h2 | ⟨g, cap, cur, e1, hB, hg, rest⟩
  · exact Or.inl h2
  · have hlt : g < w.heap.size := by
      rcases Nat.lt_or_ge g w.heap.size with h | h
      · exact h
      · rw [Array.getElem?_eq_none h] at hg; cases hg
    exact Or.inr ⟨g, cap, cur, e1, hB, (hb.block g hlt).trans hg, rest⟩

/-- a row of spans of one's own, as a slice -/
theorem own_spans {w : World} {B n : Nat} {v : Value} {zs : List S4} (hl : zs.length = n) (h : w.ownsRow B 25 4 v n (zs.flatMap enc4)) : ∃ A c, v = .slice A n c ∧ Spans w A n zs := by
  rcases h.2 with ⟨rfl, h0⟩ | ⟨g, cap, cur, rfl, hB, hg, _, _, _, ht⟩
  · subst h0
    exact ⟨none, 0, rfl, hl, fun h => absurd h (by omega)⟩
  · refine ⟨some ⟨g, 0, none⟩, cap, rfl, hl, fun hn => ⟨g, 0, rfl, ?_, fun i hi => ?_⟩⟩
    · rcases Nat.lt_or_ge g w.heap.size with h | h
      · exact h
      · rw [Array.getElem?_eq_none h] at hg; cases hg
    · have key : ∀ c, c < 4 → w.cell? ⟨g, 0 + i * 4 + c, none⟩ = (enc4 (zs.getD i (0, 0, 0, 0)))[c]? := by
        intro c hc
        have h1 := h.cellAt (i * 4 + c) (by omega)
        rw [Nat.zero_add, h1, flat4_get zs i c hc]
        have hlt : i < zs.length := by omega
        rw [List.getElem?_eq_getElem hlt, List.getD_eq_getElem?_getD, List.getElem?_eq_getElem hlt]
        rfl
      exact ⟨key 0 (by omega), key 1 (by omega), key 2 (by omega), key 3 (by omega)⟩

/-- an append of one span to a row of the call's own -/
theorem list_own4 {ops : Array Oper} {rest : List Oper} {o : Oper} {a : Act} {w : World} {Q : Exit → Act → World → Prop}
    (hg : o.guard = none) (s x : Operand) (hop : o.op = Op.call { callee := Callee.builtin Builtin.append, args := #[s, x], argTypes := #[26, 26] })
    (B n : Nat) (v : Value) (xs : List S4) (hs : a.eval s = v) (hown : w.ownsRow B 25 4 v n (xs.flatMap enc4))
    (b : Nat) (y : S4) (hx : a.eval x = .slice (some ⟨b, 0, none⟩) 1 1) (hy : ∀ j u, (enc4 y)[j]? = some u → w.cell? ⟨b, j, none⟩ = some u) (hn : n ≤ 1000) (hB : B ≤ w.heap.size)
    (hK : ∀ g c w', w'.ownsRow B 25 4 (.slice (some ⟨g, 0, none⟩) (n + 1) c) (n + 1) ((xs ++ [y]).flatMap enc4) → Below B w w' → wpList Tryd.prog ops Q rest (a.put o.dst (.slice (some ⟨g, 0, none⟩) (n + 1) c)) w') :
    wpList Tryd.prog ops Q (o :: rest) a w := by
  obtain ⟨i0, hi0, hz0, hz1, hz2⟩ := info_parts span_info
  refine wpList_append_own w hg s x 26 hop B 25 i0 (.agg #[.int .i64 0, .int .i64 0, .int .i64 0, .int .i64 0]) 4 32 Tryd.underlying26 hi0 hz0 hz1 hz2 rfl (by omega) v n (xs.flatMap enc4) hs hown ⟨b, 0, none⟩ 1 1 (enc4 y) hx rfl ?_ ?_ (by unfold maxLen; omega) (by omega) hB ?_
  · intro j u hu
    rw [addr_add, Nat.zero_add]; exact hy j u hu
  · intro u hu
    simp [enc4] at hu
    rcases hu with rfl | rfl | rfl | rfl <;> rfl
  · intro v' w' h1 h2 _
    obtain ⟨g, c, rfl, _, _⟩ := World.ownsRow.form h1 (by omega)
    refine hK g c w' (by rw [List.flatMap_append]; simpa using h1) ((Below.refl B w).grown h2 hB (own_block hown))

set_option maxHeartbeats 1000000 in
theorem inside_any (a b c d t : Int) (w : World) (h : spanB (a, b, c, d) = true) (h0 : 0 ≤ t) (h1 : t ≤ 255) :
    Calls Tryd.prog 34 #[.agg #[.int .i64 a, .int .i64 b, .int .i64 c, .int .i64 d], .int .u8 t] w fun e w' => e = .returned (.agg #[.int .i64 (Um.inside (a, b, c, d) t).1, .int .i64 (Um.inside (a, b, c, d) t).2]) ∧ Below w.heap.size w w' := by
  have f1 : t.tmod 3 = t % 3 := Int.tmod_eq_emod_of_nonneg h0
  have f2 : IntKind.u8.wrap (t % 3) = t % 3 := IntWalk.u8_in _ (by omega)
  obtain ⟨g1, g2, g3⟩ := (Um.spanB_iff _).1 h
  obtain ⟨a1, a2, b1, b2⟩ := Um.frac_bd (n := a) (d := b) g1
  obtain ⟨c1, c2, d1, d2⟩ := Um.frac_bd (n := c) (d := d) g2
  clear h g1 g2 g3
  by_cases e0 : t % 3 = 0
  · have hI : Um.inside (a, b, c, d) t = (a, b) := by unfold Um.inside; rw [if_pos e0]
    rw [hI]
    have x0 : (t % 3 == 0) = true := by simp [e0]
    clear hI
    go_enter Tryd.func34, Tryd.ntmps34
    go_wp2_with fail
    exact bodyPost_ret (v := .agg #[.int .i64 a, .int .i64 b]) (by simp [results, Tryd.results34, go_sem]) rfl ⟨rfl, (by repeat (first | with_reducible exact Below.refl _ _ | with_reducible assumption | with_reducible refine balloc ?_ _ | with_reducible refine bdrewN ?_ _ | with_reducible refine Below.drew ?_ | (with_reducible refine bset ?_ ?_ _; rotate_left; focus (first | assumption | omega | (simp; done) | (simp; omega))) | with_reducible refine bstep ?_ (by assumption) | assumption))⟩
  · by_cases e1 : t % 3 = 1
    · have hI : Um.inside (a, b, c, d) t = (c, d) := by unfold Um.inside; rw [if_neg e0, if_pos e1]
      rw [hI]
      have x0 : (t % 3 == 0) = false := by simp [e0]
      have x1 : (t % 3 == 1) = true := by simp [e1]
      clear hI
      go_enter Tryd.func34, Tryd.ntmps34
      go_wp2_with fail
      exact bodyPost_ret (v := .agg #[.int .i64 c, .int .i64 d]) (by simp [results, Tryd.results34, go_sem]) rfl ⟨rfl, (by repeat (first | with_reducible exact Below.refl _ _ | with_reducible assumption | with_reducible refine balloc ?_ _ | with_reducible refine bdrewN ?_ _ | with_reducible refine Below.drew ?_ | (with_reducible refine bset ?_ ?_ _; rotate_left; focus (first | assumption | omega | (simp; done) | (simp; omega))) | with_reducible refine bstep ?_ (by assumption) | assumption))⟩
    · have hI : Um.inside (a, b, c, d) t = if frac ((a + c) / (Int.gcd (a + c) (b + d) : Int)) ((b + d) / (Int.gcd (a + c) (b + d) : Int)) = true then ((a + c) / (Int.gcd (a + c) (b + d) : Int), (b + d) / (Int.gcd (a + c) (b + d) : Int)) else (a, b) := by unfold Um.inside; rw [if_neg e0, if_neg e1]
      rw [hI]
      have x0 : (t % 3 == 0) = false := by simp [e0]
      have x1 : (t % 3 == 1) = false := by simp [e1]
      have f3 : IntKind.i64.wrap (a + c) = a + c := IntWalk.i64_in _ (by omega)
      have f4 : IntKind.i64.wrap (b + d) = b + d := IntWalk.i64_in _ (by omega)
      have k1 := fun W => reduced_any (a + c) (b + d) W (by omega) (by omega) (by omega) (by omega)
      clear hI a1 a2 b1 b2 c1 c2 d1 d2
      generalize (a + c) / (Int.gcd (a + c) (b + d) : Int) = p at *
      generalize (b + d) / (Int.gcd (a + c) (b + d) : Int) = q at *
      have k2 := fun W => risFraction_any p q W
      cases hf : frac p q with
      | true =>
        rw [hf] at k2
        rw [if_pos rfl]
        clear hf
        go_enter Tryd.func34, Tryd.ntmps34
        go_wp2_with fail
        refine (k1 _).mono ?_
        rintro e w1 ⟨rfl, hb1⟩
        replace B0 : Cs w1 (w.heap.size) #[.int .i64 a, .int .i64 b, .int .i64 c, .int .i64 d] := Cs.keep (by repeat (first | with_reducible assumption | (with_reducible refine Cs.new _ _ _ _ ?_; first | rfl | (simp; done)) | with_reducible refine Cs.alloc ?_ _ | with_reducible refine Cs.drewN ?_ _ | with_reducible refine Cs.drew ?_ | with_reducible refine Cs.set4 ?_ _ _ _ _ | (with_reducible refine Cs.other4 ?_ ?_ _ _ _ _; rotate_left; focus (first | assumption | omega | (simp; done) | (simp; omega))) | with_reducible refine Cs.set2 ?_ _ _ | (with_reducible refine Cs.other2 ?_ ?_ _ _; rotate_left; focus (first | assumption | omega | (simp; done) | (simp; omega))) | (with_reducible refine Cs.other ?_ ?_ _; rotate_left; focus (first | assumption | omega | (simp; done) | (simp; omega))) | with_reducible refine Cs.keep ?_ (by assumption) | assumption)) hb1
        replace B1 : Cs w1 (w.heap.size + 1) #[.int .i64 0, .int .i64 0] := Cs.keep (by repeat (first | with_reducible assumption | (with_reducible refine Cs.new _ _ _ _ ?_; first | rfl | (simp; done)) | with_reducible refine Cs.alloc ?_ _ | with_reducible refine Cs.drewN ?_ _ | with_reducible refine Cs.drew ?_ | with_reducible refine Cs.set4 ?_ _ _ _ _ | (with_reducible refine Cs.other4 ?_ ?_ _ _ _ _; rotate_left; focus (first | assumption | omega | (simp; done) | (simp; omega))) | with_reducible refine Cs.set2 ?_ _ _ | (with_reducible refine Cs.other2 ?_ ?_ _ _; rotate_left; focus (first | assumption | omega | (simp; done) | (simp; omega))) | (with_reducible refine Cs.other ?_ ?_ _; rotate_left; focus (first | assumption | omega | (simp; done) | (simp; omega))) | with_reducible refine Cs.keep ?_ (by assumption) | assumption)) hb1
        replace hbw : Below w.heap.size w w1 := (by repeat (first | with_reducible exact Below.refl _ _ | with_reducible assumption | with_reducible refine balloc ?_ _ | with_reducible refine bdrewN ?_ _ | with_reducible refine Below.drew ?_ | (with_reducible refine bset ?_ ?_ _; rotate_left; focus (first | assumption | omega | (simp; done) | (simp; omega))) | with_reducible refine bstep ?_ (by assumption) | assumption))
        replace cB0 := B0.c
        replace fB0 := B0.f
        replace lB0 := B0.lt
        replace cB1 := B1.c
        replace fB1 := B1.f
        replace lB1 := B1.lt
        clear hb1
        go_wp2_with fail
        refine (k2 _).mono ?_
        rintro e w2 ⟨rfl, hb2⟩
        try clear cB0 fB0 lB0
        try clear B0
        replace B1 : Cs w2 (w.heap.size + 1) #[.int .i64 0, .int .i64 0] := Cs.keep (by repeat (first | with_reducible assumption | (with_reducible refine Cs.new _ _ _ _ ?_; first | rfl | (simp; done)) | with_reducible refine Cs.alloc ?_ _ | with_reducible refine Cs.drewN ?_ _ | with_reducible refine Cs.drew ?_ | with_reducible refine Cs.set4 ?_ _ _ _ _ | (with_reducible refine Cs.other4 ?_ ?_ _ _ _ _; rotate_left; focus (first | assumption | omega | (simp; done) | (simp; omega))) | with_reducible refine Cs.set2 ?_ _ _ | (with_reducible refine Cs.other2 ?_ ?_ _ _; rotate_left; focus (first | assumption | omega | (simp; done) | (simp; omega))) | (with_reducible refine Cs.other ?_ ?_ _; rotate_left; focus (first | assumption | omega | (simp; done) | (simp; omega))) | with_reducible refine Cs.keep ?_ (by assumption) | assumption)) hb2
        replace B2 : Cs w2 (w1.heap.size) #[.int .i64 p, .int .i64 q] := Cs.keep (by repeat (first | with_reducible assumption | (with_reducible refine Cs.new _ _ _ _ ?_; first | rfl | (simp; done)) | with_reducible refine Cs.alloc ?_ _ | with_reducible refine Cs.drewN ?_ _ | with_reducible refine Cs.drew ?_ | with_reducible refine Cs.set4 ?_ _ _ _ _ | (with_reducible refine Cs.other4 ?_ ?_ _ _ _ _; rotate_left; focus (first | assumption | omega | (simp; done) | (simp; omega))) | with_reducible refine Cs.set2 ?_ _ _ | (with_reducible refine Cs.other2 ?_ ?_ _ _; rotate_left; focus (first | assumption | omega | (simp; done) | (simp; omega))) | (with_reducible refine Cs.other ?_ ?_ _; rotate_left; focus (first | assumption | omega | (simp; done) | (simp; omega))) | with_reducible refine Cs.keep ?_ (by assumption) | assumption)) hb2
        replace hbw : Below w.heap.size w w2 := (by repeat (first | with_reducible exact Below.refl _ _ | with_reducible assumption | with_reducible refine balloc ?_ _ | with_reducible refine bdrewN ?_ _ | with_reducible refine Below.drew ?_ | (with_reducible refine bset ?_ ?_ _; rotate_left; focus (first | assumption | omega | (simp; done) | (simp; omega))) | with_reducible refine bstep ?_ (by assumption) | assumption))
        replace cB1 := B1.c
        replace fB1 := B1.f
        replace lB1 := B1.lt
        replace cB2 := B2.c
        replace fB2 := B2.f
        replace lB2 := B2.lt
        clear hb2
        go_wp2_with fail
        exact bodyPost_ret (v := .agg #[.int .i64 p, .int .i64 q]) (by simp [results, Tryd.results34, go_sem, cB1, fB1, lB1, cB2, fB2, lB2]) rfl ⟨rfl, (by repeat (first | with_reducible exact Below.refl _ _ | with_reducible assumption | with_reducible refine balloc ?_ _ | with_reducible refine bdrewN ?_ _ | with_reducible refine Below.drew ?_ | (with_reducible refine bset ?_ ?_ _; rotate_left; focus (first | assumption | omega | (simp; done) | (simp; omega))) | with_reducible refine bstep ?_ (by assumption) | assumption))⟩
      | false =>
        rw [hf] at k2
        rw [if_neg (by decide)]
        clear hf
        go_enter Tryd.func34, Tryd.ntmps34
        go_wp2_with fail
        refine (k1 _).mono ?_
        rintro e w1 ⟨rfl, hb1⟩
        replace B0 : Cs w1 (w.heap.size) #[.int .i64 a, .int .i64 b, .int .i64 c, .int .i64 d] := Cs.keep (by repeat (first | with_reducible assumption | (with_reducible refine Cs.new _ _ _ _ ?_; first | rfl | (simp; done)) | with_reducible refine Cs.alloc ?_ _ | with_reducible refine Cs.drewN ?_ _ | with_reducible refine Cs.drew ?_ | with_reducible refine Cs.set4 ?_ _ _ _ _ | (with_reducible refine Cs.other4 ?_ ?_ _ _ _ _; rotate_left; focus (first | assumption | omega | (simp; done) | (simp; omega))) | with_reducible refine Cs.set2 ?_ _ _ | (with_reducible refine Cs.other2 ?_ ?_ _ _; rotate_left; focus (first | assumption | omega | (simp; done) | (simp; omega))) | (with_reducible refine Cs.other ?_ ?_ _; rotate_left; focus (first | assumption | omega | (simp; done) | (simp; omega))) | with_reducible refine Cs.keep ?_ (by assumption) | assumption)) hb1
        replace B1 : Cs w1 (w.heap.size + 1) #[.int .i64 0, .int .i64 0] := Cs.keep (by repeat (first | with_reducible assumption | (with_reducible refine Cs.new _ _ _ _ ?_; first | rfl | (simp; done)) | with_reducible refine Cs.alloc ?_ _ | with_reducible refine Cs.drewN ?_ _ | with_reducible refine Cs.drew ?_ | with_reducible refine Cs.set4 ?_ _ _ _ _ | (with_reducible refine Cs.other4 ?_ ?_ _ _ _ _; rotate_left; focus (first | assumption | omega | (simp; done) | (simp; omega))) | with_reducible refine Cs.set2 ?_ _ _ | (with_reducible refine Cs.other2 ?_ ?_ _ _; rotate_left; focus (first | assumption | omega | (simp; done) | (simp; omega))) | (with_reducible refine Cs.other ?_ ?_ _; rotate_left; focus (first | assumption | omega | (simp; done) | (simp; omega))) | with_reducible refine Cs.keep ?_ (by assumption) | assumption)) hb1
        replace hbw : Below w.heap.size w w1 := (by repeat (first | with_reducible exact Below.refl _ _ | with_reducible assumption | with_reducible refine balloc ?_ _ | with_reducible refine bdrewN ?_ _ | with_reducible refine Below.drew ?_ | (with_reducible refine bset ?_ ?_ _; rotate_left; focus (first | assumption | omega | (simp; done) | (simp; omega))) | with_reducible refine bstep ?_ (by assumption) | assumption))
        replace cB0 := B0.c
        replace fB0 := B0.f
        replace lB0 := B0.lt
        replace cB1 := B1.c
        replace fB1 := B1.f
        replace lB1 := B1.lt
        clear hb1
        go_wp2_with fail
        refine (k2 _).mono ?_
        rintro e w2 ⟨rfl, hb2⟩
        replace B0 : Cs w2 (w.heap.size) #[.int .i64 a, .int .i64 b, .int .i64 c, .int .i64 d] := Cs.keep (by repeat (first | with_reducible assumption | (with_reducible refine Cs.new _ _ _ _ ?_; first | rfl | (simp; done)) | with_reducible refine Cs.alloc ?_ _ | with_reducible refine Cs.drewN ?_ _ | with_reducible refine Cs.drew ?_ | with_reducible refine Cs.set4 ?_ _ _ _ _ | (with_reducible refine Cs.other4 ?_ ?_ _ _ _ _; rotate_left; focus (first | assumption | omega | (simp; done) | (simp; omega))) | with_reducible refine Cs.set2 ?_ _ _ | (with_reducible refine Cs.other2 ?_ ?_ _ _; rotate_left; focus (first | assumption | omega | (simp; done) | (simp; omega))) | (with_reducible refine Cs.other ?_ ?_ _; rotate_left; focus (first | assumption | omega | (simp; done) | (simp; omega))) | with_reducible refine Cs.keep ?_ (by assumption) | assumption)) hb2
        replace B1 : Cs w2 (w.heap.size + 1) #[.int .i64 0, .int .i64 0] := Cs.keep (by repeat (first | with_reducible assumption | (with_reducible refine Cs.new _ _ _ _ ?_; first | rfl | (simp; done)) | with_reducible refine Cs.alloc ?_ _ | with_reducible refine Cs.drewN ?_ _ | with_reducible refine Cs.drew ?_ | with_reducible refine Cs.set4 ?_ _ _ _ _ | (with_reducible refine Cs.other4 ?_ ?_ _ _ _ _; rotate_left; focus (first | assumption | omega | (simp; done) | (simp; omega))) | with_reducible refine Cs.set2 ?_ _ _ | (with_reducible refine Cs.other2 ?_ ?_ _ _; rotate_left; focus (first | assumption | omega | (simp; done) | (simp; omega))) | (with_reducible refine Cs.other ?_ ?_ _; rotate_left; focus (first | assumption | omega | (simp; done) | (simp; omega))) | with_reducible refine Cs.keep ?_ (by assumption) | assumption)) hb2
        replace hbw : Below w.heap.size w w2 := (by repeat (first | with_reducible exact Below.refl _ _ | with_reducible assumption | with_reducible refine balloc ?_ _ | with_reducible refine bdrewN ?_ _ | with_reducible refine Below.drew ?_ | (with_reducible refine bset ?_ ?_ _; rotate_left; focus (first | assumption | omega | (simp; done) | (simp; omega))) | with_reducible refine bstep ?_ (by assumption) | assumption))
        replace cB0 := B0.c
        replace fB0 := B0.f
        replace lB0 := B0.lt
        replace cB1 := B1.c
        replace fB1 := B1.f
        replace lB1 := B1.lt
        clear hb2
        go_wp2_with fail
        exact bodyPost_ret (v := .agg #[.int .i64 a, .int .i64 b]) (by simp [results, Tryd.results34, go_sem, cB0, fB0, lB0, cB1, fB1, lB1]) rfl ⟨rfl, (by repeat (first | with_reducible exact Below.refl _ _ | with_reducible assumption | with_reducible refine balloc ?_ _ | with_reducible refine bdrewN ?_ _ | with_reducible refine Below.drew ?_ | (with_reducible refine bset ?_ ?_ _; rotate_left; focus (first | assumption | omega | (simp; done) | (simp; omega))) | with_reducible refine bstep ?_ (by assumption) | assumption))⟩

end Go.Proofs.YtkjoamindolonaaDoor
