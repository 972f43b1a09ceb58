/- Walks of the reference of layer 1: Path. -/
import Derived.Test.YtkjoamindolonaaDoorRA4
import Derived.Test.YtkjoamindolonaaDoorUA15
namespace Go.Proofs.YtkjoamindolonaaDoor
open Go.RowKit Go.Shelf
set_option linter.unusedSimpArgs false
set_option linter.unusedVariables false
open Um (frac S4 spanB spanE eu)

theorem Cs.keepB {W w1 : World} {g B : Nat} {cs : Array Value} (h : Cs W g cs) (hb : Below B W w1) (hg : g < B) : Cs w1 g cs :=
  ⟨Nat.lt_of_lt_of_le h.1 hb.size, fun i => (hb.cell (p := ⟨g, i, none⟩) hg).trans (h.2.1 i), fun i => (hb.frozen (p := ⟨g, i, none⟩) hg).trans (h.2.2 i)⟩

theorem own_block {w : World} {base : Nat} {e : TypeId} {s : Nat} {v : Value} {n : Nat} {xs : List Value} (h : w.ownsRow base e s v n xs) : ∀ k, v.ownBlock = some k → base ≤ k := by
  intro k hk
  rcases h.2 with ⟨rfl, _⟩ | ⟨g, cap, cur, rfl, hB, _⟩
  · cases hk
  · injection hk with hk; rw [← hk]; exact hB

theorem own_other {w w' : World} {base : Nat} {e : TypeId} {s : Nat} {v : Value} {n : Nat} {xs : List Value} (h : w.ownsRow base e s v n xs) (hh : ∀ k, base ≤ k → w'.heap[k]? = w.heap[k]?) : w'.ownsRow base e s v n xs := by
  refine ⟨h.1, ?_⟩
  rcases h.2 with h2 | ⟨g, cap, cur, e1, hB, hg, rest⟩
  · exact Or.inl h2
  · exact Or.inr ⟨g, cap, cur, e1, hB, (hh g hB).trans hg, rest⟩

theorem own_set2 {w : World} {base : Nat} {e : TypeId} {s : Nat} {v : Value} {n : Nat} {xs : List Value} (h : w.ownsRow base e s v n xs) (g : Nat) (hg : g < base) (x y : Value) : ((w.setCell ⟨g, 0, none⟩ x).setCell ⟨g, 1, none⟩ y).ownsRow base e s v n xs :=
  own_other h (fun k hk => (Below.heap_setCell _ ⟨g, 1, none⟩ y k (by simp; omega)).trans (Below.heap_setCell _ ⟨g, 0, none⟩ x k (by simp; omega)))

theorem own_ints {w : World} {B n : Nat} {v : Value} {zs : List Int} (h : w.ownsRow B 2 1 v n (zs.map (Value.int .i64))) (hpos : 0 < n) : ∃ g c, v = .slice (some ⟨g, 0, none⟩) n c ∧ Ints w (some ⟨g, 0, none⟩) n zs := by
  obtain ⟨g, c, rfl, _, _⟩ := World.ownsRow.form h hpos
  exact ⟨g, c, rfl, Ints.of_own h⟩

/-- an append of one number to a row of the call's own -/
theorem list_own {ops : Array Oper} {rest : List Oper} {o : Oper} {a : Act} {w : World} {Q : Exit → Act → World → Prop}
    (hg : o.guard = none) (s x : Operand) (hop : o.op = Op.call { callee := Callee.builtin Builtin.append, args := #[s, x], argTypes := #[40, 40] })
    (B n : Nat) (v : Value) (xs : List Int) (hs : a.eval s = v) (hown : w.ownsRow B 2 1 v n (xs.map (Value.int .i64)))
    (b : Nat) (y : Int) (hx : a.eval x = .slice (some ⟨b, 0, none⟩) 1 1) (hy : w.cell? ⟨b, 0, none⟩ = some (.int .i64 y)) (hn : n ≤ 100000) (hB : B ≤ w.heap.size)
    (hK : ∀ g c w', w'.ownsRow B 2 1 (.slice (some ⟨g, 0, none⟩) (n + 1) c) (n + 1) ((xs ++ [y]).map (Value.int .i64)) → Below B w w' → wpList Tryd.prog ops Q rest (a.put o.dst (.slice (some ⟨g, 0, none⟩) (n + 1) c)) w') :
    wpList Tryd.prog ops Q (o :: rest) a w := by
  obtain ⟨i0, hi0, hz0, hz1, hz2⟩ := info_parts int_info
  refine wpList_append_own w hg s x 40 hop B 2 i0 (.int .i64 0) 1 8 Tryd.underlying40 hi0 hz0 hz1 hz2 rfl (by omega) v n (xs.map (Value.int .i64)) hs hown ⟨b, 0, none⟩ 1 1 [.int .i64 y] hx rfl ?_ (by simp [Value.oneCell']) (by unfold maxLen; omega) (by omega) hB ?_
  · intro j u hu
    have hj : j = 0 := by
      have := (List.getElem?_eq_some_iff.1 hu).1
      simp at this; exact this
    subst hj
    simp at hu
    rw [addr_add, ← hu]; exact hy
  · intro v' w' h1 h2 _
    obtain ⟨g, c, rfl, _, _⟩ := World.ownsRow.form h1 (by omega)
    refine hK g c w' (by rw [List.map_append]; exact h1) ((Below.refl B w).grown h2 hB (own_block hown))

set_option maxHeartbeats 1000000 in
theorem rpath_bad (n d : Int) (w : World) (h : frac n d = false) :
    Calls Tryd.prog 27 #[.agg #[.int .i64 n, .int .i64 d]] w (RetIntsE [] 2 w) := by
  have k1 := fun W => risFraction_any n d W
  rw [h] at k1
  clear h
  go_enter Tryd.func27, Tryd.ntmps27
  go_wp2_with fail
  refine (k1 _).mono ?_
  rintro e w1 ⟨rfl, hb1⟩
  replace hbw : Below w.heap.size w w1 := (by repeat (first | with_reducible exact Below.refl _ _ | with_reducible assumption | with_reducible refine balloc ?_ _ | with_reducible refine bdrewN ?_ _ | with_reducible refine Below.drew ?_ | (with_reducible refine bset ?_ ?_ _; rotate_left; focus (first | assumption | omega | (simp; done) | (simp; omega))) | with_reducible refine bstep ?_ (by assumption) | assumption))
  clear hb1
  go_wp2_with fail
  exact bodyPost_ret (v := .tuple #[.slice none 0 0, .int .i64 2]) (by simp [results, Tryd.results27, go_sem]) rfl ⟨none, 0, rfl, Ints.nil _ _, fun _ => ⟨rfl, rfl⟩, (by repeat (first | with_reducible exact Below.refl _ _ | with_reducible assumption | with_reducible refine balloc ?_ _ | with_reducible refine bdrewN ?_ _ | with_reducible refine Below.drew ?_ | (with_reducible refine bset ?_ ?_ _; rotate_left; focus (first | assumption | omega | (simp; done) | (simp; omega))) | with_reducible refine bstep ?_ (by assumption) | assumption))⟩

set_option maxRecDepth 10000 in
set_option maxHeartbeats 1000000 in
theorem rpath_ok (n d : Int) (w : World) (h : frac n d = true) :
    Calls Tryd.prog 27 #[.agg #[.int .i64 n, .int .i64 d]] w (RetIntsE (eu (d.toNat + 1) n d) 0 w) := by
  have k1 := fun W => risFraction_any n d W
  rw [h] at k1
  obtain ⟨n1, n2, d1, d2⟩ := Um.frac_bd h
  have hcan := Um.eu_canonical (d.toNat + 1) n d n1 d1 (Um.frac_gcd h) (by omega)
  have hev := Um.eu_ev (d.toNat + 1) n d (by omega) (by omega) (Um.frac_gcd h) (by omega)
  have hlen := Um.canon_len _ hcan (by rw [hev]; exact d2)
  have Hlen := Lib.hid hlen
  clear h hcan hev hlen
  obtain ⟨i0, hi0, hz0, hz1, hz2⟩ := info_parts int_info
  go_enter Tryd.func27, Tryd.ntmps27
  go_wp2_with fail
  refine (k1 _).mono ?_
  rintro e w1 ⟨rfl, hb1⟩
  replace B0 : Cs w1 (w.heap.size) #[.int .i64 n, .int .i64 d] := Cs.keep (by repeat (first | with_reducible assumption | (with_reducible refine Cs.new _ _ _ _ ?_; first | rfl | (simp; done)) | with_reducible refine Cs.alloc ?_ _ | with_reducible refine Cs.drewN ?_ _ | with_reducible refine Cs.drew ?_ | with_reducible refine Cs.set4 ?_ _ _ _ _ | (with_reducible refine Cs.other4 ?_ ?_ _ _ _ _; rotate_left; focus (first | assumption | omega | (simp; done) | (simp; omega))) | with_reducible refine Cs.set2 ?_ _ _ | (with_reducible refine Cs.other2 ?_ ?_ _ _; rotate_left; focus (first | assumption | omega | (simp; done) | (simp; omega))) | (with_reducible refine Cs.other ?_ ?_ _; rotate_left; focus (first | assumption | omega | (simp; done) | (simp; omega))) | with_reducible refine Cs.keep ?_ (by assumption) | assumption)) hb1
  replace hbw : Below w.heap.size w w1 := (by repeat (first | with_reducible exact Below.refl _ _ | with_reducible assumption | with_reducible refine balloc ?_ _ | with_reducible refine bdrewN ?_ _ | with_reducible refine Below.drew ?_ | (with_reducible refine bset ?_ ?_ _; rotate_left; focus (first | assumption | omega | (simp; done) | (simp; omega))) | with_reducible refine bstep ?_ (by assumption) | assumption))
  replace cB0 := B0.c
  replace fB0 := B0.f
  replace lB0 := B0.lt
  clear hb1
  clear k1 cB0 fB0 lB0
  go_wp2_with fail
  go_loopw [4] (fun v wr => ∃ (x y : Int) (l : List Int), Hid (eu (d.toNat + 1) n d = l ++ eu (d.toNat + 1 - l.length) x y) ∧ 0 ≤ x ∧ x ≤ 1000000000 ∧ 1 ≤ y ∧ y ≤ 1000000000 ∧ y < (d.toNat + 1 - l.length : Nat) ∧ lenOf v = l.length ∧ wr.ownsRow (w.heap.size + 1) 2 1 v l.length (l.map (Value.int .i64)) ∧ Cs wr w.heap.size #[.int .i64 x, .int .i64 y] ∧ Below w.heap.size w wr) (fun v _ => 60 - lenOf v)
  case atStart => exact ⟨n, d, [], Lib.hid rfl, by omega, n2, d1, d2, by simp; omega, rfl, ⟨rfl, Or.inl ⟨rfl, rfl⟩⟩, B0, hbw⟩
  case round =>
    clear B0 hbw
    obtain ⟨x, y, l, Heq, x1, x2, y1, y2, hy, hlv, hown, B0, hbw⟩ := hrel
    have e0 : (y == 0) = false := by simp; omega
    have f3 : x.tmod y = x % y := Int.tmod_eq_emod_of_nonneg (by omega)
    have f4 : x.tdiv y = x / y := Int.tdiv_eq_ediv_of_nonneg (by omega)
    have r1 := Int.emod_nonneg x (b := y) (by omega)
    have r2 := Int.emod_lt_of_pos x (b := y) (by omega)
    have d1' : 0 ≤ x / y := Int.ediv_nonneg (by omega) (by omega)
    have d2' : x / y ≤ x := Int.ediv_le_self _ (by omega)
    have f5 : IntKind.i64.wrap (x / y) = x / y := IntWalk.i64_in _ (by omega)
    have f6 : IntKind.i64.wrap (x % y) = x % y := IntWalk.i64_in _ (by omega)
    have hsplit : d.toNat + 1 - l.length = (d.toNat + 1 - (l.length + 1)) + 1 := by omega
    have Heq2 : Hid (eu (d.toNat + 1) n d = (l ++ [x / y]) ++ eu (d.toNat + 1 - (l.length + 1)) y (x % y)) := by
      refine Lib.hid (Heq.out.trans ?_)
      rw [hsplit, eu, if_neg (by omega)]
      simp
    have hq60 : l.length < 60 := by
      have := Hlen.out
      rw [Heq2.out] at this
      simp at this
      omega
    have Hlv := Lib.hid hlv
    clear hsplit Heq hlv
    have cB0 := B0.c
    have fB0 := B0.f
    have lB0 := B0.lt
    have hlt0 := B0.lt
    by_cases hm : x % y = 0
    · have g1 : (x % y == 0) = true := by simp [hm]
      have he : Hid (eu (d.toNat + 1) n d = l ++ [x / y]) := Lib.hid (by rw [Heq2.out, hm, Um.eu_zero]; simp)
      clear hm Heq2 Hlv
      go_wp2_with (at_builtin; (refine list_own rfl _ _ rfl (w.heap.size + 1) _ _ l rfl (hown.alloc _) wr.heap.size (x / y) rfl (by simp) (by omega) (by have := B0.lt; simp; omega) ?_; intro gr cr w1 hown1 hb1; have hb2 : Below w.heap.size w w1 := (balloc hbw _).trans (hb1.mono (by omega)); have B1 : Cs w1 w.heap.size #[.int .i64 x, .int .i64 y] := (B0.alloc _).keepB hb1 (by omega); have cB1 := B1.c; have fB1 := B1.f; have lB1 := B1.lt))
      have Hn : Hid (RetIntsE (eu (d.toNat + 1) n d) 0 w (.returned (.tuple #[.slice (some ⟨gr, 0, none⟩) (l.length + 1) cr, .int .i64 0])) w1) := Lib.hid (by
        rw [he.out]
        obtain ⟨g2, c2, e1, e2⟩ := own_ints hown1 (by omega)
        injection e1 with e3 e4 e5
        rw [← e3] at e2
        exact ⟨some ⟨gr, 0, none⟩, cr, by simp, by simpa using e2, by simp, hb2⟩)
      exact bodyPost_ret (v := .tuple #[.slice (some ⟨gr, 0, none⟩) (l.length + 1) cr, .int .i64 0]) (by simp [results, Tryd.results27, go_sem]) rfl Hn.out
    · have g1 : (x % y == 0) = false := by simp [hm]
      have hy2 : 1 ≤ x % y := by omega
      clear hm
      go_wp2_with (at_builtin; (refine list_own rfl _ _ rfl (w.heap.size + 1) _ _ l rfl (hown.alloc _) wr.heap.size (x / y) rfl (by simp) (by omega) (by have := B0.lt; simp; omega) ?_; intro gr cr w1 hown1 hb1; have hb2 : Below w.heap.size w w1 := (balloc hbw _).trans (hb1.mono (by omega)); have B1 : Cs w1 w.heap.size #[.int .i64 x, .int .i64 y] := (B0.alloc _).keepB hb1 (by omega); have cB1 := B1.c; have fB1 := B1.f; have lB1 := B1.lt))
      go_region
      go_wp2_with fail
      go_roundw
      case rel =>
        refine ⟨y, x % y, l ++ [x / y], Lib.hid (by rw [List.length_append]; exact Heq2.out), by omega, by omega, by omega, by omega, by simp; omega, by simp [lenOf], ?_, ?_, ?_⟩
        · rw [List.length_append]
          have o2 := own_set2 hown1 w.heap.size (by omega) (.int .i64 y) (.int .i64 (x % y))
          exact own_other o2 (fun k _ => rfl)
        · first | exact B1.set2 _ _ | exact (B1.set2 _ _).drew
        · first | exact bset2 hb2 (Nat.le_refl _) _ _ | exact (bset2 hb2 (Nat.le_refl _) _ _).drew
      case measure => have := Hlv.out; simp [lenOf] at this ⊢; omega

end Go.Proofs.YtkjoamindolonaaDoor
