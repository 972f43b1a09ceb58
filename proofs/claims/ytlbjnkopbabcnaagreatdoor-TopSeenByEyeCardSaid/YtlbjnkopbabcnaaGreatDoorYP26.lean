/- PG2 -/
import Derived.Test.YtlbjnkopbabcnaaGreatDoorYP23
import Derived.ArgAppend
import Derived.Laws.OwnMore
import Derived.OneCell
/- An append to a slice that is cut to its length: it always lays a new row. -/
section
namespace Go.Proofs.YtlbjnkopbabcnaaGreatDoor
open Go.RowKit Go.Shelf
set_option linter.unusedSimpArgs false
set_option linter.unusedVariables false

/-- the low ends -/
def fstL (zs : List (Int × Int)) : List Int := zs.map (·.1)
theorem fstL_get {zs : List (Int × Int)} {b : Nat} (hb : b < zs.length) : (fstL zs).getD b 0 = (rgA zs b).1 := by
  unfold fstL rgA
  rw [List.getD_eq_getElem?_getD, List.getD_eq_getElem?_getD, List.getElem?_map, List.getElem?_eq_getElem hb]
  rfl
theorem fstL_take {zs : List (Int × Int)} {i : Nat} {x : Int} (hi : i < zs.length) (hx : (rgA zs i).1 = x) : ((fstL zs).take (i + 1)).map (Value.int .i64) = ((fstL zs).take i).map (Value.int .i64) ++ [.int .i64 x] := by
  have h : (fstL zs)[i]? = some x := by
    rw [← hx]
    unfold fstL rgA
    rw [List.getElem?_map, List.getD_eq_getElem?_getD, List.getElem?_eq_getElem hi]
    rfl
  rw [List.take_add_one, h]
  simp
theorem own_rebase {w : World} {B B' : Nat} {e : TypeId} {s : Nat} {v : Value} {n : Nat} {xs : List Value} (h : w.ownsRow B' e s v n xs) (hB : B ≤ B') : w.ownsRow B e s v n xs := by
  refine ⟨h.1, ?_⟩
  rcases h.2 with h2 | ⟨g, cap, cur, rfl, hb, rest⟩
  · exact .inl h2
  · exact .inr ⟨g, cap, cur, rfl, by omega, rest⟩
/-- an append to a row of the call's own, cut to its length -/
theorem app_full {T e : TypeId} {z : Value} {s by_ : Nat} (hT : ElemT T e z s by_) {V : World} {B n c : Nat} {o : Option Addr} {xs news : List Value} (hL : V.ownsRow B e s (.slice o n c) n xs)
    {b : Nat} {t : TypeId} {fr : Nat × Nat} (hg : V.heap[b]? = some (.cells ⟨news⟩ t fr)) (hl : news.length = s) (h1 : ∀ x ∈ news, x.oneCell' = true) (hn : n ≤ 5000) (hB : B ≤ V.heap.size) (ty : TypeId) :
    ∃ g c' V', (Builtin.append_ #[T, T] ty #[.slice o n n, .slice (some ⟨b, 0, none⟩) 1 1]).run Tryz.prog V = .ok (.slice (some ⟨g, 0, none⟩) (n + 1) c') V' ∧ V'.ownsRow B e s (.slice (some ⟨g, 0, none⟩) (n + 1) c') (n + 1) (xs ++ news) ∧ V.heap.size ≤ g ∧ V.grownBy V' none := by
  obtain ⟨hu, hinf, hzc, hs0, hby⟩ := hT
  obtain ⟨i0, hi0, hzz⟩ := Option.map_eq_some_iff.1 hinf
  simp only [Prod.mk.injEq] at hzz
  obtain ⟨hz0, hz1, hz2⟩ := hzz
  have hnews : ∀ j x, news[j]? = some x → V.cell? ((⟨b, 0, none⟩ : Addr).add j) = some x := by
    intro j x hj
    rw [Go.WideShapes.add_plain, Nat.zero_add]
    rw [cell_of_row V b j _ t fr hg]
    simpa using hj
  have hbb : (n + 1) * by_ ≤ 6000 * 32 := Nat.mul_le_mul (by omega) hby
  have fin : ∀ (v' : Value) (w' : World), (w'.ownsRow V.heap.size e s v' (n + 1) (xs ++ news)) → ∃ g c', v' = Value.slice (some ⟨g, 0, none⟩) (n + 1) c' ∧ V.heap.size ≤ g := fun v' w' ho => by
    rcases ho.2 with ⟨_, h0⟩ | ⟨g', c', cur', rfl, hb, _⟩
    · omega
    · exact ⟨g', c', rfl, hb⟩
  rcases hL.2 with ⟨e1, h0⟩ | ⟨g, cap, cur, e1, hb, hgg, hnc, hcm, hcs, htake⟩
  · injection e1 with e1 e2 e3
    subst e1 e2 e3
    obtain ⟨v', w', hr, ho, hgr, -⟩ := run_append_own (P := Tryz.prog) V V.heap.size T ty e i0 z s by_ hu hi0 hz0 hz1 hz2 hzc hs0 (.slice none 0 0) 0 xs ⟨hL.1, .inl ⟨rfl, rfl⟩⟩ ⟨b, 0, none⟩ 1 1 news (by omega) hnews h1 (by unfold maxLen; omega) (by omega) (Nat.le_refl _)
    obtain ⟨g', c', rfl, hge⟩ := fin v' w' ho
    exact ⟨g', c', w', hr, own_rebase ho hB, hge, hgr⟩
  · injection e1 with e1 e2 e3
    subst e1 e3
    obtain ⟨v', w', hr, ho, hgr⟩ := run_append_arg_grows (P := Tryz.prog) V T ty e i0 z s by_ hu hi0 hz0 hz1 hz2 hzc hs0 ⟨g, 0, none⟩ n n xs hL.1 (hL.cells rfl) ⟨b, 0, none⟩ 1 1 news (by omega) hnews (by omega) (by unfold maxLen; omega) (by omega)
    obtain ⟨g', c', rfl, hge⟩ := fin v' w' ho
    exact ⟨g', c', w', hr, own_rebase ho hB, hge, hgr⟩

set_option maxRecDepth 100000 in
set_option maxHeartbeats 8000000 in
/-- the low ends, in a row of the call's own -/
theorem lows_any (A : Option Addr) (n c : Nat) (zs : List (Int × Int)) (w : World) (hz : Prs w A n zs) (hn8 : n ≤ 8) :
    Calls Tryz.prog 79 #[.slice A n c] w fun e w' => ∃ o c', e = .returned (.slice o n c') ∧ w'.ownsRow w.heap.size 2 1 (.slice o n c') n ((fstL zs).map (Value.int .i64)) ∧ Below w.heap.size w w' := by
  have hzl := hz.1
  have Hz := Lib.hid hz
  clear hz
  go_enter Tryz.func79, Tryz.ntmps79
  go_wp2_with fail
  go_loopw [3, 8] (fun s3 s8 wx => ∃ (i : Nat) (o : Option Addr) (c' : Nat) (W : World), i ≤ n ∧ s3 = .slice o i c' ∧ s8 = .int .i64 (i : Nat) ∧ Hid (W = wx) ∧ Hid (W.ownsRow w.heap.size 2 1 (.slice o i c') i (((fstL zs).take i).map (Value.int .i64))) ∧ Hid (Below w.heap.size w W)) (fun _ s8 _ => n - (intOf s8).toNat)
  case atStart => exact ⟨0, none, 0, _, Nat.zero_le _, rfl, rfl, Lib.hid rfl, Lib.hid (World.ownsRow_nil _ _ _ _), Lib.hid (Below.refl _ _)⟩
  case round =>
    obtain ⟨i, o, c', W, hi, rfl, rfl, HW, HO, HB⟩ := hrel
    obtain rfl := HW.out
    clear HW
    by_cases hin : i < n
    · obtain ⟨b, off, rfl, hlt, q0, q1⟩ := Hz.out.atA HB.out hin
      obtain ⟨x, hx⟩ : ∃ x, (rgA zs i).1 = x := ⟨_, rfl⟩
      obtain ⟨y, hy⟩ : ∃ y, (rgA zs i).2 = y := ⟨_, rfl⟩
      rw [hx] at q0
      rw [hy] at q1
      have Hx := Lib.hid hx
      have hii : (i : Int) < (n : Int) := by omega
      clear hx hy
      go_wp2_with fail
      have BR : Cs (W.alloc (.cells #[.int .i64 x, .int .i64 y] 41)) W.heap.size #[.int .i64 x, .int .i64 y] := csA
      have hbX : Below W.heap.size W (W.alloc (.cells #[.int .i64 x, .int .i64 y] 41)) := blA
      have hgt : W.heap.size < (W.alloc (.cells #[.int .i64 x, .int .i64 y] 41)).heap.size := by simp
      have hO1 := own_keep HO.out hbX
      have hB1 := HB.out.trans (hbX.mono HB.out.size)
      have hc : (i : Int) ≤ (c' : Int) := by
        rcases HO.out.2 with ⟨e1, -⟩ | ⟨g, cap, cur, e1, -, -, h3, -⟩
        · injection e1 with e1 e2 e3; omega
        · injection e1 with e1 e2 e3; omega
      have hO0 : o = none → i = 0 ∧ c' = 0 := fun e => by
        rcases HO.out.2 with ⟨e1, -⟩ | ⟨g, cap, cur, e1, -, -, h3, -⟩
        · injection e1 with e1 e2 e3; exact ⟨e2, e3⟩
        · rw [e] at e1; injection e1 with e1; cases e1
      have hi0 : (0 : Int) ≤ (i : Int) := by omega
      have lR : w.heap.size ≤ W.heap.size := HB.out.size
      have Hgt := Lib.hid hgt
      clear hbX q0 q1 HO HB hgt
      generalize W.heap.size = R at *
      generalize (W.alloc (.cells #[.int .i64 x, .int .i64 y] 41)) = W1 at *
      have HStep : Hid (∀ v, (∃ g c9, v = Value.slice (some ⟨g, 0, none⟩) (i + 1) c9) → ∃ o9 c9, v = Value.slice o9 (i + 1) c9) := Lib.hid fun v ⟨g, c9, e⟩ => ⟨_, _, e⟩
      rcases o with - | ⟨og⟩
      all_goals (
        (try (obtain ⟨rfl, rfl⟩ := hO0 rfl))
        refine wp_region_tree (S := fun U : World => U.cell? ⟨R, 0, none⟩ = some (.int .i64 x)) (.t 0 1 (.t 1 3 (.t 2 7 (.t 3 15 (.t 4 31 (.t 5 63 (.t 6 127 (.t 7 255 (.o 8 511 (.o 9 1023 (.t 10 2047 .nil))))))))))) (by kernel_rfl) (by kernel_rfl) (by as_aux_lemma => kernel_rfl) (by kernel_rfl) (fun c a d v w h => by cases d <;> exact h) (by simpa using BR.c 0) (fun hHeld => ?_)
        clear hHeld
        iterate 8 (refine tree_take (v := ?_) rfl (by rfl) ?_ ?_; rotate_left; (focus (intro w9 hSw; (go_simp <;> with_reducible rfl))); try simp only [Act.put, List.setIfInBounds_toArray, List.set_cons_zero, List.set_cons_succ])
        refine tree_one rfl (fun K9 hS9 => ?_)
        go_simp
        obtain ⟨X, hX⟩ : ∃ X, (W1.alloc (.cells #[.int .i64 x] 2)).drew = X := ⟨_, rfl⟩
        have CR : X.heap[W1.heap.size]? = some (.cells ⟨[.int .i64 x]⟩ 2 (0, 0)) := by rw [← hX]; exact heap_alloc_new W1 _
        have hal : Below W1.heap.size W1 X := by rw [← hX]; exact Below.drew (balloc (Below.refl _ _) _)
        have p1 := own_keep hO1 hal
        have hB2 := hB1.trans (hal.mono hB1.size)
        have cS := (BR.keep hal).c 0
        have hB9 := hB2.size
        rw [hX]
        refine hS9.out _ _ (by simpa using cS) (fun _ => ?_)
        clear hS9 K9 hal hX hO1 hB1 BR
        generalize W1.heap.size = b1 at *
        try simp only [Act.put, List.setIfInBounds_toArray, List.set_cons_zero, List.set_cons_succ]
        obtain ⟨g, c9, X3, hrun, r1, r2, r3⟩ := app_full elI64 p1 CR rfl (by intro u hu; simp at hu; subst hu; rfl) (by omega) hB9 30
        have qS := r3.cell cS (by simp)
        have hB3 := Lib.hid (hB2.trans (below_grewB r3 (fun g e => by cases e) hB9))
        have hR3 := Lib.hid r1
        refine tree_app rfl rfl rfl rfl rfl hrun (by simpa using qS) ?_
        clear hrun p1 CR hB2 cS hB9 r1 r3 qS
        try simp only [Act.put, List.setIfInBounds_toArray, List.set_cons_zero, List.set_cons_succ]
        iterate 1 (refine tree_take (v := ?_) rfl (by rfl) ?_ ?_; rotate_left; (focus (intro w9 hSw; (go_simp <;> with_reducible rfl))); try simp only [Act.put, List.setIfInBounds_toArray, List.set_cons_zero, List.set_cons_succ])
        refine tree_done (fun U => X3 = U) rfl (fun U hU => ?_)
        subst hU
        have hR4 := hR3.out
        rw [← fstL_take (by omega) Hx.out] at hR4
        have HR4 := Lib.hid hR4
        clear hR4 hR3
        go_wp2_with fail
        go_roundw
        case rel => exact ⟨_ + 1, some ⟨g, 0, none⟩, c9, _, by omega, rfl, by go_num, Lib.hid rfl, HR4, hB3⟩
        case measure => simp [intOf]; omega)
    · obtain rfl : n = i := by omega
      have hO1 := HO.out
      rw [List.take_of_length_le (by unfold fstL; simp; omega)] at hO1
      have HO1 := Lib.hid hO1
      clear hO1 HO
      go_wp2_with fail
      go_ret
      exact ⟨_, _, rfl, HO1.out, HB.out⟩
end Go.Proofs.YtlbjnkopbabcnaaGreatDoor
end
