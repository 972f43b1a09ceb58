/- The walk of what package unit's Next hands on, and of the least one of some. -/
import Derived.Test.YtkjoamindolonaaDoorUA12
namespace Go.Proofs.YtkjoamindolonaaDoor
open Go.RowKit Go.Shelf
set_option linter.unusedSimpArgs false
set_option linter.unusedVariables false

/-- how two fractions compare -/
def cmpR (x y : Int × Int) : Int := if x.1 * y.2 < y.1 * x.2 then -1 else if y.1 * x.2 < x.1 * y.2 then 1 else 0
/-- the least one of some, the first one of them -/
def minR : Int × Int → List (Int × Int) → Int × Int
  | m, [] => m
  | m, x :: l => minR (if x.1 * m.2 < m.1 * x.2 then x else m) l

theorem cmpR_lt (x y : Int × Int) : (cmpR x y < 0) ↔ x.1 * y.2 < y.1 * x.2 := by
  unfold cmpR
  split
  · simp_all
  · split <;> simp_all <;> omega

set_option maxHeartbeats 1000000 in
theorem nextC_any (a b c d : Int) (w : World) (ha : 0 ≤ a) (hb : 0 ≤ b) (hc : 0 ≤ c) (hd : 0 ≤ d) (hA : a ≤ 2000000000) (hB : b ≤ 2000000000) (hC : c ≤ 2000000000) (hD : d ≤ 2000000000) :
    Calls Tryd.prog 62 #[.agg #[.int .i64 a, .int .i64 b], .agg #[.int .i64 c, .int .i64 d]] w fun e w' => e = .returned (.int .i64 (cmpR (a, b) (c, d))) ∧ Below w.heap.size w w' := by
  have k1 := fun W => less_any a b c d W ha hb hc hd hA hB hC hD
  have k2 := fun W => less_any c d a b W hc hd ha hb hC hD hA hB
  by_cases h1 : a * d < c * b
  · have e : cmpR (a, b) (c, d) = -1 := by rw [cmpR, if_pos h1]
    rw [e]
    rw [decide_eq_true h1] at k1
    clear h1 e k2
    go_enter Tryd.func62, Tryd.ntmps62
    go_wp2_with fail
    refine (k1 _).mono ?_
    rintro e w1 ⟨rfl, hb1⟩
    go_wp2_with fail
    go_ret
    exact ⟨rfl, (by repeat (first | with_reducible exact Below.refl _ _ | with_reducible assumption | with_reducible refine balloc ?_ _ | with_reducible refine bdrewN ?_ _ | with_reducible refine Below.drew ?_ | (with_reducible refine bset ?_ ?_ _; rotate_left; focus (first | assumption | omega | (simp; done) | (simp; omega))) | with_reducible refine bstep ?_ (by assumption) | assumption))⟩
  · rw [decide_eq_false h1] at k1
    by_cases h2 : c * b < a * d
    · have e : cmpR (a, b) (c, d) = 1 := by rw [cmpR, if_neg h1, if_pos h2]
      rw [e]
      rw [decide_eq_true h2] at k2
      clear h1 h2 e
      go_enter Tryd.func62, Tryd.ntmps62
      go_wp2_with fail
      refine (k1 _).mono ?_
      rintro e w1 ⟨rfl, hb1⟩
      have B0 : Cs w1 (w.heap.size) #[.int .i64 a, .int .i64 b] := Cs.keep (by repeat (first | with_reducible assumption | (with_reducible refine Cs.new _ _ _ _ ?_; first | rfl | (simp; done)) | with_reducible refine Cs.alloc ?_ _ | with_reducible refine Cs.drewN ?_ _ | with_reducible refine Cs.drew ?_ | with_reducible refine Cs.set4 ?_ _ _ _ _ | (with_reducible refine Cs.other4 ?_ ?_ _ _ _ _; rotate_left; focus (first | assumption | omega | (simp; done) | (simp; omega))) | with_reducible refine Cs.set2 ?_ _ _ | (with_reducible refine Cs.other2 ?_ ?_ _ _; rotate_left; focus (first | assumption | omega | (simp; done) | (simp; omega))) | (with_reducible refine Cs.other ?_ ?_ _; rotate_left; focus (first | assumption | omega | (simp; done) | (simp; omega))) | with_reducible refine Cs.keep ?_ (by assumption) | assumption)) hb1
      have B1 : Cs w1 (w.heap.size + 1) #[.int .i64 c, .int .i64 d] := Cs.keep (by repeat (first | with_reducible assumption | (with_reducible refine Cs.new _ _ _ _ ?_; first | rfl | (simp; done)) | with_reducible refine Cs.alloc ?_ _ | with_reducible refine Cs.drewN ?_ _ | with_reducible refine Cs.drew ?_ | with_reducible refine Cs.set4 ?_ _ _ _ _ | (with_reducible refine Cs.other4 ?_ ?_ _ _ _ _; rotate_left; focus (first | assumption | omega | (simp; done) | (simp; omega))) | with_reducible refine Cs.set2 ?_ _ _ | (with_reducible refine Cs.other2 ?_ ?_ _ _; rotate_left; focus (first | assumption | omega | (simp; done) | (simp; omega))) | (with_reducible refine Cs.other ?_ ?_ _; rotate_left; focus (first | assumption | omega | (simp; done) | (simp; omega))) | with_reducible refine Cs.keep ?_ (by assumption) | assumption)) hb1
      have hbw1 : Below w.heap.size w w1 := (by repeat (first | with_reducible exact Below.refl _ _ | with_reducible assumption | with_reducible refine balloc ?_ _ | with_reducible refine bdrewN ?_ _ | with_reducible refine Below.drew ?_ | (with_reducible refine bset ?_ ?_ _; rotate_left; focus (first | assumption | omega | (simp; done) | (simp; omega))) | with_reducible refine bstep ?_ (by assumption) | assumption))
      have cB0 := B0.c
      have fB0 := B0.f
      have lB0 := B0.lt
      have cB1 := B1.c
      have fB1 := B1.f
      have lB1 := B1.lt
      go_wp2_with fail
      refine (k2 _).mono ?_
      rintro e w2 ⟨rfl, hb2⟩
      clear cB0 fB0 lB0 cB1 fB1 lB1
      go_wp2_with fail
      go_ret
      exact ⟨rfl, (by repeat (first | with_reducible exact Below.refl _ _ | with_reducible assumption | with_reducible refine balloc ?_ _ | with_reducible refine bdrewN ?_ _ | with_reducible refine Below.drew ?_ | (with_reducible refine bset ?_ ?_ _; rotate_left; focus (first | assumption | omega | (simp; done) | (simp; omega))) | with_reducible refine bstep ?_ (by assumption) | assumption))⟩
    · have e : cmpR (a, b) (c, d) = 0 := by rw [cmpR, if_neg h1, if_neg h2]
      rw [e]
      rw [decide_eq_false h2] at k2
      clear h1 h2 e
      go_enter Tryd.func62, Tryd.ntmps62
      go_wp2_with fail
      refine (k1 _).mono ?_
      rintro e w1 ⟨rfl, hb1⟩
      have B0 : Cs w1 (w.heap.size) #[.int .i64 a, .int .i64 b] := Cs.keep (by repeat (first | with_reducible assumption | (with_reducible refine Cs.new _ _ _ _ ?_; first | rfl | (simp; done)) | with_reducible refine Cs.alloc ?_ _ | with_reducible refine Cs.drewN ?_ _ | with_reducible refine Cs.drew ?_ | with_reducible refine Cs.set4 ?_ _ _ _ _ | (with_reducible refine Cs.other4 ?_ ?_ _ _ _ _; rotate_left; focus (first | assumption | omega | (simp; done) | (simp; omega))) | with_reducible refine Cs.set2 ?_ _ _ | (with_reducible refine Cs.other2 ?_ ?_ _ _; rotate_left; focus (first | assumption | omega | (simp; done) | (simp; omega))) | (with_reducible refine Cs.other ?_ ?_ _; rotate_left; focus (first | assumption | omega | (simp; done) | (simp; omega))) | with_reducible refine Cs.keep ?_ (by assumption) | assumption)) hb1
      have B1 : Cs w1 (w.heap.size + 1) #[.int .i64 c, .int .i64 d] := Cs.keep (by repeat (first | with_reducible assumption | (with_reducible refine Cs.new _ _ _ _ ?_; first | rfl | (simp; done)) | with_reducible refine Cs.alloc ?_ _ | with_reducible refine Cs.drewN ?_ _ | with_reducible refine Cs.drew ?_ | with_reducible refine Cs.set4 ?_ _ _ _ _ | (with_reducible refine Cs.other4 ?_ ?_ _ _ _ _; rotate_left; focus (first | assumption | omega | (simp; done) | (simp; omega))) | with_reducible refine Cs.set2 ?_ _ _ | (with_reducible refine Cs.other2 ?_ ?_ _ _; rotate_left; focus (first | assumption | omega | (simp; done) | (simp; omega))) | (with_reducible refine Cs.other ?_ ?_ _; rotate_left; focus (first | assumption | omega | (simp; done) | (simp; omega))) | with_reducible refine Cs.keep ?_ (by assumption) | assumption)) hb1
      have hbw1 : Below w.heap.size w w1 := (by repeat (first | with_reducible exact Below.refl _ _ | with_reducible assumption | with_reducible refine balloc ?_ _ | with_reducible refine bdrewN ?_ _ | with_reducible refine Below.drew ?_ | (with_reducible refine bset ?_ ?_ _; rotate_left; focus (first | assumption | omega | (simp; done) | (simp; omega))) | with_reducible refine bstep ?_ (by assumption) | assumption))
      have cB0 := B0.c
      have fB0 := B0.f
      have lB0 := B0.lt
      have cB1 := B1.c
      have fB1 := B1.f
      have lB1 := B1.lt
      go_wp2_with fail
      refine (k2 _).mono ?_
      rintro e w2 ⟨rfl, hb2⟩
      clear cB0 fB0 lB0 cB1 fB1 lB1
      go_wp2_with fail
      go_ret
      exact ⟨rfl, (by repeat (first | with_reducible exact Below.refl _ _ | with_reducible assumption | with_reducible refine balloc ?_ _ | with_reducible refine bdrewN ?_ _ | with_reducible refine Below.drew ?_ | (with_reducible refine bset ?_ ?_ _; rotate_left; focus (first | assumption | omega | (simp; done) | (simp; omega))) | with_reducible refine bstep ?_ (by assumption) | assumption))⟩

set_option maxHeartbeats 1000000 in
theorem minFunc_any (A : Option Addr) (n c g : Nat) (zs : List (Int × Int)) (lb : Array Value) (w : World) (eg : ∀ args w, (callFunc g args).run Tryd.prog w = .ok (.enter g args) w)
    (hz : Rats w A n zs) (hn : n ≤ 9223372036854775807) (h1 : 1 ≤ n) (R : Int × Int → Prop) (hR : ∀ x ∈ zs, R x)
    (hp : ∀ x y, R x → R y → ∀ W, Below w.heap.size w W → Calls Tryd.prog g (#[.agg #[.int .i64 x.1, .int .i64 x.2], .agg #[.int .i64 y.1, .int .i64 y.2]] ++ lb) W fun e W' => e = .returned (.int .i64 (cmpR x y)) ∧ Below W.heap.size W W') :
    Calls Tryd.prog 61 #[.slice A n c, .func (.func g) #[] lb] w fun e w' => e = .returned (.agg #[.int .i64 (minR (zs.getD 0 (0, 0)) (zs.drop 1)).1, .int .i64 (minR (zs.getD 0 (0, 0)) (zs.drop 1)).2]) ∧ Below w.heap.size w w' := by
  have Hz := Lib.hid hz
  have Hp := Lib.hid hp
  have HR := Lib.hid hR
  obtain ⟨b, off, rfl, hlt, hc⟩ := hz.2 h1
  have Hc := Lib.hid hc
  have c0 : w.cell? ⟨b, off, none⟩ = some (.int .i64 (zs.getD 0 (0, 0)).1) := by simpa using (hc 0 h1).1
  have c1 : w.cell? ⟨b, off + 1, none⟩ = some (.int .i64 (zs.getD 0 (0, 0)).2) := by simpa using (hc 0 h1).2
  have hi0 : (1 : Int) ≤ (n : Int) := by omega
  have hi1 : ¬ (n : Int) < 1 := by omega
  have hi2 : 0 < n := by omega
  clear hz hp hR hc
  generalize hm0 : zs.getD 0 (0, 0) = m0 at *
  have Hm0 := Lib.hid hm0
  clear hm0
  obtain ⟨m1, m2⟩ := m0
  dsimp only at c0 c1
  go_enter Tryd.func61, Tryd.ntmps61
  go_wp2_with fail
  go_loopw [6] (fun i wr => ∃ (k : Nat) (p q : Int), 1 ≤ k ∧ k ≤ n ∧ i = .int .i64 k ∧ R (p, q) ∧ Hid (minR (m1, m2) (zs.drop 1) = minR (p, q) (zs.drop k)) ∧ Cs wr w.heap.size #[.int .i64 0, .int .i64 0] ∧ Cs wr (w.heap.size + 1) #[.int .i64 p, .int .i64 q] ∧ Below w.heap.size w wr) (fun i _ => n - (intOf i).toNat)
  case atStart =>
    refine ⟨1, m1, m2, Nat.le_refl _, h1, rfl, HR.out _ ?_, rfl, (by repeat (first | with_reducible assumption | (with_reducible refine Cs.new _ _ _ _ ?_; first | rfl | (simp; done)) | with_reducible refine Cs.alloc ?_ _ | with_reducible refine Cs.drewN ?_ _ | with_reducible refine Cs.drew ?_ | with_reducible refine Cs.set4 ?_ _ _ _ _ | (with_reducible refine Cs.other4 ?_ ?_ _ _ _ _; rotate_left; focus (first | assumption | omega | (simp; done) | (simp; omega))) | with_reducible refine Cs.set2 ?_ _ _ | (with_reducible refine Cs.other2 ?_ ?_ _ _; rotate_left; focus (first | assumption | omega | (simp; done) | (simp; omega))) | (with_reducible refine Cs.other ?_ ?_ _; rotate_left; focus (first | assumption | omega | (simp; done) | (simp; omega))) | with_reducible refine Cs.keep ?_ (by assumption) | assumption)), (by repeat (first | with_reducible assumption | (with_reducible refine Cs.new _ _ _ _ ?_; first | rfl | (simp; done)) | with_reducible refine Cs.alloc ?_ _ | with_reducible refine Cs.drewN ?_ _ | with_reducible refine Cs.drew ?_ | with_reducible refine Cs.set4 ?_ _ _ _ _ | (with_reducible refine Cs.other4 ?_ ?_ _ _ _ _; rotate_left; focus (first | assumption | omega | (simp; done) | (simp; omega))) | with_reducible refine Cs.set2 ?_ _ _ | (with_reducible refine Cs.other2 ?_ ?_ _ _; rotate_left; focus (first | assumption | omega | (simp; done) | (simp; omega))) | (with_reducible refine Cs.other ?_ ?_ _; rotate_left; focus (first | assumption | omega | (simp; done) | (simp; omega))) | with_reducible refine Cs.keep ?_ (by assumption) | assumption)), (by repeat (first | with_reducible exact Below.refl _ _ | with_reducible assumption | with_reducible refine balloc ?_ _ | with_reducible refine bdrewN ?_ _ | with_reducible refine Below.drew ?_ | (with_reducible refine bset ?_ ?_ _; rotate_left; focus (first | assumption | omega | (simp; done) | (simp; omega))) | with_reducible refine bstep ?_ (by assumption) | assumption))⟩
    rw [← Hm0.out]
    have hl : 0 < zs.length := by have := Hz.out.1; omega
    rw [List.getD_eq_getElem?_getD, List.getElem?_eq_getElem hl]
    exact List.getElem_mem hl
  case round =>
    obtain ⟨k, p, q, hk1, hk, rfl, hRm, Heq, B0, B1, hbr⟩ := hrel
    clear c0 c1
    by_cases hkn : k < n
    · have hl : k < zs.length := by have := Hz.out.1; omega
      have hget : zs[k]? = some (zs.getD k (0, 0)) := by
        rw [List.getD_eq_getElem?_getD, List.getElem?_eq_getElem hl]; rfl
      have hdrop : zs.drop k = zs.getD k (0, 0) :: zs.drop (k + 1) := by
        rw [List.drop_eq_getElem_cons hl, List.getD_eq_getElem?_getD, List.getElem?_eq_getElem hl]; rfl
      have hx := ((hbr.cell (p := ⟨b, off + k * 2, none⟩) hlt).trans (Hc.out k hkn).1)
      have hy := ((hbr.cell (p := ⟨b, off + k * 2 + 1, none⟩) hlt).trans (Hc.out k hkn).2)
      have hRx := HR.out _ (List.mem_of_getElem? hget)
      generalize zs.getD k (0, 0) = z at *
      obtain ⟨x, y⟩ := z
      dsimp only at hx hy
      have kc := fun W hb => Hp.out (x, y) (p, q) hRx hRm W hb
      have Kc := Lib.hid kc
      clear hget kc hl
      have Heq2 : Hid (minR (m1, m2) (zs.drop 1) = minR (if x * q < p * y then (x, y) else (p, q)) (zs.drop (k + 1))) := Lib.hid (Heq.out.trans (by rw [hdrop]; rfl))
      have hlt2 := cmpR_lt (x, y) (p, q)
      dsimp only at hlt2
      by_cases hless : x * q < p * y
      · have hneg := hlt2.2 hless
        rw [if_pos hless] at Heq2
        clear hless hlt2 Heq hdrop
        generalize cmpR (x, y) (p, q) = cv at *
        have cB1 := B1.c
        have fB1 := B1.f
        have lB1 := B1.lt
        go_wp2_with fail
        go_region_held3 (fun w' => w'.cell? ⟨b, off + k * 2, none⟩ = some (.int .i64 x) ∧ w'.cell? ⟨b, off + k * 2 + 1, none⟩ = some (.int .i64 y) ∧ w'.cell? ⟨w.heap.size + 1, 0, none⟩ = some (.int .i64 p) ∧ w'.cell? ⟨w.heap.size + 1, 1, none⟩ = some (.int .i64 q))
          (first | exact ⟨hx, hy, B1.c 0, B1.c 1⟩ | exact ⟨hx1, hy1, B1.c 0, B1.c 1⟩ | go_keep)
          (first | (go_at_fn g; refine (Kc.out _ (by first | assumption | exact Below.drew (by assumption))).mono ?_; rintro e w1 ⟨rfl, hb1⟩; have hx1 : w1.cell? ⟨b, off + k * 2, none⟩ = some (.int .i64 x) := (hb1.cell (p := ⟨b, off + k * 2, none⟩) (Nat.lt_of_lt_of_le hlt hbr.size)).trans hx; have hy1 : w1.cell? ⟨b, off + k * 2 + 1, none⟩ = some (.int .i64 y) := (hb1.cell (p := ⟨b, off + k * 2 + 1, none⟩) (Nat.lt_of_lt_of_le hlt hbr.size)).trans hy; have B1 : Cs w1 (w.heap.size + 1) #[.int .i64 p, .int .i64 q] := (by repeat (first | with_reducible assumption | (with_reducible refine Cs.new _ _ _ _ ?_; first | rfl | (simp; done)) | with_reducible refine Cs.alloc ?_ _ | with_reducible refine Cs.drewN ?_ _ | with_reducible refine Cs.drew ?_ | with_reducible refine Cs.set4 ?_ _ _ _ _ | (with_reducible refine Cs.other4 ?_ ?_ _ _ _ _; rotate_left; focus (first | assumption | omega | (simp; done) | (simp; omega))) | with_reducible refine Cs.set2 ?_ _ _ | (with_reducible refine Cs.other2 ?_ ?_ _ _; rotate_left; focus (first | assumption | omega | (simp; done) | (simp; omega))) | (with_reducible refine Cs.other ?_ ?_ _; rotate_left; focus (first | assumption | omega | (simp; done) | (simp; omega))) | with_reducible refine Cs.keep ?_ (by assumption) | assumption)); have B0 : Cs w1 w.heap.size #[.int .i64 0, .int .i64 0] := (by repeat (first | with_reducible assumption | (with_reducible refine Cs.new _ _ _ _ ?_; first | rfl | (simp; done)) | with_reducible refine Cs.alloc ?_ _ | with_reducible refine Cs.drewN ?_ _ | with_reducible refine Cs.drew ?_ | with_reducible refine Cs.set4 ?_ _ _ _ _ | (with_reducible refine Cs.other4 ?_ ?_ _ _ _ _; rotate_left; focus (first | assumption | omega | (simp; done) | (simp; omega))) | with_reducible refine Cs.set2 ?_ _ _ | (with_reducible refine Cs.other2 ?_ ?_ _ _; rotate_left; focus (first | assumption | omega | (simp; done) | (simp; omega))) | (with_reducible refine Cs.other ?_ ?_ _; rotate_left; focus (first | assumption | omega | (simp; done) | (simp; omega))) | with_reducible refine Cs.keep ?_ (by assumption) | assumption)); have hbr : Below w.heap.size w w1 := (by repeat (first | with_reducible exact Below.refl _ _ | with_reducible assumption | with_reducible refine balloc ?_ _ | with_reducible refine bdrewN ?_ _ | with_reducible refine Below.drew ?_ | (with_reducible refine bset ?_ ?_ _; rotate_left; focus (first | assumption | omega | (simp; done) | (simp; omega))) | with_reducible refine bstep ?_ (by assumption) | assumption))))
        all_goals (
          clear cB1 fB1 lB1
          have cB1 := B1.c
          have fB1 := B1.f
          have lB1 := B1.lt
          go_wp2_with fail
          go_roundw
          case rel => exact ⟨k + 1, x, y, by omega, by omega, by go_num, hRx, Heq2, B0.other2 (by omega) _ _, B1.set2 _ _, bset2 hbr (by omega) _ _⟩
          case measure => simp [intOf]; omega)
      · have hneg : ¬ cmpR (x, y) (p, q) < 0 := fun h => hless (hlt2.1 h)
        rw [if_neg hless] at Heq2
        clear hless hlt2 Heq hdrop
        generalize cmpR (x, y) (p, q) = cv at *
        have hneg2 : 0 ≤ cv := by omega
        have cB1 := B1.c
        have fB1 := B1.f
        have lB1 := B1.lt
        go_wp2_with fail
        go_region_held3 (fun w' => w'.cell? ⟨b, off + k * 2, none⟩ = some (.int .i64 x) ∧ w'.cell? ⟨b, off + k * 2 + 1, none⟩ = some (.int .i64 y) ∧ w'.cell? ⟨w.heap.size + 1, 0, none⟩ = some (.int .i64 p) ∧ w'.cell? ⟨w.heap.size + 1, 1, none⟩ = some (.int .i64 q))
          (first | exact ⟨hx, hy, B1.c 0, B1.c 1⟩ | exact ⟨hx1, hy1, B1.c 0, B1.c 1⟩ | go_keep)
          (first | (go_at_fn g; refine (Kc.out _ (by first | assumption | exact Below.drew (by assumption))).mono ?_; rintro e w1 ⟨rfl, hb1⟩; have hx1 : w1.cell? ⟨b, off + k * 2, none⟩ = some (.int .i64 x) := (hb1.cell (p := ⟨b, off + k * 2, none⟩) (Nat.lt_of_lt_of_le hlt hbr.size)).trans hx; have hy1 : w1.cell? ⟨b, off + k * 2 + 1, none⟩ = some (.int .i64 y) := (hb1.cell (p := ⟨b, off + k * 2 + 1, none⟩) (Nat.lt_of_lt_of_le hlt hbr.size)).trans hy; have B1 : Cs w1 (w.heap.size + 1) #[.int .i64 p, .int .i64 q] := (by repeat (first | with_reducible assumption | (with_reducible refine Cs.new _ _ _ _ ?_; first | rfl | (simp; done)) | with_reducible refine Cs.alloc ?_ _ | with_reducible refine Cs.drewN ?_ _ | with_reducible refine Cs.drew ?_ | with_reducible refine Cs.set4 ?_ _ _ _ _ | (with_reducible refine Cs.other4 ?_ ?_ _ _ _ _; rotate_left; focus (first | assumption | omega | (simp; done) | (simp; omega))) | with_reducible refine Cs.set2 ?_ _ _ | (with_reducible refine Cs.other2 ?_ ?_ _ _; rotate_left; focus (first | assumption | omega | (simp; done) | (simp; omega))) | (with_reducible refine Cs.other ?_ ?_ _; rotate_left; focus (first | assumption | omega | (simp; done) | (simp; omega))) | with_reducible refine Cs.keep ?_ (by assumption) | assumption)); have B0 : Cs w1 w.heap.size #[.int .i64 0, .int .i64 0] := (by repeat (first | with_reducible assumption | (with_reducible refine Cs.new _ _ _ _ ?_; first | rfl | (simp; done)) | with_reducible refine Cs.alloc ?_ _ | with_reducible refine Cs.drewN ?_ _ | with_reducible refine Cs.drew ?_ | with_reducible refine Cs.set4 ?_ _ _ _ _ | (with_reducible refine Cs.other4 ?_ ?_ _ _ _ _; rotate_left; focus (first | assumption | omega | (simp; done) | (simp; omega))) | with_reducible refine Cs.set2 ?_ _ _ | (with_reducible refine Cs.other2 ?_ ?_ _ _; rotate_left; focus (first | assumption | omega | (simp; done) | (simp; omega))) | (with_reducible refine Cs.other ?_ ?_ _; rotate_left; focus (first | assumption | omega | (simp; done) | (simp; omega))) | with_reducible refine Cs.keep ?_ (by assumption) | assumption)); have hbr : Below w.heap.size w w1 := (by repeat (first | with_reducible exact Below.refl _ _ | with_reducible assumption | with_reducible refine balloc ?_ _ | with_reducible refine bdrewN ?_ _ | with_reducible refine Below.drew ?_ | (with_reducible refine bset ?_ ?_ _; rotate_left; focus (first | assumption | omega | (simp; done) | (simp; omega))) | with_reducible refine bstep ?_ (by assumption) | assumption))))
        all_goals (
          clear cB1 fB1 lB1
          have cB1 := B1.c
          have fB1 := B1.f
          have lB1 := B1.lt
          go_wp2_with fail
          go_roundw
          case rel => exact ⟨k + 1, p, q, by omega, by omega, by go_num, hRm, Heq2, (by repeat (first | with_reducible assumption | (with_reducible refine Cs.new _ _ _ _ ?_; first | rfl | (simp; done)) | with_reducible refine Cs.alloc ?_ _ | with_reducible refine Cs.drewN ?_ _ | with_reducible refine Cs.drew ?_ | with_reducible refine Cs.set4 ?_ _ _ _ _ | (with_reducible refine Cs.other4 ?_ ?_ _ _ _ _; rotate_left; focus (first | assumption | omega | (simp; done) | (simp; omega))) | with_reducible refine Cs.set2 ?_ _ _ | (with_reducible refine Cs.other2 ?_ ?_ _ _; rotate_left; focus (first | assumption | omega | (simp; done) | (simp; omega))) | (with_reducible refine Cs.other ?_ ?_ _; rotate_left; focus (first | assumption | omega | (simp; done) | (simp; omega))) | with_reducible refine Cs.keep ?_ (by assumption) | assumption)), (by repeat (first | with_reducible assumption | (with_reducible refine Cs.new _ _ _ _ ?_; first | rfl | (simp; done)) | with_reducible refine Cs.alloc ?_ _ | with_reducible refine Cs.drewN ?_ _ | with_reducible refine Cs.drew ?_ | with_reducible refine Cs.set4 ?_ _ _ _ _ | (with_reducible refine Cs.other4 ?_ ?_ _ _ _ _; rotate_left; focus (first | assumption | omega | (simp; done) | (simp; omega))) | with_reducible refine Cs.set2 ?_ _ _ | (with_reducible refine Cs.other2 ?_ ?_ _ _; rotate_left; focus (first | assumption | omega | (simp; done) | (simp; omega))) | (with_reducible refine Cs.other ?_ ?_ _; rotate_left; focus (first | assumption | omega | (simp; done) | (simp; omega))) | with_reducible refine Cs.keep ?_ (by assumption) | assumption)), (by repeat (first | with_reducible exact Below.refl _ _ | with_reducible assumption | with_reducible refine balloc ?_ _ | with_reducible refine bdrewN ?_ _ | with_reducible refine Below.drew ?_ | (with_reducible refine bset ?_ ?_ _; rotate_left; focus (first | assumption | omega | (simp; done) | (simp; omega))) | with_reducible refine bstep ?_ (by assumption) | assumption))⟩
          case measure => simp [intOf]; omega)
    · obtain rfl : k = n := by omega
      have hend : minR (m1, m2) (zs.drop 1) = (p, q) := by
        rw [Heq.out, List.drop_eq_nil_of_le (by have := Hz.out.1; omega)]
        rfl
      have Hend := Lib.hid hend
      clear hend Heq
      have cB0 := B0.c
      have fB0 := B0.f
      have lB0 := B0.lt
      have cB1 := B1.c
      have fB1 := B1.f
      have lB1 := B1.lt
      go_wp2_with fail
      exact bodyPost_ret (v := .agg #[.int .i64 p, .int .i64 q]) (by simp [results, Tryd.results61, go_sem, cB0, fB0, lB0]) rfl ⟨by rw [Hend.out], (by repeat (first | with_reducible exact Below.refl _ _ | with_reducible assumption | with_reducible refine balloc ?_ _ | with_reducible refine bdrewN ?_ _ | with_reducible refine Below.drew ?_ | (with_reducible refine bset ?_ ?_ _; rotate_left; focus (first | assumption | omega | (simp; done) | (simp; omega))) | with_reducible refine bstep ?_ (by assumption) | assumption))⟩

end Go.Proofs.YtkjoamindolonaaDoor
