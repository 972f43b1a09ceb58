/- BK12 BT12 -/
import Derived.Test.YtmddpjlpbmfbgaaDoorBZ16
import Derived.Test.YtmddpjlpbmfbgaaDoorBZ35
import Derived.Test.YtmddpjlpbmfbgaaDoorBZ01
import Derived.Test.YtmddpjlpbmfbgaaDoorBZ29
import Derived.Test.YtmddpjlpbmfbgaaDoorBZ17
/- The walk of BenchSquared: it answers true. (Printed by gen/gen_bk12.py.) -/
section
namespace Go.Proofs.YtmddpjlpbmfbgaaDoor
open Go.RowKit Go.Shelf
set_option linter.unusedSimpArgs false
set_option linter.unusedVariables false
open Bm (pwr leR)

/-- a fresh block of three, if it is made; filled, if it is filled -/
def Mk3 (B : Nat) (W : World) (dn fl : Bool) (v : Value) (x y z : Int) : Prop :=
  (dn = true → ∃ g a b c, v = .pointer (some ⟨g, 0, none⟩) ∧ B ≤ g ∧ Cs W g #[a, b, c] ∧ (fl = true → a = .int .i64 x ∧ b = .int .i64 y ∧ c = .int .i64 z)) ∧ (dn = false → fl = false)
section
variable {B : Nat} {W W' : World} {dn fl : Bool} {v : Value} {x y z : Int} {g : Nat}
theorem Mk3.no (h1 : dn = false) (h2 : fl = false) : Mk3 B W dn fl v x y z := ⟨fun h => Bool.noConfusion (h1.symm.trans h), fun _ => h2⟩
theorem Mk3.below (h : Mk3 B W dn fl v x y z) (hb : Below W.heap.size W W') : Mk3 B W' dn fl v x y z :=
  ⟨fun hd => by obtain ⟨g, a, b, c, e1, e2, e3, e4⟩ := h.1 hd; exact ⟨g, a, b, c, e1, e2, e3.keep hb, e4⟩, h.2⟩
theorem Mk3.alloc (h : Mk3 B W dn fl v x y z) (o : Obj) : Mk3 B (W.alloc o) dn fl v x y z := h.below (balloc (Below.refl _ _) o)
theorem Mk3.new {a b c : Value} {t : TypeId} (h : Mk3 B W dn fl v x y z) (hd : dn = false) (hB : B ≤ W.heap.size) : Mk3 B (W.alloc (.cells #[a, b, c] t)) true fl (.pointer (some ⟨W.heap.size, 0, none⟩)) x y z :=
  ⟨fun _ => ⟨W.heap.size, a, b, c, rfl, hB, Cs.new W _ _ _ rfl, fun hf => by rw [h.2 hd] at hf; cases hf⟩, fun h => by cases h⟩
theorem Mk3.ne (h : Mk3 B W dn fl v x y z) (hd : dn = true) : v ≠ .pointer (some ⟨W.heap.size, 0, none⟩) := by
  obtain ⟨g, a, b, c, rfl, -, e3, -⟩ := h.1 hd
  intro e
  injection e with e; injection e with e; injection e with e
  have := e3.lt; omega
theorem Mk3.set (h : Mk3 B W dn fl (.pointer (some ⟨g, 0, none⟩)) x y z) (hd : dn = true) : Mk3 B (((W.setCell ⟨g, 0, none⟩ (.int .i64 x)).setCell ⟨g, 1, none⟩ (.int .i64 y)).setCell ⟨g, 2, none⟩ (.int .i64 z)) dn true (.pointer (some ⟨g, 0, none⟩)) x y z := by
  refine ⟨fun _ => ?_, fun h => by rw [hd] at h; cases h⟩
  obtain ⟨g', a, b, c, e1, e2, e3, e4⟩ := h.1 hd
  injection e1 with e1; injection e1 with e1; injection e1 with e1
  subst e1
  exact ⟨g, _, _, _, rfl, e2, e3.set3 _ _ _, fun _ => ⟨rfl, rfl, rfl⟩⟩
theorem Mk3.other {p q r : Value} (h : Mk3 B W dn fl v x y z) (hne : dn = true → v ≠ .pointer (some ⟨g, 0, none⟩)) : Mk3 B (((W.setCell ⟨g, 0, none⟩ p).setCell ⟨g, 1, none⟩ q).setCell ⟨g, 2, none⟩ r) dn fl v x y z :=
  ⟨fun hd => by
    obtain ⟨g', a, b, c, e1, e2, e3, e4⟩ := h.1 hd
    exact ⟨g', a, b, c, e1, e2, e3.other3 (fun e => hne hd (by rw [e1, e])) _ _ _, e4⟩, h.2⟩
theorem Mk3.out (h : Mk3 B W dn fl v x y z) (h1 : dn = true) (h2 : fl = true) : ∃ g, v = .pointer (some ⟨g, 0, none⟩) ∧ B ≤ g ∧ Cs W g #[.int .i64 x, .int .i64 y, .int .i64 z] := by
  obtain ⟨g, a, b, c, e1, e2, e3, e4⟩ := h.1 h1
  obtain ⟨rfl, rfl, rfl⟩ := e4 h2
  exact ⟨g, e1, e2, e3⟩
theorem Mk3.at_ (h : Mk3 B W dn fl v x y z) (h1 : dn = true) : ∃ g a b c, v = .pointer (some ⟨g, 0, none⟩) ∧ B ≤ g ∧ Cs W g #[a, b, c] := by
  obtain ⟨g, a, b, c, e1, e2, e3, e4⟩ := h.1 h1
  exact ⟨g, a, b, c, e1, e2, e3⟩
end
structure J12 (w : World) (B g g1 g2 : Nat) (b8 b3 c3 : Array Value) (x1 x2 x3 y1 y2 y3 : Int) (d : Nat → Bool) (v30 v33 v7 v8 : Value) (W : World) : Prop where
  a0 : Cs W g b8
  a1 : Cs W g1 b3
  a2 : Cs W g2 c3
  hB : B ≤ W.heap.size
  hb : Below w.heap.size w W
  c : d 2 = true → v30 = .agg #[.int .i64 x1, .int .i64 x2, .int .i64 x3]
  e : d 5 = true → v33 = .agg #[.int .i64 y1, .int .i64 y2, .int .i64 y3]
  p : Mk3 B W (d 6) (d 8) v7 x1 x2 x3
  q : Mk3 B W (d 7) (d 9) v8 y1 y2 y3
  n : d 6 = true → d 7 = true → v7 ≠ v8
theorem J12.s {w W : World} {B g g1 g2 : Nat} {l n p1 p2 s1 s2 t1 t2 a b c a' b' c' x1 x2 x3 y1 y2 y3 : Int} {d : Nat → Bool} {v30 v33 v7 v8 : Value} (h : J12 w B g g1 g2 #[.int .i64 l, .int .i64 n, .int .i64 p1, .int .i64 p2, .int .i64 s1, .int .i64 s2, .int .i64 t1, .int .i64 t2] #[.int .u32 a, .int .u32 b, .int .u32 c] #[.int .u32 a', .int .u32 b', .int .u32 c'] x1 x2 x3 y1 y2 y3 d v30 v33 v7 v8 W) : ST3 g g1 l n p1 p2 s1 s2 t1 t2 a b c W ∧ ST3 g g2 l n p1 p2 s1 s2 t1 t2 a' b' c' W :=
  have C := h.a0
  ⟨⟨⟨C.c 0, C.c 1, C.c 2, C.c 3, C.c 4, C.c 5, C.c 6, C.c 7⟩, h.a1.c 0, h.a1.c 1, h.a1.c 2⟩, ⟨C.c 0, C.c 1, C.c 2, C.c 3, C.c 4, C.c 5, C.c 6, C.c 7⟩, h.a2.c 0, h.a2.c 1, h.a2.c 2⟩

theorem value_in {l n p1 p2 s1 s2 t1 t2 p s t : Int} (hb : barE l n p1 p2 s1 s2 t1 t2 = 0) (h1 : p1 ≤ p ∧ p ≤ p2) (h2 : s1 ≤ s ∧ s ≤ s2) (h3 : t1 ≤ t ∧ t ≤ t2) {v : Int × Int} (hv : pwr l p s t = v) (w : World) :
    Calls Tryd.prog 46 #[.agg #[.int .i64 l, .int .i64 n, .int .i64 p1, .int .i64 p2, .int .i64 s1, .int .i64 s2, .int .i64 t1, .int .i64 t2], .agg #[.int .i64 p, .int .i64 s, .int .i64 t]] w fun e w' => e = .returned (.tuple #[.agg #[.int .i64 v.1, .int .i64 v.2], .int .i64 0]) ∧ Below w.heap.size w w' := by
  have k := value_any l n p1 p2 s1 s2 t1 t2 p s t w
  rw [show valE l n p1 p2 s1 s2 t1 t2 p s t = (v, 0) by
    unfold valE inT
    rw [if_neg (by simpa using hb), out_false.2 h1, out_false.2 h2, out_false.2 h3, if_pos (by rfl), hv]] at k
  exact k
theorem span_in {l n p1 p2 s1 s2 t1 t2 : Int} (hb : barE l n p1 p2 s1 s2 t1 t2 = 0) {u v : Int × Int} (hu : pwr l p1 s2 t2 = u) (hv : pwr l p2 s1 t1 = v) (w : World) :
    Calls Tryd.prog 43 #[.agg #[.int .i64 l, .int .i64 n, .int .i64 p1, .int .i64 p2, .int .i64 s1, .int .i64 s2, .int .i64 t1, .int .i64 t2]] w fun e w' => e = .returned (.tuple #[.agg #[.int .i64 u.1, .int .i64 u.2, .int .i64 v.1, .int .i64 v.2], .int .i64 0]) ∧ Below w.heap.size w w' := by
  have k := span_any l n p1 p2 s1 s2 t1 t2 w
  rw [show spaE l n p1 p2 s1 s2 t1 t2 = ((u, v), 0) by
    unfold spaE
    rw [if_neg (by simpa using hb), hu, hv]] at k
  exact k
/-- a power that there can be -/
theorem pwr_all {l p s t : Int} (hl : l ≤ 5000) (hp : 0 ≤ p) (hp2 : p ≤ 100000) (hs : 1 ≤ s) (hs2 : s < l) (ht : 0 ≤ t) (ht2 : t ≤ 1000) {v : Int × Int} (hv : pwr l p s t = v) :
    0 ≤ v.1 ∧ 1 ≤ v.2 ∧ Int.gcd v.1 v.2 = 1 ∧ v.1 ≤ 9223372036854775807 ∧ v.2 ≤ 9223372036854775807 := by
  subst hv
  obtain ⟨a1, a2, a3⟩ := Bm.pwr_spec (p := p) (t := t) hs (show s ≤ l by omega)
  obtain ⟨-, -, -, -, ⟨e1, e2⟩, -, g1, g2⟩ := pwr_bd hl hp hp2 hs hs2 ht ht2
  obtain ⟨-, -, -, -, -, -, -, b1, b2⟩ := Bm.red_spec e1 g1
  refine ⟨a1, a2, a3, ?_, ?_⟩
  · exact Int.le_trans b1 (by omega)
  · exact Int.le_trans b2 (by omega)
theorem less_is {a b : Int × Int} (ha : 0 ≤ a.1 ∧ 1 ≤ a.2 ∧ Int.gcd a.1 a.2 = 1 ∧ a.1 ≤ 9223372036854775807 ∧ a.2 ≤ 9223372036854775807) (hb : 0 ≤ b.1 ∧ 1 ≤ b.2 ∧ Int.gcd b.1 b.2 = 1 ∧ b.1 ≤ 9223372036854775807 ∧ b.2 ≤ 9223372036854775807) (h : leR a b) (w : World) :
    Calls Tryd.prog 55 #[.agg #[.int .i64 b.1, .int .i64 b.2], .agg #[.int .i64 a.1, .int .i64 a.2]] w fun e w' => e = .returned (.bool false) ∧ Below w.heap.size w w' :=
  less_any b.1 b.2 a.1 a.2 w hb.1 ha.1 hb.2.1 ha.2.1 hb.2.2.2.1 hb.2.2.2.2 ha.2.2.2.1 ha.2.2.2.2 false (less_no h)
theorem proper_is {a : Int × Int} (ha : 0 ≤ a.1 ∧ 1 ≤ a.2 ∧ Int.gcd a.1 a.2 = 1 ∧ a.1 ≤ 9223372036854775807 ∧ a.2 ≤ 9223372036854775807) (w : World) :
    Calls Tryd.prog 54 #[.agg #[.int .i64 a.1, .int .i64 a.2]] w fun e w' => e = .returned (.bool true) ∧ Below w.heap.size w w' :=
  proper_any a.1 a.2 w ha.1 ha.2.1 ha.2.2.1 ha.2.2.2.1 ha.2.2.2.2

section
attribute [local go_sem high] rat_eq

set_option maxRecDepth 100000 in
set_option maxHeartbeats 32000000 in
theorem squared_main (l n p1 p2 s1 s2 t1 t2 a1 b1 c1 a2 b2 c2 : Int) (w : World) (hbar : barE l n p1 p2 s1 s2 t1 t2 = 0) (ha1 : 0 ≤ a1 ∧ a1 ≤ 4294967295) (hb1 : 0 ≤ b1 ∧ b1 ≤ 4294967295) (hc1 : 0 ≤ c1 ∧ c1 ≤ 4294967295) (ha2 : 0 ≤ a2 ∧ a2 ≤ 4294967295) (hb2 : 0 ≤ b2 ∧ b2 ≤ 4294967295) (hc2 : 0 ≤ c2 ∧ c2 ≤ 4294967295) (hT : TabW w) :
    Calls Tryd.prog 12 #[.agg #[.int .i64 l, .int .i64 n, .int .i64 p1, .int .i64 p2, .int .i64 s1, .int .i64 s2, .int .i64 t1, .int .i64 t2], .agg #[.int .u32 a1, .int .u32 b1, .int .u32 c1], .agg #[.int .u32 a2, .int .u32 b2, .int .u32 c2]] w fun e w' => e = .returned (.bool true) ∧ Below w.heap.size w w' := by
  have kw := fun W hT => works_any W hT
  have HT := Lib.hid hT
  have kc := fun (W : World) => rcheckBar_any l n p1 p2 s1 s2 t1 t2 W
  rw [hbar] at kc
  obtain ⟨i1, i2, i3, i4, i5, i6, i7, i8, i9, i10, i11, i12, i13, i14⟩ := bar_ok hbar
  have kx := fun (W : World) => true_any l n p1 p2 s1 s2 t1 t2 a1 b1 c1 W (by omega) (by omega) (by omega) ha1 hb1 hc1
  have ky := fun (W : World) => true_any l n p1 p2 s1 s2 t1 t2 a2 b2 c2 W (by omega) (by omega) (by omega) ha2 hb2 hc2
  have e1 := pickE_in (by_ := a1) i6
  have e2 := pickE_in (by_ := b1) i9
  have e3 := pickE_in (by_ := c1) i13
  have e4 := pickE_in (by_ := a2) i6
  have e5 := pickE_in (by_ := b2) i9
  have e6 := pickE_in (by_ := c2) i13
  generalize pickE p1 p2 a1 = x1 at *
  generalize pickE s1 s2 b1 = x2 at *
  generalize pickE t1 t2 c1 = x3 at *
  generalize pickE p1 p2 a2 = y1 at *
  generalize pickE s1 s2 b2 = y2 at *
  generalize pickE t1 t2 c2 = y3 at *
  obtain ⟨v, hv⟩ : ∃ v, pwr l x1 x2 x3 = v := ⟨_, rfl⟩
  obtain ⟨lo, hlo⟩ : ∃ v, pwr l p1 s2 t2 = v := ⟨_, rfl⟩
  obtain ⟨hi, hhi⟩ : ∃ v, pwr l p2 s1 t1 = v := ⟨_, rfl⟩
  have kv1 := fun (W : World) => value_in (n := n) hbar e1 e2 e3 hv W
  have ks1 := fun (W : World) => span_in (n := n) hbar hlo hhi W
  have kv2 := fun (W : World) => value_in (n := n) hbar ⟨Int.le_refl _, i6⟩ ⟨i9, Int.le_refl _⟩ ⟨i13, Int.le_refl _⟩ hlo W
  have kv3 := fun (W : World) => value_in (n := n) hbar ⟨i6, Int.le_refl _⟩ ⟨Int.le_refl _, i9⟩ ⟨Int.le_refl _, i13⟩ hhi W
  have gv := pwr_all (l := l) i2 (by omega) (by omega) (by omega) (by omega) (by omega) (by omega) hv
  have glo := pwr_all (l := l) i2 (by omega) (by omega) (by omega) (by omega) (by omega) (by omega) hlo
  have ghi := pwr_all (l := l) i2 (by omega) (by omega) (by omega) (by omega) (by omega) (by omega) hhi
  have q1 : leR lo v := by rw [← hlo, ← hv]; exact Bm.pwr_mono e1.1 (by omega) e2.2 (by omega) (by omega) e3.2 (by omega)
  have q2 : leR v hi := by rw [← hhi, ← hv]; exact Bm.pwr_mono e1.2 (by omega) e2.1 (by omega) (by omega) e3.1 (by omega)
  have kp1 := fun (W : World) => proper_is gv W
  have kp2 := fun (W : World) => proper_is glo W
  have kp3 := fun (W : World) => proper_is ghi W
  have kl1 := fun (W : World) => less_is glo gv q1 W
  have kl2 := fun (W : World) => less_is gv ghi q2 W
  -- the narrower bar
  obtain ⟨m1, hm1⟩ : ∃ m, (if y1 < x1 then y1 else x1) = m := ⟨_, rfl⟩
  have jm1 : m1 ≤ x1 ∧ m1 ≤ y1 ∧ (m1 = x1 ∨ m1 = y1) := by rw [← hm1]; split <;> omega
  obtain ⟨M1, hM1⟩ : ∃ m, (if x1 < y1 then y1 else x1) = m := ⟨_, rfl⟩
  have jM1 : x1 ≤ M1 ∧ y1 ≤ M1 ∧ (M1 = x1 ∨ M1 = y1) := by rw [← hM1]; split <;> omega
  obtain ⟨m2, hm2⟩ : ∃ m, (if y2 < x2 then y2 else x2) = m := ⟨_, rfl⟩
  have jm2 : m2 ≤ x2 ∧ m2 ≤ y2 ∧ (m2 = x2 ∨ m2 = y2) := by rw [← hm2]; split <;> omega
  obtain ⟨M2, hM2⟩ : ∃ m, (if x2 < y2 then y2 else x2) = m := ⟨_, rfl⟩
  have jM2 : x2 ≤ M2 ∧ y2 ≤ M2 ∧ (M2 = x2 ∨ M2 = y2) := by rw [← hM2]; split <;> omega
  obtain ⟨m3, hm3⟩ : ∃ m, (if y3 < x3 then y3 else x3) = m := ⟨_, rfl⟩
  have jm3 : m3 ≤ x3 ∧ m3 ≤ y3 ∧ (m3 = x3 ∨ m3 = y3) := by rw [← hm3]; split <;> omega
  obtain ⟨M3, hM3⟩ : ∃ m, (if x3 < y3 then y3 else x3) = m := ⟨_, rfl⟩
  have jM3 : x3 ≤ M3 ∧ y3 ≤ M3 ∧ (M3 = x3 ∨ M3 = y3) := by rw [← hM3]; split <;> omega
  have nb : barE l n m1 M1 m2 M2 m3 M3 = 0 := bar_of (by omega)
  obtain ⟨tl, htl⟩ : ∃ v, pwr l m1 M2 M3 = v := ⟨_, rfl⟩
  obtain ⟨th, hth⟩ : ∃ v, pwr l M1 m2 m3 = v := ⟨_, rfl⟩
  have ks2 := fun (W : World) => span_in (n := n) nb htl hth W
  have gtl := pwr_all (l := l) i2 (by omega) (by omega) (by omega) (by omega) (by omega) (by omega) htl
  have gth := pwr_all (l := l) i2 (by omega) (by omega) (by omega) (by omega) (by omega) (by omega) hth
  have q3 : leR lo tl := by rw [← hlo, ← htl]; exact Bm.pwr_mono (by omega) (by omega) (by omega) (by omega) (by omega) (by omega) (by omega)
  have q4 : leR th hi := by rw [← hhi, ← hth]; exact Bm.pwr_mono (by omega) (by omega) (by omega) (by omega) (by omega) (by omega) (by omega)
  have q5 : leR tl th := by rw [← htl, ← hth]; exact Bm.pwr_mono (by omega) (by omega) (by omega) (by omega) (by omega) (by omega) (by omega)
  have kp4 := fun (W : World) => proper_is gtl W
  have kp5 := fun (W : World) => proper_is gth W
  have kl3 := fun (W : World) => less_is glo gtl q3 W
  have kl4 := fun (W : World) => less_is gth ghi q4 W
  have kl5 := fun (W : World) => less_is gtl gth q5 W
  -- the dark bar
  have db : barE l n p1 p2 s1 s2 0 0 = 0 := bar_of (by omega)
  obtain ⟨u, hu⟩ : ∃ v, pwr l x1 x2 0 = v := ⟨_, rfl⟩
  have kv4 := fun (W : World) => value_in (n := n) db e1 e2 ⟨Int.le_refl _, Int.le_refl _⟩ hu W
  have gu := pwr_all (l := l) i2 (by omega) (by omega) (by omega) (by omega) (by omega) (by omega) hu
  have kp6 := fun (W : World) => proper_is gu W
  -- the way back
  have Hback : Hid (u.2 = 1 → 1 ≤ u.1 → u.1 ≤ 100000 → (∀ W : World, Calls Tryd.prog 46 #[.agg #[.int .i64 l, .int .i64 n, .int .i64 u.1, .int .i64 u.1, .int .i64 (l - x2), .int .i64 (l - x2), .int .i64 0, .int .i64 0], .agg #[.int .i64 u.1, .int .i64 (l - x2), .int .i64 0]] W fun e w' => e = .returned (.tuple #[.agg #[.int .i64 x1, .int .i64 1], .int .i64 0]) ∧ Below W.heap.size W w')) := Lib.hid (fun h1 h2 h3 W => by
    have hb : barE l n u.1 u.1 (l - x2) (l - x2) 0 0 = 0 := bar_of (by omega)
    have hu2 : pwr l x1 x2 0 = (u.1, 1) := by rw [hu, ← h1]
    have := Bm.pwr_back (by omega) (by omega) (by omega) hu2
    exact value_in (v := (x1, 1)) hb ⟨Int.le_refl _, Int.le_refl _⟩ ⟨Int.le_refl _, Int.le_refl _⟩ ⟨Int.le_refl _, Int.le_refl _⟩ this W)
  have f1 : (0 : Int) ≤ l - x2 ∧ l - x2 ≤ 5000 := by omega
  have kh := fun (W : World) => whole_any x1 W
  obtain ⟨v1, v2⟩ := v
  obtain ⟨lo1, lo2⟩ := lo
  obtain ⟨hi1, hi2⟩ := hi
  obtain ⟨tl1, tl2⟩ := tl
  obtain ⟨th1, th2⟩ := th
  obtain ⟨u1, u2⟩ := u
  dsimp only at *
  have Hm := Lib.hid (show (if y1 < x1 then y1 else x1) = m1 ∧ (if x1 < y1 then y1 else x1) = M1 ∧ (if y2 < x2 then y2 else x2) = m2 ∧ (if x2 < y2 then y2 else x2) = M2 ∧ (if y3 < x3 then y3 else x3) = m3 ∧ (if x3 < y3 then y3 else x3) = M3 from ⟨hm1, hM1, hm2, hM2, hm3, hM3⟩)
  have Hx := Lib.hid (⟨e1, e2, e3, e4, e5, e6⟩ : _ ∧ _ ∧ _ ∧ _ ∧ _ ∧ _)
  have Hi := Lib.hid (⟨i1, i2, i3, i4, i5, i6, i7, i8, i9, i10, i11, i12, i13, i14⟩ : _ ∧ _ ∧ _ ∧ _ ∧ _ ∧ _ ∧ _ ∧ _ ∧ _ ∧ _ ∧ _ ∧ _ ∧ _ ∧ _)
  have Hu := Lib.hid gu
  clear jm1 jM1 jm2 jM2 jm3 jM3
  clear hT hbar ha1 hb1 hc1 ha2 hb2 hc2 i1 i2 i3 i4 i5 i6 i7 i8 i9 i10 i11 i12 i13 i14 e1 e2 e3 e4 e5 e6 hm1 hM1 hm2 hM2 hm3 hM3 hv hlo hhi htl hth hu gv glo ghi gtl gth gu q1 q2 q3 q4 q5 nb db
  go_enter Tryd.func12, Tryd.ntmps12
  go_wp2_with fail
  refine (kc _).mono ?_
  rintro e w1 ⟨rfl, hb1⟩
  replace B3 : Cs w1 (w.heap.size) #[.int .i64 l, .int .i64 n, .int .i64 p1, .int .i64 p2, .int .i64 s1, .int .i64 s2, .int .i64 t1, .int .i64 t2] := Cs.keep csA hb1
  replace B4 : Cs w1 (w.heap.size + 1) #[.int .u32 a1, .int .u32 b1, .int .u32 c1] := Cs.keep csA hb1
  replace B5 : Cs w1 (w.heap.size + 1 + 1) #[.int .u32 a2, .int .u32 b2, .int .u32 c2] := Cs.keep csA hb1
  replace hbw : Below w.heap.size w w1 := blA
  replace cB3 := B3.c
  replace fB3 := B3.f
  replace lB3 := B3.lt
  replace cB4 := B4.c
  replace fB4 := B4.f
  replace lB4 := B4.lt
  replace cB5 := B5.c
  replace fB5 := B5.f
  replace lB5 := B5.lt
  clear hb1
  clear cB3 fB3 lB3 cB4 fB4 lB4 cB5 fB5 lB5 kc
  go_upto_region 3 with fail
  go_cut [7, 8] (fun s7 s8 wx => ∃ g7 g8 : Nat, s7 = .pointer (some ⟨g7, 0, none⟩) ∧ s8 = .pointer (some ⟨g8, 0, none⟩) ∧ Cs wx g7 #[.int .i64 x1, .int .i64 x2, .int .i64 x3] ∧ Cs wx g8 #[.int .i64 y1, .int .i64 y2, .int .i64 y3] ∧ Cs wx w.heap.size #[.int .i64 l, .int .i64 n, .int .i64 p1, .int .i64 p2, .int .i64 s1, .int .i64 s2, .int .i64 t1, .int .i64 t2] ∧ Below w.heap.size w wx)
  case first =>
    as_aux_lemma =>
     clear kv1 ks1 kv2 kv3 kp1 kp2 kp3 kl1 kl2 ks2 kp4 kp5 kl3 kl4 kl5 kv4 kp6 Hback kh kw f1 Hm Hx Hi Hu
     have hS0 : ST3 w.heap.size (w.heap.size + 1) l n p1 p2 s1 s2 t1 t2 a1 b1 c1 w1 ∧ ST3 w.heap.size (w.heap.size + 1 + 1) l n p1 p2 s1 s2 t1 t2 a2 b2 c2 w1 :=
       ⟨⟨⟨B3.c 0, B3.c 1, B3.c 2, B3.c 3, B3.c 4, B3.c 5, B3.c 6, B3.c 7⟩, B4.c 0, B4.c 1, B4.c 2⟩, ⟨B3.c 0, B3.c 1, B3.c 2, B3.c 3, B3.c 4, B3.c 5, B3.c 6, B3.c 7⟩, B5.c 0, B5.c 1, B5.c 2⟩
     have q0 := B3.lt
     have q1 := B4.lt
     have q2 := B5.lt
     refine wp_region_free (S := fun V => ST3 w.heap.size (w.heap.size + 1) l n p1 p2 s1 s2 t1 t2 a1 b1 c1 V ∧ ST3 w.heap.size (w.heap.size + 1 + 1) l n p1 p2 s1 s2 t1 t2 a2 b2 c2 V) [(0, 1), (1, 3), (3, 11), (4, 27)] 27 [(2, []), (5, [2]), (6, []), (7, []), (8, [2, 5, 6, 7]), (9, [2, 5, 6, 7, 8])] (by kernel_rfl) (by kernel_rfl) (fun c a d v w h => by cases d <;> exact h) hS0 (fun hHeld => ?_)
     clear hHeld hS0
     refine free_take (v := ?_) rfl (by rfl) ?_ ?_
     rotate_left
     · intro w9 hSw; (unfold ST3 at hSw); (go_simp <;> with_reducible rfl)
     try simp only [Act.put, List.setIfInBounds_toArray, List.set_cons_zero, List.set_cons_succ]
     refine free_take (v := ?_) rfl (by rfl) ?_ ?_
     rotate_left
     · intro w9 hSw; (unfold ST3 at hSw); (go_simp <;> with_reducible rfl)
     try simp only [Act.put, List.setIfInBounds_toArray, List.set_cons_zero, List.set_cons_succ]
     refine free_take (v := ?_) rfl (by rfl) ?_ ?_
     rotate_left
     · intro w9 hSw; (unfold ST3 at hSw); (go_simp <;> with_reducible rfl)
     try simp only [Act.put, List.setIfInBounds_toArray, List.set_cons_zero, List.set_cons_succ]
     refine free_take (v := ?_) rfl (by rfl) ?_ ?_
     rotate_left
     · intro w9 hSw; (unfold ST3 at hSw); (go_simp <;> with_reducible rfl)
     try simp only [Act.put, List.setIfInBounds_toArray, List.set_cons_zero, List.set_cons_succ]
     refine free_part [30, 33, 7, 8] (fun d vs V => ∃ v30 v33 v7 v8, vs = [v30, v33, v7, v8] ∧ J12 w w1.heap.size w.heap.size (w.heap.size + 1) (w.heap.size + 1 + 1) #[.int .i64 l, .int .i64 n, .int .i64 p1, .int .i64 p2, .int .i64 s1, .int .i64 s2, .int .i64 t1, .int .i64 t2] #[.int .u32 a1, .int .u32 b1, .int .u32 c1] #[.int .u32 a2, .int .u32 b2, .int .u32 c2] x1 x2 x3 y1 y2 y3 d v30 v33 v7 v8 V) (fun d vs W ⟨_, _, _, _, _, h⟩ => h.s) ?_ ?_ ?_
     · intro d vs hl hd
       obtain ⟨v30, v33, v7, v8, rfl⟩ := len_four' hl
       simp only [fsts, noB] at hd
       obtain ⟨n2, n5, n6, n7, n8, n9, -⟩ := hd
       exact ⟨_, _, _, _, rfl, B3.drew, B4.drew, B5.drew, Nat.le_refl _, hbw.drew, fun h => by simp [n2] at h, fun h => by simp [n5] at h, Mk3.no n6 n8, Mk3.no n7 n9, fun h => by simp [n6] at h⟩
     refine free_step rfl ?_ ?_
     · rintro d _ W2 ⟨v30, v33, v7, v8, rfl, hJ⟩ hd hD K9 hS9
       simp only [puts, Act.put, List.setIfInBounds_toArray, List.set_cons_zero, List.set_cons_succ]
       go_simp
       refine (kx _).mono ?_
       rintro e w3 ⟨rfl, hb3⟩
       refine hS9.out _ _ ⟨[_, v33, v7, v8], rfl, _, _, _, _, rfl, ?_⟩
       exact ⟨hJ.a0.keep hb3, hJ.a1.keep hb3, hJ.a2.keep hb3, Nat.le_trans hJ.hB hb3.size, bstep hJ.hb hb3, fun _ => rfl, hJ.e, hJ.p.below hb3, hJ.q.below hb3, hJ.n⟩
     refine free_step rfl ?_ ?_
     · rintro d _ W2 ⟨v30, v33, v7, v8, rfl, hJ⟩ hd hD K9 hS9
       simp only [puts, Act.put, List.setIfInBounds_toArray, List.set_cons_zero, List.set_cons_succ]
       go_simp
       refine (ky _).mono ?_
       rintro e w3 ⟨rfl, hb3⟩
       refine hS9.out _ _ ⟨[v30, _, v7, v8], rfl, _, _, _, _, rfl, ?_⟩
       exact ⟨hJ.a0.keep hb3, hJ.a1.keep hb3, hJ.a2.keep hb3, Nat.le_trans hJ.hB hb3.size, bstep hJ.hb hb3, hJ.c, fun _ => rfl, hJ.p.below hb3, hJ.q.below hb3, hJ.n⟩
     refine free_step rfl ?_ ?_
     · rintro d _ W2 ⟨v30, v33, v7, v8, rfl, hJ⟩ hd hD K9 hS9
       simp only [puts, Act.put, List.setIfInBounds_toArray, List.set_cons_zero, List.set_cons_succ]
       go_simp
       refine hS9.out _ _ ⟨[v30, v33, _, v8], rfl, _, _, _, _, rfl, ?_⟩
       exact ⟨hJ.a0.alloc _, hJ.a1.alloc _, hJ.a2.alloc _, by have := hJ.hB; simp; omega, balloc hJ.hb _, hJ.c, hJ.e, hJ.p.new hd hJ.hB, hJ.q.alloc _, fun _ h => (hJ.q.ne h).symm⟩
     refine free_step rfl ?_ ?_
     · rintro d _ W2 ⟨v30, v33, v7, v8, rfl, hJ⟩ hd hD K9 hS9
       simp only [puts, Act.put, List.setIfInBounds_toArray, List.set_cons_zero, List.set_cons_succ]
       go_simp
       refine hS9.out _ _ ⟨[v30, v33, v7, _], rfl, _, _, _, _, rfl, ?_⟩
       exact ⟨hJ.a0.alloc _, hJ.a1.alloc _, hJ.a2.alloc _, by have := hJ.hB; simp; omega, balloc hJ.hb _, hJ.c, hJ.e, hJ.p.alloc _, hJ.q.new hd hJ.hB, fun h _ => hJ.p.ne h⟩
     refine free_step rfl ?_ ?_
     · rintro d _ W2 ⟨v30, v33, v7, v8, rfl, hJ⟩ hd hD K9 hS9
       simp only [puts, Act.put, List.setIfInBounds_toArray, List.set_cons_zero, List.set_cons_succ]
       obtain ⟨h2, h5, h6, h7, -⟩ := hD
       obtain rfl := hJ.c h2
       obtain rfl := hJ.e h5
       obtain ⟨g, a, b, c, rfl, hBg, hg⟩ := hJ.p.at_ h6
       have cg := hg.c
       have fg := hg.f
       have lg := hg.lt
       go_simp
       refine hS9.out _ _ ⟨[_, _, _, v8], rfl, _, _, _, _, rfl, ?_⟩
       exact ⟨hJ.a0.other3 (by omega) _ _ _, hJ.a1.other3 (by omega) _ _ _, hJ.a2.other3 (by omega) _ _ _, by simpa [World.setCell] using hJ.hB, bset3 hJ.hb (by omega) _ _ _, hJ.c, hJ.e, hJ.p.set h6, hJ.q.other (fun h => (hJ.n h6 h).symm), hJ.n⟩
     refine free_step rfl ?_ ?_
     · rintro d _ W2 ⟨v30, v33, v7, v8, rfl, hJ⟩ hd hD K9 hS9
       simp only [puts, Act.put, List.setIfInBounds_toArray, List.set_cons_zero, List.set_cons_succ]
       obtain ⟨h2, h5, h6, h7, h8, -⟩ := hD
       obtain rfl := hJ.c h2
       obtain rfl := hJ.e h5
       obtain ⟨g, a, b, c, rfl, hBg, hg⟩ := hJ.q.at_ h7
       have cg := hg.c
       have fg := hg.f
       have lg := hg.lt
       go_simp
       refine hS9.out _ _ ⟨[_, _, v7, _], rfl, _, _, _, _, rfl, ?_⟩
       exact ⟨hJ.a0.other3 (by omega) _ _ _, hJ.a1.other3 (by omega) _ _ _, hJ.a2.other3 (by omega) _ _ _, by simpa [World.setCell] using hJ.hB, bset3 hJ.hb (by omega) _ _ _, hJ.c, hJ.e, hJ.p.other (fun h => hJ.n h h7), hJ.q.set h7, hJ.n⟩
     · exact free_done
     rintro d _ W2 hd ⟨v30, v33, v7, v8, rfl, hJ⟩
     simp only [fsts, allB] at hd
     obtain ⟨h2, h5, h6, h7, h8, h9, -⟩ := hd
     obtain rfl := hJ.c h2
     obtain rfl := hJ.e h5
     obtain ⟨g7, rfl, hB7, B7⟩ := hJ.p.out h6 h8
     obtain ⟨g8, rfl, hB8, B8⟩ := hJ.q.out h7 h9
     simp only [puts, Act.put, List.setIfInBounds_toArray, List.set_cons_zero, List.set_cons_succ]
     go_wp2_with fail
     go_meet
     exact ⟨_, _, rfl, rfl, B7, B8, hJ.a0, hJ.hb⟩
  case rest =>
    clear kx ky
    obtain ⟨g7, g8, rfl, rfl, C7, C8, D3, hbw0⟩ := hcut
    replace B3 := D3
    clear D3 B4 B5
    replace hbw := hbw0
    clear hbw0
    have cB3 := B3.c
    have fB3 := B3.f
    have lB3 := B3.lt
    have cC7 := C7.c
    have fC7 := C7.f
    have lC7 := C7.lt
    have cC8 := C8.c
    have fC8 := C8.f
    have lC8 := C8.lt
    go_wp2_with fail
    refine (kv1 _).mono ?_
    rintro e w2 ⟨rfl, hb2⟩
    replace B3 : Cs w2 (w.heap.size) #[.int .i64 l, .int .i64 n, .int .i64 p1, .int .i64 p2, .int .i64 s1, .int .i64 s2, .int .i64 t1, .int .i64 t2] := Cs.keep csA hb2
    replace C7 : Cs w2 g7 #[.int .i64 x1, .int .i64 x2, .int .i64 x3] := Cs.keep csA hb2
    replace C8 : Cs w2 g8 #[.int .i64 y1, .int .i64 y2, .int .i64 y3] := Cs.keep csA hb2
    replace hbw : Below w.heap.size w w2 := blA
    replace cB3 := B3.c
    replace fB3 := B3.f
    replace lB3 := B3.lt
    replace cC7 := C7.c
    replace fC7 := C7.f
    replace lC7 := C7.lt
    replace cC8 := C8.c
    replace fC8 := C8.f
    replace lC8 := C8.lt
    clear hb2
    go_wp2_with fail
    refine (ks1 _).mono ?_
    rintro e w3 ⟨rfl, hb3⟩
    replace B3 : Cs w3 (w.heap.size) #[.int .i64 l, .int .i64 n, .int .i64 p1, .int .i64 p2, .int .i64 s1, .int .i64 s2, .int .i64 t1, .int .i64 t2] := Cs.keep csA hb3
    replace C7 : Cs w3 g7 #[.int .i64 x1, .int .i64 x2, .int .i64 x3] := Cs.keep csA hb3
    replace C8 : Cs w3 g8 #[.int .i64 y1, .int .i64 y2, .int .i64 y3] := Cs.keep csA hb3
    replace B9 : Cs w3 (w2.heap.size) #[.int .i64 v1, .int .i64 v2] := Cs.keep csA hb3
    replace hbw : Below w.heap.size w w3 := blA
    replace cB3 := B3.c
    replace fB3 := B3.f
    replace lB3 := B3.lt
    replace cC7 := C7.c
    replace fC7 := C7.f
    replace lC7 := C7.lt
    replace cC8 := C8.c
    replace fC8 := C8.f
    replace lC8 := C8.lt
    replace cB9 := B9.c
    replace fB9 := B9.f
    replace lB9 := B9.lt
    clear hb3
    go_wp2_with fail
    refine (kv2 _).mono ?_
    rintro e w4 ⟨rfl, hb4⟩
    replace B3 : Cs w4 (w.heap.size) #[.int .i64 l, .int .i64 n, .int .i64 p1, .int .i64 p2, .int .i64 s1, .int .i64 s2, .int .i64 t1, .int .i64 t2] := Cs.keep csA hb4
    replace C7 : Cs w4 g7 #[.int .i64 x1, .int .i64 x2, .int .i64 x3] := Cs.keep csA hb4
    replace C8 : Cs w4 g8 #[.int .i64 y1, .int .i64 y2, .int .i64 y3] := Cs.keep csA hb4
    replace B9 : Cs w4 (w2.heap.size) #[.int .i64 v1, .int .i64 v2] := Cs.keep csA hb4
    replace B11 : Cs w4 (w3.heap.size) #[.int .i64 lo1, .int .i64 lo2, .int .i64 hi1, .int .i64 hi2] := Cs.keep csA hb4
    replace hbw : Below w.heap.size w w4 := blA
    replace cB3 := B3.c
    replace fB3 := B3.f
    replace lB3 := B3.lt
    replace cC7 := C7.c
    replace fC7 := C7.f
    replace lC7 := C7.lt
    replace cC8 := C8.c
    replace fC8 := C8.f
    replace lC8 := C8.lt
    replace cB9 := B9.c
    replace fB9 := B9.f
    replace lB9 := B9.lt
    replace cB11 := B11.c
    replace fB11 := B11.f
    replace lB11 := B11.lt
    clear hb4
    go_wp2_with fail
    refine (kv3 _).mono ?_
    rintro e w5 ⟨rfl, hb5⟩
    replace B3 : Cs w5 (w.heap.size) #[.int .i64 l, .int .i64 n, .int .i64 p1, .int .i64 p2, .int .i64 s1, .int .i64 s2, .int .i64 t1, .int .i64 t2] := Cs.keep csA hb5
    replace C7 : Cs w5 g7 #[.int .i64 x1, .int .i64 x2, .int .i64 x3] := Cs.keep csA hb5
    replace C8 : Cs w5 g8 #[.int .i64 y1, .int .i64 y2, .int .i64 y3] := Cs.keep csA hb5
    replace B9 : Cs w5 (w2.heap.size) #[.int .i64 v1, .int .i64 v2] := Cs.keep csA hb5
    replace B11 : Cs w5 (w3.heap.size) #[.int .i64 lo1, .int .i64 lo2, .int .i64 hi1, .int .i64 hi2] := Cs.keep csA hb5
    replace B13 : Cs w5 (w4.heap.size) #[.int .i64 lo1, .int .i64 lo2] := Cs.keep csA hb5
    replace hbw : Below w.heap.size w w5 := blA
    replace cB3 := B3.c
    replace fB3 := B3.f
    replace lB3 := B3.lt
    replace cC7 := C7.c
    replace fC7 := C7.f
    replace lC7 := C7.lt
    replace cC8 := C8.c
    replace fC8 := C8.f
    replace lC8 := C8.lt
    replace cB9 := B9.c
    replace fB9 := B9.f
    replace lB9 := B9.lt
    replace cB11 := B11.c
    replace fB11 := B11.f
    replace lB11 := B11.lt
    replace cB13 := B13.c
    replace fB13 := B13.f
    replace lB13 := B13.lt
    clear hb5
    go_wp2_with fail
    refine (kp1 _).mono ?_
    rintro e w6 ⟨rfl, hb6⟩
    replace B3 : Cs w6 (w.heap.size) #[.int .i64 l, .int .i64 n, .int .i64 p1, .int .i64 p2, .int .i64 s1, .int .i64 s2, .int .i64 t1, .int .i64 t2] := Cs.keep csA hb6
    replace C7 : Cs w6 g7 #[.int .i64 x1, .int .i64 x2, .int .i64 x3] := Cs.keep csA hb6
    replace C8 : Cs w6 g8 #[.int .i64 y1, .int .i64 y2, .int .i64 y3] := Cs.keep csA hb6
    replace B9 : Cs w6 (w2.heap.size) #[.int .i64 v1, .int .i64 v2] := Cs.keep csA hb6
    replace B11 : Cs w6 (w3.heap.size) #[.int .i64 lo1, .int .i64 lo2, .int .i64 hi1, .int .i64 hi2] := Cs.keep csA hb6
    replace B13 : Cs w6 (w4.heap.size) #[.int .i64 lo1, .int .i64 lo2] := Cs.keep csA hb6
    replace B15 : Cs w6 (w5.heap.size) #[.int .i64 hi1, .int .i64 hi2] := Cs.keep csA hb6
    replace hbw : Below w.heap.size w w6 := blA
    replace cB3 := B3.c
    replace fB3 := B3.f
    replace lB3 := B3.lt
    replace cC7 := C7.c
    replace fC7 := C7.f
    replace lC7 := C7.lt
    replace cC8 := C8.c
    replace fC8 := C8.f
    replace lC8 := C8.lt
    replace cB9 := B9.c
    replace fB9 := B9.f
    replace lB9 := B9.lt
    replace cB11 := B11.c
    replace fB11 := B11.f
    replace lB11 := B11.lt
    replace cB13 := B13.c
    replace fB13 := B13.f
    replace lB13 := B13.lt
    replace cB15 := B15.c
    replace fB15 := B15.f
    replace lB15 := B15.lt
    clear hb6
    go_wp2_with fail
    refine (kp2 _).mono ?_
    rintro e w7 ⟨rfl, hb7⟩
    replace B3 : Cs w7 (w.heap.size) #[.int .i64 l, .int .i64 n, .int .i64 p1, .int .i64 p2, .int .i64 s1, .int .i64 s2, .int .i64 t1, .int .i64 t2] := Cs.keep csA hb7
    replace C7 : Cs w7 g7 #[.int .i64 x1, .int .i64 x2, .int .i64 x3] := Cs.keep csA hb7
    replace C8 : Cs w7 g8 #[.int .i64 y1, .int .i64 y2, .int .i64 y3] := Cs.keep csA hb7
    replace B9 : Cs w7 (w2.heap.size) #[.int .i64 v1, .int .i64 v2] := Cs.keep csA hb7
    replace B11 : Cs w7 (w3.heap.size) #[.int .i64 lo1, .int .i64 lo2, .int .i64 hi1, .int .i64 hi2] := Cs.keep csA hb7
    replace B13 : Cs w7 (w4.heap.size) #[.int .i64 lo1, .int .i64 lo2] := Cs.keep csA hb7
    replace B15 : Cs w7 (w5.heap.size) #[.int .i64 hi1, .int .i64 hi2] := Cs.keep csA hb7
    replace hbw : Below w.heap.size w w7 := blA
    replace cB3 := B3.c
    replace fB3 := B3.f
    replace lB3 := B3.lt
    replace cC7 := C7.c
    replace fC7 := C7.f
    replace lC7 := C7.lt
    replace cC8 := C8.c
    replace fC8 := C8.f
    replace lC8 := C8.lt
    replace cB9 := B9.c
    replace fB9 := B9.f
    replace lB9 := B9.lt
    replace cB11 := B11.c
    replace fB11 := B11.f
    replace lB11 := B11.lt
    replace cB13 := B13.c
    replace fB13 := B13.f
    replace lB13 := B13.lt
    replace cB15 := B15.c
    replace fB15 := B15.f
    replace lB15 := B15.lt
    clear hb7
    go_wp2_with fail
    refine (kp3 _).mono ?_
    rintro e w8 ⟨rfl, hb8⟩
    replace B3 : Cs w8 (w.heap.size) #[.int .i64 l, .int .i64 n, .int .i64 p1, .int .i64 p2, .int .i64 s1, .int .i64 s2, .int .i64 t1, .int .i64 t2] := Cs.keep csA hb8
    replace C7 : Cs w8 g7 #[.int .i64 x1, .int .i64 x2, .int .i64 x3] := Cs.keep csA hb8
    replace C8 : Cs w8 g8 #[.int .i64 y1, .int .i64 y2, .int .i64 y3] := Cs.keep csA hb8
    replace B9 : Cs w8 (w2.heap.size) #[.int .i64 v1, .int .i64 v2] := Cs.keep csA hb8
    replace B11 : Cs w8 (w3.heap.size) #[.int .i64 lo1, .int .i64 lo2, .int .i64 hi1, .int .i64 hi2] := Cs.keep csA hb8
    replace B13 : Cs w8 (w4.heap.size) #[.int .i64 lo1, .int .i64 lo2] := Cs.keep csA hb8
    replace B15 : Cs w8 (w5.heap.size) #[.int .i64 hi1, .int .i64 hi2] := Cs.keep csA hb8
    replace hbw : Below w.heap.size w w8 := blA
    replace cB3 := B3.c
    replace fB3 := B3.f
    replace lB3 := B3.lt
    replace cC7 := C7.c
    replace fC7 := C7.f
    replace lC7 := C7.lt
    replace cC8 := C8.c
    replace fC8 := C8.f
    replace lC8 := C8.lt
    replace cB9 := B9.c
    replace fB9 := B9.f
    replace lB9 := B9.lt
    replace cB11 := B11.c
    replace fB11 := B11.f
    replace lB11 := B11.lt
    replace cB13 := B13.c
    replace fB13 := B13.f
    replace lB13 := B13.lt
    replace cB15 := B15.c
    replace fB15 := B15.f
    replace lB15 := B15.lt
    clear hb8
    go_wp2_with fail
    refine (kl1 _).mono ?_
    rintro e w9 ⟨rfl, hb9⟩
    replace B3 : Cs w9 (w.heap.size) #[.int .i64 l, .int .i64 n, .int .i64 p1, .int .i64 p2, .int .i64 s1, .int .i64 s2, .int .i64 t1, .int .i64 t2] := Cs.keep csA hb9
    replace C7 : Cs w9 g7 #[.int .i64 x1, .int .i64 x2, .int .i64 x3] := Cs.keep csA hb9
    replace C8 : Cs w9 g8 #[.int .i64 y1, .int .i64 y2, .int .i64 y3] := Cs.keep csA hb9
    replace B9 : Cs w9 (w2.heap.size) #[.int .i64 v1, .int .i64 v2] := Cs.keep csA hb9
    replace B11 : Cs w9 (w3.heap.size) #[.int .i64 lo1, .int .i64 lo2, .int .i64 hi1, .int .i64 hi2] := Cs.keep csA hb9
    replace B13 : Cs w9 (w4.heap.size) #[.int .i64 lo1, .int .i64 lo2] := Cs.keep csA hb9
    replace B15 : Cs w9 (w5.heap.size) #[.int .i64 hi1, .int .i64 hi2] := Cs.keep csA hb9
    replace hbw : Below w.heap.size w w9 := blA
    replace cB3 := B3.c
    replace fB3 := B3.f
    replace lB3 := B3.lt
    replace cC7 := C7.c
    replace fC7 := C7.f
    replace lC7 := C7.lt
    replace cC8 := C8.c
    replace fC8 := C8.f
    replace lC8 := C8.lt
    replace cB9 := B9.c
    replace fB9 := B9.f
    replace lB9 := B9.lt
    replace cB11 := B11.c
    replace fB11 := B11.f
    replace lB11 := B11.lt
    replace cB13 := B13.c
    replace fB13 := B13.f
    replace lB13 := B13.lt
    replace cB15 := B15.c
    replace fB15 := B15.f
    replace lB15 := B15.lt
    clear hb9
    go_wp2_with fail
    refine (kl2 _).mono ?_
    rintro e w10 ⟨rfl, hb10⟩
    try clear cB9 fB9 lB9
    try clear B9
    replace B3 : Cs w10 (w.heap.size) #[.int .i64 l, .int .i64 n, .int .i64 p1, .int .i64 p2, .int .i64 s1, .int .i64 s2, .int .i64 t1, .int .i64 t2] := Cs.keep csA hb10
    replace C7 : Cs w10 g7 #[.int .i64 x1, .int .i64 x2, .int .i64 x3] := Cs.keep csA hb10
    replace C8 : Cs w10 g8 #[.int .i64 y1, .int .i64 y2, .int .i64 y3] := Cs.keep csA hb10
    replace B11 : Cs w10 (w3.heap.size) #[.int .i64 lo1, .int .i64 lo2, .int .i64 hi1, .int .i64 hi2] := Cs.keep csA hb10
    replace B13 : Cs w10 (w4.heap.size) #[.int .i64 lo1, .int .i64 lo2] := Cs.keep csA hb10
    replace B15 : Cs w10 (w5.heap.size) #[.int .i64 hi1, .int .i64 hi2] := Cs.keep csA hb10
    replace hbw : Below w.heap.size w w10 := blA
    replace cB3 := B3.c
    replace fB3 := B3.f
    replace lB3 := B3.lt
    replace cC7 := C7.c
    replace fC7 := C7.f
    replace lC7 := C7.lt
    replace cC8 := C8.c
    replace fC8 := C8.f
    replace lC8 := C8.lt
    replace cB11 := B11.c
    replace fB11 := B11.f
    replace lB11 := B11.lt
    replace cB13 := B13.c
    replace fB13 := B13.f
    replace lB13 := B13.lt
    replace cB15 := B15.c
    replace fB15 := B15.f
    replace lB15 := B15.lt
    clear hb10
    clear kv1 ks1 kv2 kv3 kp1 kp2 kp3 kl1 kl2
    go_upto_region 14 with fail
    obtain ⟨r1, r2, r3, r4, r5, r6⟩ := Hm.out
    simp only [r1, r2, r3, r4, r5, r6]
    clear r1 r2 r3 r4 r5 r6 Hm
    go_wp2_with fail
    refine (ks2 _).mono ?_
    rintro e w11 ⟨rfl, hb11⟩
    try clear cC8 fC8 lC8
    try clear C8
    try clear cB9 fB9 lB9
    try clear B9
    try clear cB13 fB13 lB13
    try clear B13
    try clear cB15 fB15 lB15
    try clear B15
    replace B3 : Cs w11 (w.heap.size) #[.int .i64 l, .int .i64 n, .int .i64 p1, .int .i64 p2, .int .i64 s1, .int .i64 s2, .int .i64 t1, .int .i64 t2] := Cs.keep csA hb11
    replace C7 : Cs w11 g7 #[.int .i64 x1, .int .i64 x2, .int .i64 x3] := Cs.keep csA hb11
    replace B11 : Cs w11 (w3.heap.size) #[.int .i64 lo1, .int .i64 lo2, .int .i64 hi1, .int .i64 hi2] := Cs.keep csA hb11
    replace B17 : Cs w11 (w10.heap.size) #[.int .i64 l, .int .i64 n, .int .i64 m1, .int .i64 M1, .int .i64 m2, .int .i64 M2, .int .i64 m3, .int .i64 M3] := Cs.keep csA hb11
    replace hbw : Below w.heap.size w w11 := blA
    replace cB3 := B3.c
    replace fB3 := B3.f
    replace lB3 := B3.lt
    replace cC7 := C7.c
    replace fC7 := C7.f
    replace lC7 := C7.lt
    replace cB11 := B11.c
    replace fB11 := B11.f
    replace lB11 := B11.lt
    replace cB17 := B17.c
    replace fB17 := B17.f
    replace lB17 := B17.lt
    clear hb11
    go_wp2_with fail
    refine (kp4 _).mono ?_
    rintro e w12 ⟨rfl, hb12⟩
    try clear cC8 fC8 lC8
    try clear C8
    try clear cB9 fB9 lB9
    try clear B9
    try clear cB13 fB13 lB13
    try clear B13
    try clear cB15 fB15 lB15
    try clear B15
    try clear cB17 fB17 lB17
    try clear B17
    replace B3 : Cs w12 (w.heap.size) #[.int .i64 l, .int .i64 n, .int .i64 p1, .int .i64 p2, .int .i64 s1, .int .i64 s2, .int .i64 t1, .int .i64 t2] := Cs.keep csA hb12
    replace C7 : Cs w12 g7 #[.int .i64 x1, .int .i64 x2, .int .i64 x3] := Cs.keep csA hb12
    replace B11 : Cs w12 (w3.heap.size) #[.int .i64 lo1, .int .i64 lo2, .int .i64 hi1, .int .i64 hi2] := Cs.keep csA hb12
    replace B18 : Cs w12 (w11.heap.size) #[.int .i64 tl1, .int .i64 tl2, .int .i64 th1, .int .i64 th2] := Cs.keep csA hb12
    replace hbw : Below w.heap.size w w12 := blA
    replace cB3 := B3.c
    replace fB3 := B3.f
    replace lB3 := B3.lt
    replace cC7 := C7.c
    replace fC7 := C7.f
    replace lC7 := C7.lt
    replace cB11 := B11.c
    replace fB11 := B11.f
    replace lB11 := B11.lt
    replace cB18 := B18.c
    replace fB18 := B18.f
    replace lB18 := B18.lt
    clear hb12
    go_wp2_with fail
    refine (kp5 _).mono ?_
    rintro e w13 ⟨rfl, hb13⟩
    try clear cC8 fC8 lC8
    try clear C8
    try clear cB9 fB9 lB9
    try clear B9
    try clear cB13 fB13 lB13
    try clear B13
    try clear cB15 fB15 lB15
    try clear B15
    try clear cB17 fB17 lB17
    try clear B17
    replace B3 : Cs w13 (w.heap.size) #[.int .i64 l, .int .i64 n, .int .i64 p1, .int .i64 p2, .int .i64 s1, .int .i64 s2, .int .i64 t1, .int .i64 t2] := Cs.keep csA hb13
    replace C7 : Cs w13 g7 #[.int .i64 x1, .int .i64 x2, .int .i64 x3] := Cs.keep csA hb13
    replace B11 : Cs w13 (w3.heap.size) #[.int .i64 lo1, .int .i64 lo2, .int .i64 hi1, .int .i64 hi2] := Cs.keep csA hb13
    replace B18 : Cs w13 (w11.heap.size) #[.int .i64 tl1, .int .i64 tl2, .int .i64 th1, .int .i64 th2] := Cs.keep csA hb13
    replace hbw : Below w.heap.size w w13 := blA
    replace cB3 := B3.c
    replace fB3 := B3.f
    replace lB3 := B3.lt
    replace cC7 := C7.c
    replace fC7 := C7.f
    replace lC7 := C7.lt
    replace cB11 := B11.c
    replace fB11 := B11.f
    replace lB11 := B11.lt
    replace cB18 := B18.c
    replace fB18 := B18.f
    replace lB18 := B18.lt
    clear hb13
    go_wp2_with fail
    refine (kl3 _).mono ?_
    rintro e w14 ⟨rfl, hb14⟩
    try clear cC8 fC8 lC8
    try clear C8
    try clear cB9 fB9 lB9
    try clear B9
    try clear cB13 fB13 lB13
    try clear B13
    try clear cB15 fB15 lB15
    try clear B15
    try clear cB17 fB17 lB17
    try clear B17
    replace B3 : Cs w14 (w.heap.size) #[.int .i64 l, .int .i64 n, .int .i64 p1, .int .i64 p2, .int .i64 s1, .int .i64 s2, .int .i64 t1, .int .i64 t2] := Cs.keep csA hb14
    replace C7 : Cs w14 g7 #[.int .i64 x1, .int .i64 x2, .int .i64 x3] := Cs.keep csA hb14
    replace B11 : Cs w14 (w3.heap.size) #[.int .i64 lo1, .int .i64 lo2, .int .i64 hi1, .int .i64 hi2] := Cs.keep csA hb14
    replace B18 : Cs w14 (w11.heap.size) #[.int .i64 tl1, .int .i64 tl2, .int .i64 th1, .int .i64 th2] := Cs.keep csA hb14
    replace hbw : Below w.heap.size w w14 := blA
    replace cB3 := B3.c
    replace fB3 := B3.f
    replace lB3 := B3.lt
    replace cC7 := C7.c
    replace fC7 := C7.f
    replace lC7 := C7.lt
    replace cB11 := B11.c
    replace fB11 := B11.f
    replace lB11 := B11.lt
    replace cB18 := B18.c
    replace fB18 := B18.f
    replace lB18 := B18.lt
    clear hb14
    go_wp2_with fail
    refine (kl4 _).mono ?_
    rintro e w15 ⟨rfl, hb15⟩
    try clear cC8 fC8 lC8
    try clear C8
    try clear cB9 fB9 lB9
    try clear B9
    try clear cB13 fB13 lB13
    try clear B13
    try clear cB15 fB15 lB15
    try clear B15
    try clear cB17 fB17 lB17
    try clear B17
    replace B3 : Cs w15 (w.heap.size) #[.int .i64 l, .int .i64 n, .int .i64 p1, .int .i64 p2, .int .i64 s1, .int .i64 s2, .int .i64 t1, .int .i64 t2] := Cs.keep csA hb15
    replace C7 : Cs w15 g7 #[.int .i64 x1, .int .i64 x2, .int .i64 x3] := Cs.keep csA hb15
    replace B11 : Cs w15 (w3.heap.size) #[.int .i64 lo1, .int .i64 lo2, .int .i64 hi1, .int .i64 hi2] := Cs.keep csA hb15
    replace B18 : Cs w15 (w11.heap.size) #[.int .i64 tl1, .int .i64 tl2, .int .i64 th1, .int .i64 th2] := Cs.keep csA hb15
    replace hbw : Below w.heap.size w w15 := blA
    replace cB3 := B3.c
    replace fB3 := B3.f
    replace lB3 := B3.lt
    replace cC7 := C7.c
    replace fC7 := C7.f
    replace lC7 := C7.lt
    replace cB11 := B11.c
    replace fB11 := B11.f
    replace lB11 := B11.lt
    replace cB18 := B18.c
    replace fB18 := B18.f
    replace lB18 := B18.lt
    clear hb15
    go_wp2_with fail
    refine (kl5 _).mono ?_
    rintro e w16 ⟨rfl, hb16⟩
    try clear cC8 fC8 lC8
    try clear C8
    try clear cB9 fB9 lB9
    try clear B9
    try clear cB11 fB11 lB11
    try clear B11
    try clear cB13 fB13 lB13
    try clear B13
    try clear cB15 fB15 lB15
    try clear B15
    try clear cB17 fB17 lB17
    try clear B17
    try clear cB18 fB18 lB18
    try clear B18
    replace B3 : Cs w16 (w.heap.size) #[.int .i64 l, .int .i64 n, .int .i64 p1, .int .i64 p2, .int .i64 s1, .int .i64 s2, .int .i64 t1, .int .i64 t2] := Cs.keep csA hb16
    replace C7 : Cs w16 g7 #[.int .i64 x1, .int .i64 x2, .int .i64 x3] := Cs.keep csA hb16
    replace hbw : Below w.heap.size w w16 := blA
    replace cB3 := B3.c
    replace fB3 := B3.f
    replace lB3 := B3.lt
    replace cC7 := C7.c
    replace fC7 := C7.f
    replace lC7 := C7.lt
    clear hb16
    go_wp2_with fail
    refine (kv4 _).mono ?_
    rintro e w17 ⟨rfl, hb17⟩
    try clear cC8 fC8 lC8
    try clear C8
    try clear cB9 fB9 lB9
    try clear B9
    try clear cB11 fB11 lB11
    try clear B11
    try clear cB13 fB13 lB13
    try clear B13
    try clear cB15 fB15 lB15
    try clear B15
    try clear cB17 fB17 lB17
    try clear B17
    try clear cB18 fB18 lB18
    try clear B18
    replace B3 : Cs w17 (w.heap.size) #[.int .i64 l, .int .i64 n, .int .i64 p1, .int .i64 p2, .int .i64 s1, .int .i64 s2, .int .i64 t1, .int .i64 t2] := Cs.keep csA hb17
    replace C7 : Cs w17 g7 #[.int .i64 x1, .int .i64 x2, .int .i64 x3] := Cs.keep csA hb17
    replace hbw : Below w.heap.size w w17 := blA
    replace cB3 := B3.c
    replace fB3 := B3.f
    replace lB3 := B3.lt
    replace cC7 := C7.c
    replace fC7 := C7.f
    replace lC7 := C7.lt
    clear hb17
    go_wp2_with fail
    refine (kp6 _).mono ?_
    rintro e w18 ⟨rfl, hb18⟩
    try clear cC8 fC8 lC8
    try clear C8
    try clear cB9 fB9 lB9
    try clear B9
    try clear cB11 fB11 lB11
    try clear B11
    try clear cB13 fB13 lB13
    try clear B13
    try clear cB15 fB15 lB15
    try clear B15
    try clear cB17 fB17 lB17
    try clear B17
    try clear cB18 fB18 lB18
    try clear B18
    replace B3 : Cs w18 (w.heap.size) #[.int .i64 l, .int .i64 n, .int .i64 p1, .int .i64 p2, .int .i64 s1, .int .i64 s2, .int .i64 t1, .int .i64 t2] := Cs.keep csA hb18
    replace C7 : Cs w18 g7 #[.int .i64 x1, .int .i64 x2, .int .i64 x3] := Cs.keep csA hb18
    replace B21 : Cs w18 (w17.heap.size) #[.int .i64 u1, .int .i64 u2] := Cs.keep csA hb18
    replace hbw : Below w.heap.size w w18 := blA
    replace cB3 := B3.c
    replace fB3 := B3.f
    replace lB3 := B3.lt
    replace cC7 := C7.c
    replace fC7 := C7.f
    replace lC7 := C7.lt
    replace cB21 := B21.c
    replace fB21 := B21.f
    replace lB21 := B21.lt
    clear hb18
    clear ks2 kp4 kp5 kl3 kl4 kl5 kv4 kp6
    by_cases h1 : u2 = 1
    · by_cases h2 : u1 < 1
      · clear Hback
        go_wp2_with fail
        refine (kw _ (HT.out.below blA HT.out.1)).mono ?_
        rintro e w19 ⟨rfl, hb19⟩
        try clear cB3 fB3 lB3
        try clear B3
        try clear cC7 fC7 lC7
        try clear C7
        try clear cC8 fC8 lC8
        try clear C8
        try clear cB9 fB9 lB9
        try clear B9
        try clear cB11 fB11 lB11
        try clear B11
        try clear cB13 fB13 lB13
        try clear B13
        try clear cB15 fB15 lB15
        try clear B15
        try clear cB17 fB17 lB17
        try clear B17
        try clear cB18 fB18 lB18
        try clear B18
        try clear cB21 fB21 lB21
        try clear B21
        replace hbw : Below w.heap.size w w19 := blA
        clear hb19
        go_wp2_with fail
        go_ret
        exact ⟨rfl, blA⟩
      · by_cases h3 : 100000 < u1
        · clear Hback
          go_wp2_with fail
          refine (kw _ (HT.out.below blA HT.out.1)).mono ?_
          rintro e w19 ⟨rfl, hb19⟩
          try clear cB3 fB3 lB3
          try clear B3
          try clear cC7 fC7 lC7
          try clear C7
          try clear cC8 fC8 lC8
          try clear C8
          try clear cB9 fB9 lB9
          try clear B9
          try clear cB11 fB11 lB11
          try clear B11
          try clear cB13 fB13 lB13
          try clear B13
          try clear cB15 fB15 lB15
          try clear B15
          try clear cB17 fB17 lB17
          try clear B17
          try clear cB18 fB18 lB18
          try clear B18
          try clear cB21 fB21 lB21
          try clear B21
          replace hbw : Below w.heap.size w w19 := blA
          clear hb19
          go_wp2_with fail
          go_ret
          exact ⟨rfl, blA⟩
        · have kb := Hback.out h1 (by omega) (by omega)
          clear Hback
          go_wp2_with fail
          refine (kb _).mono ?_
          rintro e w19 ⟨rfl, hb19⟩
          try clear cB3 fB3 lB3
          try clear B3
          try clear cC8 fC8 lC8
          try clear C8
          try clear cB9 fB9 lB9
          try clear B9
          try clear cB11 fB11 lB11
          try clear B11
          try clear cB13 fB13 lB13
          try clear B13
          try clear cB15 fB15 lB15
          try clear B15
          try clear cB17 fB17 lB17
          try clear B17
          try clear cB18 fB18 lB18
          try clear B18
          try clear cB21 fB21 lB21
          try clear B21
          replace C7 : Cs w19 g7 #[.int .i64 x1, .int .i64 x2, .int .i64 x3] := Cs.keep csA hb19
          replace hbw : Below w.heap.size w w19 := blA
          replace cC7 := C7.c
          replace fC7 := C7.f
          replace lC7 := C7.lt
          clear hb19
          clear kb cC7 fC7 lC7
          go_wp2_with fail
          have B23 : Cs (w19.alloc (.cells #[.int .i64 x1, .int .i64 1] 69)) w19.heap.size #[.int .i64 x1, .int .i64 1] := csA
          replace C7 := C7.alloc (.cells #[.int .i64 x1, .int .i64 1] 69)
          replace hbw : Below w.heap.size w (w19.alloc (.cells #[.int .i64 x1, .int .i64 1] 69)) := blA
          generalize w19.alloc (.cells #[.int .i64 x1, .int .i64 1] 69) = W at *
          generalize w19.heap.size = g23 at *
          have hS0 : SP2 g23 x1 1 W.drew ∧ (W.drew.cell? ⟨g7, 0, none⟩ = some (.int .i64 x1)) := ⟨⟨B23.c 0, B23.c 1⟩, C7.c 0⟩
          refine wp_region_seq (S := fun V => SP2 g23 x1 1 V ∧ (V.cell? ⟨g7, 0, none⟩ = some (.int .i64 x1))) [.t 0 1, .t 1 3, .t 2 7, .t 3 15, .t 4 31, .t 5 63, .o 6 127, .t 7 255, .t 8 511, .t 9 1023, .o 10 2047, .t 11 4095, .t 12 8191] (by kernel_rfl) (by kernel_rfl) (by as_aux_lemma => kernel_rfl) (by kernel_rfl) (fun c a d v w h => by cases d <;> exact h) hS0 (fun _ => ?_)
          clear hS0
          refine seq_take (v := ?_) rfl (by rfl) ?_ ?_
          rotate_left
          · intro w9 hSw; (unfold SP2 at hSw); (go_simp <;> with_reducible rfl)
          try simp only [Act.put, List.setIfInBounds_toArray, List.set_cons_zero, List.set_cons_succ]
          refine seq_take (v := ?_) rfl (by rfl) ?_ ?_
          rotate_left
          · intro w9 hSw; (unfold SP2 at hSw); (go_simp <;> with_reducible rfl)
          try simp only [Act.put, List.setIfInBounds_toArray, List.set_cons_zero, List.set_cons_succ]
          refine seq_take (v := ?_) rfl (by rfl) ?_ ?_
          rotate_left
          · intro w9 hSw; (unfold SP2 at hSw); (go_simp <;> with_reducible rfl)
          try simp only [Act.put, List.setIfInBounds_toArray, List.set_cons_zero, List.set_cons_succ]
          refine seq_take (v := ?_) rfl (by rfl) ?_ ?_
          rotate_left
          · intro w9 hSw; (unfold SP2 at hSw); (go_simp <;> with_reducible rfl)
          try simp only [Act.put, List.setIfInBounds_toArray, List.set_cons_zero, List.set_cons_succ]
          refine seq_take (v := ?_) rfl (by rfl) ?_ ?_
          rotate_left
          · intro w9 hSw; (unfold SP2 at hSw); (go_simp <;> with_reducible rfl)
          try simp only [Act.put, List.setIfInBounds_toArray, List.set_cons_zero, List.set_cons_succ]
          refine seq_take (v := ?_) rfl (by rfl) ?_ ?_
          rotate_left
          · intro w9 hSw; (unfold SP2 at hSw); (go_simp <;> with_reducible rfl)
          try simp only [Act.put, List.setIfInBounds_toArray, List.set_cons_zero, List.set_cons_succ]
          refine seq_one rfl (fun K9 hS9 => ?_)
          go_simp
          refine (kh _).mono ?_
          rintro e w20 ⟨rfl, hb20⟩
          replace B23 := B23.drew.keep hb20
          replace C7 := C7.drew.keep hb20
          replace hbw : Below w.heap.size w w20 := blA
          clear hb20
          refine hS9.out _ _ ⟨⟨B23.c 0, B23.c 1⟩, C7.c 0⟩ (fun _ => ?_)
          clear hS9 K9
          try simp only [Act.put, List.setIfInBounds_toArray, List.set_cons_zero, List.set_cons_succ]
          refine seq_take (v := ?_) rfl (by rfl) ?_ ?_
          rotate_left
          · intro w9 hSw; (unfold SP2 at hSw); (go_simp <;> with_reducible rfl)
          try simp only [Act.put, List.setIfInBounds_toArray, List.set_cons_zero, List.set_cons_succ]
          refine seq_take (v := ?_) rfl (by rfl) ?_ ?_
          rotate_left
          · intro w9 hSw; (unfold SP2 at hSw); (go_simp <;> with_reducible rfl)
          try simp only [Act.put, List.setIfInBounds_toArray, List.set_cons_zero, List.set_cons_succ]
          refine seq_take (v := ?_) rfl (by rfl) ?_ ?_
          rotate_left
          · intro w9 hSw; (unfold SP2 at hSw); (go_simp <;> with_reducible rfl)
          try simp only [Act.put, List.setIfInBounds_toArray, List.set_cons_zero, List.set_cons_succ]
          refine seq_one rfl (fun K9 hS9 => ?_)
          go_simp
          refine (kw _ (HT.out.below blA HT.out.1)).mono ?_
          rintro e w21 ⟨rfl, hb21⟩
          replace B23 := B23.keep hb21
          replace C7 := C7.keep hb21
          replace hbw : Below w.heap.size w w21 := blA
          clear hb21
          refine hS9.out _ _ ⟨⟨B23.c 0, B23.c 1⟩, C7.c 0⟩ (fun _ => ?_)
          clear hS9 K9
          try simp only [Act.put, List.setIfInBounds_toArray, List.set_cons_zero, List.set_cons_succ]
          refine seq_take (v := ?_) rfl (by rfl) ?_ ?_
          rotate_left
          · intro w9 hSw; (unfold SP2 at hSw); (go_simp <;> with_reducible rfl)
          try simp only [Act.put, List.setIfInBounds_toArray, List.set_cons_zero, List.set_cons_succ]
          refine seq_take (v := ?_) rfl (by rfl) ?_ ?_
          rotate_left
          · intro w9 hSw; (unfold SP2 at hSw); (go_simp <;> with_reducible rfl)
          try simp only [Act.put, List.setIfInBounds_toArray, List.set_cons_zero, List.set_cons_succ]
          refine seq_done ?_
          go_wp2_with fail
          go_ret
          exact ⟨rfl, hbw⟩
    · clear Hback
      go_wp2_with fail
      refine (kw _ (HT.out.below blA HT.out.1)).mono ?_
      rintro e w19 ⟨rfl, hb19⟩
      try clear cB3 fB3 lB3
      try clear B3
      try clear cC7 fC7 lC7
      try clear C7
      try clear cC8 fC8 lC8
      try clear C8
      try clear cB9 fB9 lB9
      try clear B9
      try clear cB11 fB11 lB11
      try clear B11
      try clear cB13 fB13 lB13
      try clear B13
      try clear cB15 fB15 lB15
      try clear B15
      try clear cB17 fB17 lB17
      try clear B17
      try clear cB18 fB18 lB18
      try clear B18
      try clear cB21 fB21 lB21
      try clear B21
      replace hbw : Below w.heap.size w w19 := blA
      clear hb19
      go_wp2_with fail
      go_ret
      exact ⟨rfl, blA⟩
end

set_option maxRecDepth 100000 in
set_option maxHeartbeats 4000000 in
theorem benchSquared_any (l n p1 p2 s1 s2 t1 t2 a1 b1 c1 a2 b2 c2 : Int) (w : World) (ha1 : 0 ≤ a1 ∧ a1 ≤ 4294967295) (hb1 : 0 ≤ b1 ∧ b1 ≤ 4294967295) (hc1 : 0 ≤ c1 ∧ c1 ≤ 4294967295) (ha2 : 0 ≤ a2 ∧ a2 ≤ 4294967295) (hb2 : 0 ≤ b2 ∧ b2 ≤ 4294967295) (hc2 : 0 ≤ c2 ∧ c2 ≤ 4294967295) (hT : TabW w) :
    Calls Tryd.prog 12 #[.agg #[.int .i64 l, .int .i64 n, .int .i64 p1, .int .i64 p2, .int .i64 s1, .int .i64 s2, .int .i64 t1, .int .i64 t2], .agg #[.int .u32 a1, .int .u32 b1, .int .u32 c1], .agg #[.int .u32 a2, .int .u32 b2, .int .u32 c2]] w fun e w' => e = .returned (.bool true) ∧ Below w.heap.size w w' := by
  by_cases hbar : barE l n p1 p2 s1 s2 t1 t2 = 0
  · exact squared_main l n p1 p2 s1 s2 t1 t2 a1 b1 c1 a2 b2 c2 w hbar ha1 hb1 hc1 ha2 hb2 hc2 hT
  · have kw := fun W hT => works_any W hT
    have HT := Lib.hid hT
    have kc := fun (W : World) => rcheckBar_any l n p1 p2 s1 s2 t1 t2 W
    generalize barE l n p1 p2 s1 s2 t1 t2 = q at *
    have x1 : (q != 0) = true := by simpa using hbar
    clear hT ha1 hb1 hc1 ha2 hb2 hc2
    go_enter Tryd.func12, Tryd.ntmps12
    go_wp2_with fail
    refine (kc _).mono ?_
    rintro e w1 ⟨rfl, hb1⟩
    replace hbw : Below w.heap.size w w1 := blA
    clear hb1
    go_wp2_with fail
    refine (kw _ (HT.out.below blA HT.out.1)).mono ?_
    rintro e w2 ⟨rfl, hb2⟩
    replace hbw : Below w.heap.size w w2 := blA
    clear hb2
    go_wp2_with fail
    go_ret
    exact ⟨rfl, blA⟩

end Go.Proofs.YtmddpjlpbmfbgaaDoor
end

/- BenchSquared: the call answers true, whatever the input, and every argument reads as it did. Conditions: none of its own; the listed variable is tied to the program's text by the given tie. -/
section
namespace Go.Proofs.YtmddpjlpbmfbgaaDoor
open Go.ChangeShapes Go.WideShapes Go.ChangeAt Go.RowKit
set_option linter.unusedVariables false

theorem benchSquared_params : (Tryd.f12.params.toList.all fun t => Tryd.prog.readableRec t && decide (t < Tryd.prog.types.size)) = true := by kernel_rfl

set_option maxRecDepth 100000 in
/-- the walk, for each argument that there is and each world that holds the listed variable -/
theorem benchSquared_contract (H : Type) (enc : TypeId × Value → H) (W : World) (base : Nat) (args : Array Value) (ds gs : List (DataW H)) (before : List MemPlace)
    (hval : ∀ (j : Nat) t v, Tryd.f12.params[j]? = some t → args[j]? = some v → Value.okWide Tryd.prog W .any base t v)
    (hW : DataW.Whole enc Tryd.prog Tryd.f12.params.toList Rows.benchSquaredSpec.vars false W args.toList ds gs before) (hL : laidMetH Tryd.prog Rows.benchSquaredRow.laid W) :
    Calls Tryd.prog 12 args W fun e W' => ∃ v, e = .returned v ∧ Rows.benchSquaredSpec.post enc Tryd.prog Tryd.f12 false true false false W args v W' := by
  have hW' := hW
  obtain ⟨p, q, hA0, hV, hps, hfz, hnd⟩ := hW
  have hA : DataW.TrodAll enc Tryd.prog W 0 (fun _ => true) true Tryd.f12.params.toList args.toList ds p := hA0
  rw [Tryd.params12] at hA hval
  obtain ⟨v0, v1, v2, d0, d1, d2, p0, p1, p2, rfl, rfl, rfl, h0, h1, h2⟩ := trodAll_three hA
  have hf := tabAt hL
  obtain ⟨l0, k0, p0a, p0b, s0a, s0b, t0a, t0b, rfl⟩ := arg_bar (hval 0 75 v0 rfl rfl) h0
  obtain ⟨a1, b1, c1, rfl, ba1, bb1, bc1⟩ := arg_u32x3 (hval 1 85 v1 rfl rfl) h1
  obtain ⟨a2, b2, c2, rfl, ba2, bb2, bc2⟩ := arg_u32x3 (hval 2 85 v2 rfl rfl) h2
  clear hA0
  refine (benchSquared_any l0 k0 p0a p0b s0a s0b t0a t0b a1 b1 c1 a2 b2 c2 W ba1 bb1 bc1 ba2 bb2 bc2 hf).mono fun e W' ⟨he, hb⟩ => ?_
  subst he
  exact ⟨_, rfl, law_done laidOut rfl (fun t ht => by have := List.all_eq_true.1 benchSquared_params t ht; simpa using this) (by kernel_rfl) Tryd.underlying4 hW' (fun h => by subst h; rfl) (fun h => by subst h; rfl) (fun h => by subst h; rfl) hb⟩

theorem benchSquared_laid_met (os : Os) : laidMet Tryd.prog Rows.benchSquaredRow.laid ((laidWorld os).forCall (fun _ _ => 0) ⟨#[], #[.agg #[.int .i64 0, .int .i64 0, .int .i64 0, .int .i64 0, .int .i64 0, .int .i64 0, .int .i64 0, .int .i64 0], .agg #[.int .u32 0, .int .u32 0, .int .u32 0], .agg #[.int .u32 0, .int .u32 0, .int .u32 0]], []⟩).memory :=
  laidMet_of_run' 8 (by kernel_rfl) (by kernel_rfl)
theorem benchSquared_reads (os : Os) {H : Type} (enc : TypeId × Value → H) : ∃ places, DataW.whole enc Tryd.prog ((laidWorld os).forCall (fun _ _ => 0) ⟨#[], #[.agg #[.int .i64 0, .int .i64 0, .int .i64 0, .int .i64 0, .int .i64 0, .int .i64 0, .int .i64 0, .int .i64 0], .agg #[.int .u32 0, .int .u32 0, .int .u32 0], .agg #[.int .u32 0, .int .u32 0, .int .u32 0]], []⟩).memory Tryd.f12.params.toList Rows.benchSquaredSpec.vars false (#[.agg #[.int .i64 0, .int .i64 0, .int .i64 0, .int .i64 0, .int .i64 0, .int .i64 0, .int .i64 0, .int .i64 0], .agg #[.int .u32 0, .int .u32 0, .int .u32 0], .agg #[.int .u32 0, .int .u32 0, .int .u32 0]] : Array Value).toList 8 = some ([.agg [.lit (.int .i64 0), .lit (.int .i64 0), .agg [.lit (.int .i64 0), .lit (.int .i64 0)], .agg [.lit (.int .i64 0), .lit (.int .i64 0)], .agg [.lit (.int .i64 0), .lit (.int .i64 0)]], .agg [.lit (.int .u32 0), .lit (.int .u32 0), .lit (.int .u32 0)], .agg [.lit (.int .u32 0), .lit (.int .u32 0), .lit (.int .u32 0)]], [], places) :=
  ⟨[], by kernel_rfl⟩

set_option maxRecDepth 100000 in
theorem benchSquared_lifted (os : Os) (started : os.Started) (H : Type) (enc : TypeId × Value → H) (F : Stop.Interp) :
    ReturnsInHanded {} Tryd.checked os 12 .any ((OpenSpec.ofChange Rows.benchSquaredSpec).preRow enc Tryd.prog Tryd.f12 Rows.benchSquaredRow.domain false Rows.benchSquaredRow.laid) (((OpenSpec.ofChange Rows.benchSquaredSpec).at F).post enc Tryd.prog Tryd.f12 false true false false) := by
  obtain ⟨places, hx⟩ := benchSquared_reads os enc
  refine returnsInHanded_of_row (C := Tryd.checked) (s := OpenSpec.ofChange Rows.benchSquaredSpec) own started (by kernel_rfl) Tryd.func12
    (witness_row_at (enc := enc) (C := Tryd.checked) false (laidWorld os) #[.agg #[.int .i64 0, .int .i64 0, .int .i64 0, .int .i64 0, .int .i64 0, .int .i64 0, .int .i64 0, .int .i64 0], .agg #[.int .u32 0, .int .u32 0, .int .u32 0], .agg #[.int .u32 0, .int .u32 0, .int .u32 0]] rfl (by kernel_rfl) (by kernel_rfl) (by kernel_rfl)
      (OpenSpec.preRow_of_cond 8 hx (by kernel_rfl) (fun k hk => by cases hk) (by kernel_rfl) (benchSquared_laid_met os))) ?_
  intro W base args ds gs before hval hW _ _ _ hL _ _
  exact benchSquared_contract H enc W base args ds gs before hval hW hL

theorem benchSquared_said : Rows.BenchSquaredSaid :=
  OpenClaim.holds_of_cond 12 Tryd.f12 rfl rfl rfl rfl rfl rfl rfl ⟨rfl, rfl, rfl, rfl, rfl⟩ rfl rfl rfl rfl rfl (by kernel_rfl) Tryd.func12 (by kernel_rfl)
    (of_decide_eq_true (by kernel_rfl)) (by unfold Func.isWrapper; first | (rw [if_pos (by decide +kernel)]; kernel_rfl) | (rw [if_neg (by decide +kernel)]; exact ⟨rfl, rfl⟩))
    (fun os started H enc _ F => by rw [OpenClaim.pre_eq_preRow]; exact benchSquared_lifted os started H enc F)

theorem benchSquared_plain (f : FuncId) (fn : Func) (hf : Tryd.pinned.checked.prog.funcNamed Rows.benchSquaredRow.func = some f) (hfn : Tryd.pinned.checked.prog.funcs[f]? = some fn) :
    false = Tryd.pinned.checked.prog.looks [] ∧ ∀ (j : Nat) t, fn.params[j]? = some t → Tryd.pinned.checked.prog.wantsStandIn t = false := by
  obtain rfl : f = 12 := Option.some.inj ((show Tryd.prog.funcNamed Rows.benchSquaredRow.func = some 12 by kernel_rfl).symm.trans hf) |>.symm
  obtain rfl : fn = Tryd.f12 := (Option.some.inj (Tryd.func12.symm.trans hfn)).symm
  refine ⟨by kernel_rfl, fun j t ht => ?_⟩
  have hall : (Tryd.f12.params.toList.all fun u => !Tryd.prog.wantsStandIn u) = true := by kernel_rfl
  have hm : t ∈ Tryd.f12.params.toList := by simpa using Array.mem_of_getElem? ht
  exact (show Tryd.prog.wantsStandIn t = false by simpa using List.all_eq_true.1 hall t hm)

/-- BenchSquared, the card -/
theorem benchSquared_card : Rows.BenchSquaredCardSaid :=
  Claim7.holds_tied_plain_at .later [] _ _ _ _ benchSquared_said (fun _ h => by cases h) (by kernel_rfl) (fun _ h => by cases h) benchSquared_row_tie rfl ⟨rfl, rfl⟩ (by kernel_rfl) rfl benchSquared_plain (by kernel_rfl)
#print axioms benchSquared_card
end Go.Proofs.YtmddpjlpbmfbgaaDoor
end
