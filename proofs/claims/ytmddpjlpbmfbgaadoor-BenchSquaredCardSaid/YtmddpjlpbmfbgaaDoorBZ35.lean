/- BK12A -/
import Derived.Test.YtmddpjlpbmfbgaaDoorBZ24
import Derived.Test.YtmddpjlpbmfbgaaDoorBZ09
import Derived.Test.YtmddpjlpbmfbgaaDoorBZ10
/- Walks of the law package of layer 2: True, Less, proper. (Printed by gen/gen_bk12a.py.) -/
section
namespace Go.Proofs.YtmddpjlpbmfbgaaDoor
open Go.RowKit Go.Shelf
set_option linter.unusedSimpArgs false
set_option linter.unusedVariables false
open Bm (red red_self leR)

/-- a fraction p / q is less than r / s, or greater if turned -/
def lessQ (p q r s : Int) (t : Bool) : Bool := if p * s = r * q then false else (decide (p * s < r * q) != t)

theorem part_lt {p q r s : Int} (hp : 0 ≤ p) (hr : 0 ≤ r) (hq : 1 ≤ q) (hs : 1 ≤ s) (h : p / q < r / s) : p * s < r * q := by
  have h1 : p < (p / q + 1) * q := Int.lt_ediv_add_one_mul_self _ (by omega)
  have h2 : (p / q + 1) * q ≤ r / s * q := Int.mul_le_mul_of_nonneg_right (by omega) (by omega)
  have h3 : r / s * s ≤ r := Int.ediv_mul_le _ (by omega)
  have h4 : p * s < r / s * q * s := Int.mul_lt_mul_of_pos_right (by omega) (by omega)
  have h5 : r / s * s * q ≤ r * q := Int.mul_le_mul_of_nonneg_right h3 (by omega)
  have h6 : r / s * q * s = r / s * s * q := by rw [Int.mul_assoc, Int.mul_comm q s, ← Int.mul_assoc]
  omega
theorem lessQ_parts {p q r s : Int} {t : Bool} (hp : 0 ≤ p) (hr : 0 ≤ r) (hq : 1 ≤ q) (hs : 1 ≤ s) (h : p / q ≠ r / s) : (decide (p / q < r / s) != t) = lessQ p q r s t := by
  unfold lessQ
  rcases Int.lt_or_gt_of_ne h with h1 | h1
  · have := part_lt hp hr hq hs h1
    rw [if_neg (by omega), decide_eq_true h1, decide_eq_true this]
  · have := part_lt hr hp hs hq h1
    rw [if_neg (by omega), decide_eq_false (by omega), decide_eq_false (by omega)]
theorem rest_same {p q r s : Int} (h : p / q = r / s) : p * s - r * q = p % q * s - r % s * q := by
  have h1 := Int.mul_ediv_add_emod p q
  have h2 := Int.mul_ediv_add_emod r s
  rw [h] at h1
  have e1 : p * s = q * (r / s) * s + p % q * s := by rw [← Int.add_mul, h1]
  have e2 : r * q = s * (r / s) * q + r % s * q := by rw [← Int.add_mul, h2]
  have e3 : q * (r / s) * s = s * (r / s) * q := by rw [Int.mul_comm (q * (r / s)) s, Int.mul_comm q, Int.mul_assoc]
  omega
theorem lessQ_rest {p q r s u v : Int} {t : Bool} (h : p / q = r / s) (hu : u = p % q) (hv : v = r % s) : lessQ p q r s t = lessQ u q v s t := by
  subst hu hv
  have := rest_same h
  unfold lessQ
  by_cases h1 : p * s = r * q
  · rw [if_pos h1, if_pos (by omega)]
  · rw [if_neg h1, if_neg (by omega)]
    by_cases h2 : p * s < r * q
    · rw [decide_eq_true h2, decide_eq_true (by omega)]
    · rw [decide_eq_false h2, decide_eq_false (by omega)]
theorem lessQ_turn (u q v s : Int) (t : Bool) : lessQ u q v s t = lessQ q u s v (!t) := by
  unfold lessQ
  have e1 : q * v = v * q := Int.mul_comm _ _
  have e2 : s * u = u * s := Int.mul_comm _ _
  rw [e1, e2]
  by_cases h1 : u * s = v * q
  · rw [if_pos h1, if_pos h1.symm]
  · rw [if_neg h1, if_neg (Ne.symm h1)]
    by_cases h2 : u * s < v * q
    · rw [decide_eq_true h2, decide_eq_false (by omega)]; cases t <;> rfl
    · rw [decide_eq_false h2, decide_eq_true (by omega)]; cases t <;> rfl
theorem lessQ_zero {u q v s : Int} {t : Bool} (hq : 1 ≤ q) (hs : 1 ≤ s) (hu : 0 ≤ u) (hv : 0 ≤ v) (h : u = 0 ∨ v = 0) : (decide (u ≠ v) && (decide (u = 0) != t)) = lessQ u q v s t := by
  unfold lessQ
  by_cases h1 : u = 0
  · subst h1
    by_cases h2 : v = 0
    · subst h2; simp
    · have : 0 < v * q := Int.mul_pos (by omega) (by omega)
      rw [if_neg (by omega), decide_eq_true (by omega), decide_eq_true rfl, decide_eq_true (by omega)]
      rfl
  · obtain rfl : v = 0 := by omega
    have : 0 < u * s := Int.mul_pos (by omega) (by omega)
    rw [if_neg (by omega), decide_eq_true (by omega), decide_eq_false h1, decide_eq_false (by omega)]
    rfl

def cellN (w : World) (a : Addr) : Nat := match w.cell? a with | some (.int _ v) => v.toNat | _ => 0

set_option maxHeartbeats 4000000 in
theorem less_any (p0 q0 r0 s0 : Int) (w : World) (hp : 0 ≤ p0) (hr : 0 ≤ r0) (hq : 1 ≤ q0) (hs : 1 ≤ s0) (hP : p0 ≤ 9223372036854775807) (hQ : q0 ≤ 9223372036854775807) (hR : r0 ≤ 9223372036854775807) (hS : s0 ≤ 9223372036854775807)
    (x : Bool) (hx : x = decide (p0 * s0 < r0 * q0)) :
    Calls Tryd.prog 55 #[.agg #[.int .i64 p0, .int .i64 q0], .agg #[.int .i64 r0, .int .i64 s0]] w fun e w' => e = .returned (.bool x) ∧ Below w.heap.size w w' := by
  have hX : Hid (lessQ p0 q0 r0 s0 false = x) := Lib.hid (by
    rw [hx]; unfold lessQ
    by_cases h : p0 * s0 = r0 * q0
    · rw [if_pos h, decide_eq_false (by omega)]
    · rw [if_neg h]; simp)
  clear hx
  have g1 : decide (p0 < 0) = false := by simp; omega
  have g2 : decide (r0 < 0) = false := by simp; omega
  have g3 : decide (q0 < 1) = false := by simp; omega
  have g4 : decide (s0 < 1) = false := by simp; omega
  go_enter Tryd.func55, Tryd.ntmps55
  go_wp2_with fail
  go_loopw [5] (fun s5 wx => ∃ (p q r s : Int) (t : Bool) (W : World), s5 = .bool t ∧ Hid (W = wx) ∧ 0 ≤ p ∧ 0 ≤ r ∧ 1 ≤ q ∧ 1 ≤ s ∧ p ≤ 9223372036854775807 ∧ q ≤ 9223372036854775807 ∧ r ≤ 9223372036854775807 ∧ s ≤ 9223372036854775807 ∧ Hid (lessQ p q r s t = x) ∧ Cs W w.heap.size #[.int .i64 p, .int .i64 q] ∧ Cs W (w.heap.size + 1) #[.int .i64 r, .int .i64 s] ∧ Below w.heap.size w W) (fun _ wx => cellN wx ⟨w.heap.size, 1, none⟩)
  case atStart => exact ⟨p0, q0, r0, s0, false, _, rfl, Lib.hid rfl, hp, hr, hq, hs, hP, hQ, hR, hS, hX, csA, csA, blA⟩
  case round =>
    clear hX hp hr hq hs hP hQ hR hS
    obtain ⟨p, q, r, s, t, W, rfl, HW, hp, hr, hq, hs, hP, hQ, hR, hS, hX, B0, B1, hbw⟩ := hrel
    obtain rfl := HW.out
    have cB0 := B0.c
    have fB0 := B0.f
    have lB0 := B0.lt
    have cB1 := B1.c
    have fB1 := B1.f
    have lB1 := B1.lt
    have q0' : (q == 0) = false := by simp; omega
    have s0' : (s == 0) = false := by simp; omega
    have a1 : 0 ≤ p / q := Int.ediv_nonneg hp (by omega)
    have a2 : 0 ≤ r / s := Int.ediv_nonneg hr (by omega)
    have a3 : p / q ≤ p := Int.ediv_le_self _ hp
    have a4 : r / s ≤ r := Int.ediv_le_self _ hr
    have f1 : p.tdiv q = p / q := Int.tdiv_eq_ediv_of_nonneg hp
    have f2 : r.tdiv s = r / s := Int.tdiv_eq_ediv_of_nonneg hr
    have f3 : IntKind.i64.wrap (p / q) = p / q := IntWalk.i64_in _ (by omega)
    have f4 : IntKind.i64.wrap (r / s) = r / s := IntWalk.i64_in _ (by omega)
    have u0 := Int.emod_nonneg p (b := q) (by omega)
    have u1 := Int.emod_lt_of_pos p (b := q) (by omega)
    have v0 := Int.emod_nonneg r (b := s) (by omega)
    have v1 := Int.emod_lt_of_pos r (b := s) (by omega)
    have u2 := Int.mul_ediv_add_emod p q
    have v2 := Int.mul_ediv_add_emod r s
    have cu : p / q * q = q * (p / q) := Int.mul_comm _ _
    have cv : r / s * s = s * (r / s) := Int.mul_comm _ _
    have m1 : 0 ≤ q * (p / q) := Int.mul_nonneg (by omega) a1
    have m2 : 0 ≤ s * (r / s) := Int.mul_nonneg (by omega) a2
    have g1 : IntKind.i64.wrap (p / q * q) = p / q * q := IntWalk.i64_in _ (by omega)
    have g2 : IntKind.i64.wrap (r / s * s) = r / s * s := IntWalk.i64_in _ (by omega)
    have g3 : IntKind.i64.wrap (p - p / q * q) = p % q := by rw [show p - p / q * q = p % q by omega]; exact IntWalk.i64_in _ (by omega)
    have g4 : IntKind.i64.wrap (r - r / s * s) = r % s := by rw [show r - r / s * s = r % s by omega]; exact IntWalk.i64_in _ (by omega)
    have d1 := fun h => lessQ_parts (t := t) hp hr hq hs h
    have d2 := fun h => lessQ_rest (p := p) (q := q) (r := r) (s := s) (t := t) h rfl rfl
    clear u2 v2 cu cv m1 m2
    generalize p / q = P at *
    generalize r / s = Q at *
    generalize p % q = u at *
    generalize r % s = v at *
    have hn : ¬ (p < 0) := by omega
    have hn2 : ¬ (r < 0) := by omega
    have hn3 : ¬ (q < 1) := by omega
    have hn4 : ¬ (s < 1) := by omega
    by_cases hPQ : P = Q
    · have d3 := Lib.hid (d2 hPQ)
      clear d1 d2
      subst hPQ
      by_cases huv : u = 0 ∨ v = 0
      · have hfin : Hid ((decide (u ≠ v) && (decide (u = 0) != t)) = x) := Lib.hid (by rw [lessQ_zero hq hs u0 v0 huv, ← d3.out]; exact hX.out)
        clear d3 hX
        rcases Decidable.em (u = 0) with hu | hu
        · subst hu
          rcases Decidable.em (v = 0) with hv | hv
          · subst hv
            go_wp2_with fail
            go_quiet (fail)
            go_wp2_with fail
            go_quiet (fail)
            go_wp2_with fail
            go_ret
            exact ⟨ret_bool (by rw [← hfin.out]; simp), blA⟩
          · go_wp2_with fail
            go_quiet (fail)
            go_wp2_with fail
            go_quiet (fail)
            go_wp2_with fail
            go_ret
            exact ⟨ret_bool (by rw [← hfin.out]; (have hv' : ¬ (0 : Int) = v := (fun h => hv h.symm)); (cases t <;> simp [hv, hv'])), blA⟩
        · obtain rfl : v = 0 := by omega
          go_wp2_with fail
          go_quiet (fail)
          go_wp2_with fail
          go_quiet (fail)
          go_wp2_with fail
          go_ret
          exact ⟨ret_bool (by rw [← hfin.out]; cases t <;> simp [hu]), blA⟩
      · have hu : ¬ u = 0 := by omega
        have hv : ¬ v = 0 := by omega
        have hu' : (u == 0) = false := by simp; omega
        have hv' : (v == 0) = false := by simp; omega
        have hX2 : Hid (lessQ q u s v (!t) = x) := Lib.hid (by rw [← lessQ_turn, ← d3.out]; exact hX.out)
        clear d3 hX
        go_wp2_with fail
        go_quiet (fail)
        go_wp2_with fail
        go_quiet (fail)
        go_wp2_with fail
        go_region
        go_wp2_with fail
        go_roundw
        case rel => exact ⟨q, u, s, v, !t, _, rfl, Lib.hid rfl, by omega, by omega, by omega, by omega, by omega, by omega, by omega, by omega, hX2, Cs.other2 (Cs.set2 (B0.drewN _) _ _) (by simp) _ _, Cs.set2 (Cs.other2 (B1.drewN _) (by simp) _ _) _ _, blA⟩
        case measure =>
          simp only [cellN]
          rw [(Cs.other2 (Cs.set2 (B0.drewN _) _ _) (by simp) _ _ : Cs _ w.heap.size #[.int .i64 q, .int .i64 u]).c 1, B0.c 1]
          simp
          omega
    · have d3 := Lib.hid (d1 hPQ)
      clear d1 d2
      have hfin : Hid ((decide (P < Q) != t) = x) := Lib.hid (by rw [d3.out]; exact hX.out)
      clear d3 hX
      go_wp2_with fail
      go_quiet (fail)
      go_wp2_with fail
      go_ret
      exact ⟨ret_bool hfin.out, blA⟩

/-- none is less than one that it is not less than -/
theorem less_no {a b : Int × Int} (h : leR a b) : false = decide (b.1 * a.2 < a.1 * b.2) := by
  unfold leR at h
  rw [decide_eq_false (by omega)]

theorem rat_eq (a b a' b' : Int) (w : World) : (Op.equalIn 10000 69 (.agg #[.int .i64 a, .int .i64 b]) (.agg #[.int .i64 a', .int .i64 b'])).run Tryd.prog w = .ok (a == a' && b == b') w := by
  simp [go_sem]
  by_cases h1 : a = a' <;> by_cases h2 : b = b' <;> simp [h1, h2]
theorem Cs.set3 {w : World} {g : Nat} {a b c : Value} (h : Cs w g #[a, b, c]) (x y z : Value) : Cs (((w.setCell ⟨g, 0, none⟩ x).setCell ⟨g, 1, none⟩ y).setCell ⟨g, 2, none⟩ z) g #[x, y, z] :=
  ((h.set 0 x (by simp)).set 1 y (by simp)).set 2 z (by simp)
theorem Cs.other3 {w : World} {g g' : Nat} {cs : Array Value} (h : Cs w g cs) (hg : g ≠ g') (x y z : Value) : Cs (((w.setCell ⟨g', 0, none⟩ x).setCell ⟨g', 1, none⟩ y).setCell ⟨g', 2, none⟩ z) g cs :=
  ((h.other (p := ⟨g', 0, none⟩) hg x).other (p := ⟨g', 1, none⟩) hg y).other (p := ⟨g', 2, none⟩) hg z
theorem bset3 {w W : World} {g : Nat} (h : Below w.heap.size w W) (hg : w.heap.size ≤ g) (x y z : Value) : Below w.heap.size w (((W.setCell ⟨g, 0, none⟩ x).setCell ⟨g, 1, none⟩ y).setCell ⟨g, 2, none⟩ z) :=
  bset (bset2 h hg x y) (p := ⟨g, 2, none⟩) hg z
section
attribute [local go_sem high] rat_eq
def SP2 (g : Nat) (a b : Int) (V : World) : Prop := V.cell? ⟨g, 0, none⟩ = some (.int .i64 a) ∧ V.cell? ⟨g, 1, none⟩ = some (.int .i64 b)

set_option maxRecDepth 100000 in
set_option maxHeartbeats 8000000 in
theorem proper_any (a b : Int) (w : World) (h1 : 0 ≤ a) (h2 : 1 ≤ b) (h3 : Int.gcd a b = 1) (h4 : a ≤ 9223372036854775807) (h5 : b ≤ 9223372036854775807) :
    Calls Tryd.prog 54 #[.agg #[.int .i64 a, .int .i64 b]] w fun e w' => e = .returned (.bool true) ∧ Below w.heap.size w w' := by
  have kf := fun (W : World) => rfrac_any a b W h1 h2 h4 h5
  rw [red_self h1 h2 h3] at kf
  have g1 : decide (0 ≤ a) = true := by simpa using h1
  have g2 : decide (1 ≤ b) = true := by simpa using h2
  go_enter Tryd.func54, Tryd.ntmps54
  go_wp2_with fail
  have hS0 : SP2 w.heap.size a b (w.alloc (.cells #[.int .i64 a, .int .i64 b] 69)).drew := by
    have C : Cs (w.alloc (.cells #[.int .i64 a, .int .i64 b] 69)) w.heap.size #[.int .i64 a, .int .i64 b] := csA
    exact ⟨C.c 0, C.c 1⟩
  refine wp_region_seq (S := SP2 w.heap.size a b) [.t 0 1, .t 1 3, .t 2 7, .t 3 15, .t 4 31, .t 5 63, .t 6 127, .t 7 255, .t 8 511, .t 9 1023, .t 10 2047, .t 11 4095, .t 12 8191, .t 14 24575, .o 13 32767, .t 15 65535, .t 16 131071, .t 17 262143] (by kernel_rfl) (by kernel_rfl) (by as_aux_lemma => kernel_rfl) (by kernel_rfl) (fun c a d v w h => by cases d <;> exact h) hS0 (fun _ => ?_)
  refine seq_take (v := ?_) rfl (by rfl) ?_ ?_
  rotate_left
  · intro w9 hSw; (unfold SP2 at hSw); (go_simp <;> with_reducible rfl)
  try simp only [Act.put, List.setIfInBounds_toArray, List.set_cons_zero, List.set_cons_succ]
  refine seq_take (v := ?_) rfl (by rfl) ?_ ?_
  rotate_left
  · intro w9 hSw; (unfold SP2 at hSw); (go_simp <;> with_reducible rfl)
  try simp only [Act.put, List.setIfInBounds_toArray, List.set_cons_zero, List.set_cons_succ]
  refine seq_take (v := ?_) rfl (by rfl) ?_ ?_
  rotate_left
  · intro w9 hSw; (unfold SP2 at hSw); (go_simp <;> with_reducible rfl)
  try simp only [Act.put, List.setIfInBounds_toArray, List.set_cons_zero, List.set_cons_succ]
  refine seq_take (v := ?_) rfl (by rfl) ?_ ?_
  rotate_left
  · intro w9 hSw; (unfold SP2 at hSw); (go_simp <;> with_reducible rfl)
  try simp only [Act.put, List.setIfInBounds_toArray, List.set_cons_zero, List.set_cons_succ]
  refine seq_take (v := ?_) rfl (by rfl) ?_ ?_
  rotate_left
  · intro w9 hSw; (unfold SP2 at hSw); (go_simp <;> with_reducible rfl)
  try simp only [Act.put, List.setIfInBounds_toArray, List.set_cons_zero, List.set_cons_succ]
  refine seq_take (v := ?_) rfl (by rfl) ?_ ?_
  rotate_left
  · intro w9 hSw; (unfold SP2 at hSw); (go_simp <;> with_reducible rfl)
  try simp only [Act.put, List.setIfInBounds_toArray, List.set_cons_zero, List.set_cons_succ]
  refine seq_take (v := ?_) rfl (by rfl) ?_ ?_
  rotate_left
  · intro w9 hSw; (unfold SP2 at hSw); (go_simp <;> with_reducible rfl)
  try simp only [Act.put, List.setIfInBounds_toArray, List.set_cons_zero, List.set_cons_succ]
  refine seq_take (v := ?_) rfl (by rfl) ?_ ?_
  rotate_left
  · intro w9 hSw; (unfold SP2 at hSw); (go_simp <;> with_reducible rfl)
  try simp only [Act.put, List.setIfInBounds_toArray, List.set_cons_zero, List.set_cons_succ]
  refine seq_take (v := ?_) rfl (by rfl) ?_ ?_
  rotate_left
  · intro w9 hSw; (unfold SP2 at hSw); (go_simp <;> with_reducible rfl)
  try simp only [Act.put, List.setIfInBounds_toArray, List.set_cons_zero, List.set_cons_succ]
  refine seq_take (v := ?_) rfl (by rfl) ?_ ?_
  rotate_left
  · intro w9 hSw; (unfold SP2 at hSw); (go_simp <;> with_reducible rfl)
  try simp only [Act.put, List.setIfInBounds_toArray, List.set_cons_zero, List.set_cons_succ]
  refine seq_take (v := ?_) rfl (by rfl) ?_ ?_
  rotate_left
  · intro w9 hSw; (unfold SP2 at hSw); (go_simp <;> with_reducible rfl)
  try simp only [Act.put, List.setIfInBounds_toArray, List.set_cons_zero, List.set_cons_succ]
  refine seq_take (v := ?_) rfl (by rfl) ?_ ?_
  rotate_left
  · intro w9 hSw; (unfold SP2 at hSw); (go_simp <;> with_reducible rfl)
  try simp only [Act.put, List.setIfInBounds_toArray, List.set_cons_zero, List.set_cons_succ]
  refine seq_take (v := ?_) rfl (by rfl) ?_ ?_
  rotate_left
  · intro w9 hSw; (unfold SP2 at hSw); (go_simp <;> with_reducible rfl)
  try simp only [Act.put, List.setIfInBounds_toArray, List.set_cons_zero, List.set_cons_succ]
  refine seq_take (v := ?_) rfl (by rfl) ?_ ?_
  rotate_left
  · intro w9 hSw; (unfold SP2 at hSw); (go_simp <;> with_reducible rfl)
  try simp only [Act.put, List.setIfInBounds_toArray, List.set_cons_zero, List.set_cons_succ]
  refine seq_one rfl (fun K9 hS9 => ?_)
  go_simp
  refine (kf _).mono ?_
  rintro e w2 ⟨rfl, hb2⟩
  have hS2 : SP2 w.heap.size a b w2 := by
    have C : Cs (w.alloc (.cells #[.int .i64 a, .int .i64 b] 69)) w.heap.size #[.int .i64 a, .int .i64 b] := csA
    have C2 := C.drew.keep hb2
    exact ⟨C2.c 0, C2.c 1⟩
  have hbw : Below w.heap.size w w2 := blA
  refine hS9.out _ _ hS2 (fun _ => ?_)
  clear hS9 K9
  try simp only [Act.put, List.setIfInBounds_toArray, List.set_cons_zero, List.set_cons_succ]
  refine seq_take (v := ?_) rfl (by rfl) ?_ ?_
  rotate_left
  · intro w9 hSw; (unfold SP2 at hSw); (go_simp <;> with_reducible rfl)
  try simp only [Act.put, List.setIfInBounds_toArray, List.set_cons_zero, List.set_cons_succ]
  refine seq_take (v := ?_) rfl (by rfl) ?_ ?_
  rotate_left
  · intro w9 hSw; (unfold SP2 at hSw); (go_simp <;> with_reducible rfl)
  try simp only [Act.put, List.setIfInBounds_toArray, List.set_cons_zero, List.set_cons_succ]
  refine seq_take (v := ?_) rfl (by rfl) ?_ ?_
  rotate_left
  · intro w9 hSw; (unfold SP2 at hSw); (go_simp <;> with_reducible rfl)
  try simp only [Act.put, List.setIfInBounds_toArray, List.set_cons_zero, List.set_cons_succ]
  refine seq_done ?_
  go_wp2_with fail
  go_ret
  exact ⟨rfl, blA⟩
end

def ST3 (g g' : Nat) (l n p1 p2 s1 s2 t1 t2 a b c : Int) (V : World) : Prop :=
  (V.cell? ⟨g, 0, none⟩ = some (.int .i64 l) ∧ V.cell? ⟨g, 1, none⟩ = some (.int .i64 n) ∧ V.cell? ⟨g, 2, none⟩ = some (.int .i64 p1) ∧ V.cell? ⟨g, 3, none⟩ = some (.int .i64 p2) ∧ V.cell? ⟨g, 4, none⟩ = some (.int .i64 s1) ∧ V.cell? ⟨g, 5, none⟩ = some (.int .i64 s2) ∧ V.cell? ⟨g, 6, none⟩ = some (.int .i64 t1) ∧ V.cell? ⟨g, 7, none⟩ = some (.int .i64 t2)) ∧
  (V.cell? ⟨g', 0, none⟩ = some (.int .u32 a) ∧ V.cell? ⟨g', 1, none⟩ = some (.int .u32 b) ∧ V.cell? ⟨g', 2, none⟩ = some (.int .u32 c))

set_option maxRecDepth 100000 in
set_option maxHeartbeats 8000000 in
theorem true_any (l n p1 p2 s1 s2 t1 t2 a b c : Int) (w : World) (hp : p1 ≤ p2 ∧ 0 ≤ p1 ∧ p2 ≤ 100000) (hs : s1 ≤ s2 ∧ 0 ≤ s1 ∧ s2 ≤ 100000) (ht : t1 ≤ t2 ∧ 0 ≤ t1 ∧ t2 ≤ 100000) (ha : 0 ≤ a ∧ a ≤ 4294967295) (hb : 0 ≤ b ∧ b ≤ 4294967295) (hc : 0 ≤ c ∧ c ≤ 4294967295) :
    Calls Tryd.prog 53 #[.agg #[.int .i64 l, .int .i64 n, .int .i64 p1, .int .i64 p2, .int .i64 s1, .int .i64 s2, .int .i64 t1, .int .i64 t2], .agg #[.int .u32 a, .int .u32 b, .int .u32 c]] w fun e w' => e = .returned (.agg #[.int .i64 (pickE p1 p2 a), .int .i64 (pickE s1 s2 b), .int .i64 (pickE t1 t2 c)]) ∧ Below w.heap.size w w' := by
  have k1 := fun (W : World) => pick_any p1 p2 a W hp.1 hp.2.1 (by omega) ha.1 ha.2
  have k2 := fun (W : World) => pick_any s1 s2 b W hs.1 hs.2.1 (by omega) hb.1 hb.2
  have k3 := fun (W : World) => pick_any t1 t2 c W ht.1 ht.2.1 (by omega) hc.1 hc.2
  generalize pickE p1 p2 a = x at *
  generalize pickE s1 s2 b = y at *
  generalize pickE t1 t2 c = z at *
  clear hp hs ht ha hb hc
  go_enter Tryd.func53, Tryd.ntmps53
  go_wp2_with fail
  obtain ⟨W, hW⟩ : ∃ W, ((w.alloc (.cells #[.int .i64 l, .int .i64 n, .int .i64 p1, .int .i64 p2, .int .i64 s1, .int .i64 s2, .int .i64 t1, .int .i64 t2] 75)).alloc (.cells #[.int .u32 a, .int .u32 b, .int .u32 c] 85)).alloc (.cells #[.int .i64 0, .int .i64 0, .int .i64 0] 79) = W := ⟨_, rfl⟩
  have C2 : Cs W w.heap.size #[.int .i64 l, .int .i64 n, .int .i64 p1, .int .i64 p2, .int .i64 s1, .int .i64 s2, .int .i64 t1, .int .i64 t2] := by rw [← hW]; exact csA
  have C3 : Cs W (w.heap.size + 1) #[.int .u32 a, .int .u32 b, .int .u32 c] := by rw [← hW]; exact csA
  have C4 : Cs W (w.heap.size + 1 + 1) #[.int .i64 0, .int .i64 0, .int .i64 0] := by rw [← hW]; exact csA
  have hbw : Below w.heap.size w W := by rw [← hW]; exact blA
  rw [hW]
  clear hW
  have hS0 : ST3 w.heap.size (w.heap.size + 1) l n p1 p2 s1 s2 t1 t2 a b c W.drew := ⟨⟨C2.c 0, C2.c 1, C2.c 2, C2.c 3, C2.c 4, C2.c 5, C2.c 6, C2.c 7⟩, ⟨C3.c 0, C3.c 1, C3.c 2⟩⟩
  refine wp_region_seq (S := ST3 w.heap.size (w.heap.size + 1) l n p1 p2 s1 s2 t1 t2 a b c) [.t 0 1, .t 1 3, .t 2 7, .t 3 15, .t 5 47, .t 6 111, .t 7 239, .t 8 495, .t 10 1519, .t 11 3567, .t 12 7663, .t 13 15855, .o 4 15871, .o 9 16383, .o 14 32767, .t 15 65535, .o 16 131071] (by kernel_rfl) (by kernel_rfl) (by as_aux_lemma => kernel_rfl) (by kernel_rfl) (fun c a d v w h => by cases d <;> exact h) hS0 (fun _ => ?_)
  refine seq_take (v := ?_) rfl (by rfl) ?_ ?_
  rotate_left
  · intro w9 hSw; (unfold ST3 at hSw); (go_simp <;> with_reducible rfl)
  try simp only [Act.put, List.setIfInBounds_toArray, List.set_cons_zero, List.set_cons_succ]
  refine seq_take (v := ?_) rfl (by rfl) ?_ ?_
  rotate_left
  · intro w9 hSw; (unfold ST3 at hSw); (go_simp <;> with_reducible rfl)
  try simp only [Act.put, List.setIfInBounds_toArray, List.set_cons_zero, List.set_cons_succ]
  refine seq_take (v := ?_) rfl (by rfl) ?_ ?_
  rotate_left
  · intro w9 hSw; (unfold ST3 at hSw); (go_simp <;> with_reducible rfl)
  try simp only [Act.put, List.setIfInBounds_toArray, List.set_cons_zero, List.set_cons_succ]
  refine seq_take (v := ?_) rfl (by rfl) ?_ ?_
  rotate_left
  · intro w9 hSw; (unfold ST3 at hSw); (go_simp <;> with_reducible rfl)
  try simp only [Act.put, List.setIfInBounds_toArray, List.set_cons_zero, List.set_cons_succ]
  refine seq_take (v := ?_) rfl (by rfl) ?_ ?_
  rotate_left
  · intro w9 hSw; (unfold ST3 at hSw); (go_simp <;> with_reducible rfl)
  try simp only [Act.put, List.setIfInBounds_toArray, List.set_cons_zero, List.set_cons_succ]
  refine seq_take (v := ?_) rfl (by rfl) ?_ ?_
  rotate_left
  · intro w9 hSw; (unfold ST3 at hSw); (go_simp <;> with_reducible rfl)
  try simp only [Act.put, List.setIfInBounds_toArray, List.set_cons_zero, List.set_cons_succ]
  refine seq_take (v := ?_) rfl (by rfl) ?_ ?_
  rotate_left
  · intro w9 hSw; (unfold ST3 at hSw); (go_simp <;> with_reducible rfl)
  try simp only [Act.put, List.setIfInBounds_toArray, List.set_cons_zero, List.set_cons_succ]
  refine seq_take (v := ?_) rfl (by rfl) ?_ ?_
  rotate_left
  · intro w9 hSw; (unfold ST3 at hSw); (go_simp <;> with_reducible rfl)
  try simp only [Act.put, List.setIfInBounds_toArray, List.set_cons_zero, List.set_cons_succ]
  refine seq_take (v := ?_) rfl (by rfl) ?_ ?_
  rotate_left
  · intro w9 hSw; (unfold ST3 at hSw); (go_simp <;> with_reducible rfl)
  try simp only [Act.put, List.setIfInBounds_toArray, List.set_cons_zero, List.set_cons_succ]
  refine seq_take (v := ?_) rfl (by rfl) ?_ ?_
  rotate_left
  · intro w9 hSw; (unfold ST3 at hSw); (go_simp <;> with_reducible rfl)
  try simp only [Act.put, List.setIfInBounds_toArray, List.set_cons_zero, List.set_cons_succ]
  refine seq_take (v := ?_) rfl (by rfl) ?_ ?_
  rotate_left
  · intro w9 hSw; (unfold ST3 at hSw); (go_simp <;> with_reducible rfl)
  try simp only [Act.put, List.setIfInBounds_toArray, List.set_cons_zero, List.set_cons_succ]
  refine seq_take (v := ?_) rfl (by rfl) ?_ ?_
  rotate_left
  · intro w9 hSw; (unfold ST3 at hSw); (go_simp <;> with_reducible rfl)
  try simp only [Act.put, List.setIfInBounds_toArray, List.set_cons_zero, List.set_cons_succ]
  refine seq_one rfl (fun K9 hS9 => ?_)
  go_simp
  refine (k1 _).mono ?_
  rintro e w1 ⟨rfl, hb1⟩
  replace C2 : Cs w1 w.heap.size #[.int .i64 l, .int .i64 n, .int .i64 p1, .int .i64 p2, .int .i64 s1, .int .i64 s2, .int .i64 t1, .int .i64 t2] := C2.drew.keep hb1
  replace C3 : Cs w1 (w.heap.size + 1) #[.int .u32 a, .int .u32 b, .int .u32 c] := C3.drew.keep hb1
  replace C4 : Cs w1 (w.heap.size + 1 + 1) #[.int .i64 0, .int .i64 0, .int .i64 0] := C4.drew.keep hb1
  replace hbw : Below w.heap.size w w1 := blA
  clear hb1
  refine hS9.out _ _ ⟨⟨C2.c 0, C2.c 1, C2.c 2, C2.c 3, C2.c 4, C2.c 5, C2.c 6, C2.c 7⟩, ⟨C3.c 0, C3.c 1, C3.c 2⟩⟩ (fun _ => ?_)
  clear hS9 K9
  try simp only [Act.put, List.setIfInBounds_toArray, List.set_cons_zero, List.set_cons_succ]
  refine seq_one rfl (fun K9 hS9 => ?_)
  go_simp
  refine (k2 _).mono ?_
  rintro e w2 ⟨rfl, hb2⟩
  replace C2 : Cs w2 w.heap.size #[.int .i64 l, .int .i64 n, .int .i64 p1, .int .i64 p2, .int .i64 s1, .int .i64 s2, .int .i64 t1, .int .i64 t2] := C2.keep hb2
  replace C3 : Cs w2 (w.heap.size + 1) #[.int .u32 a, .int .u32 b, .int .u32 c] := C3.keep hb2
  replace C4 : Cs w2 (w.heap.size + 1 + 1) #[.int .i64 0, .int .i64 0, .int .i64 0] := C4.keep hb2
  replace hbw : Below w.heap.size w w2 := blA
  clear hb2
  refine hS9.out _ _ ⟨⟨C2.c 0, C2.c 1, C2.c 2, C2.c 3, C2.c 4, C2.c 5, C2.c 6, C2.c 7⟩, ⟨C3.c 0, C3.c 1, C3.c 2⟩⟩ (fun _ => ?_)
  clear hS9 K9
  try simp only [Act.put, List.setIfInBounds_toArray, List.set_cons_zero, List.set_cons_succ]
  refine seq_one rfl (fun K9 hS9 => ?_)
  go_simp
  refine (k3 _).mono ?_
  rintro e w3 ⟨rfl, hb3⟩
  replace C2 : Cs w3 w.heap.size #[.int .i64 l, .int .i64 n, .int .i64 p1, .int .i64 p2, .int .i64 s1, .int .i64 s2, .int .i64 t1, .int .i64 t2] := C2.keep hb3
  replace C3 : Cs w3 (w.heap.size + 1) #[.int .u32 a, .int .u32 b, .int .u32 c] := C3.keep hb3
  replace C4 : Cs w3 (w.heap.size + 1 + 1) #[.int .i64 0, .int .i64 0, .int .i64 0] := C4.keep hb3
  replace hbw : Below w.heap.size w w3 := blA
  clear hb3
  refine hS9.out _ _ ⟨⟨C2.c 0, C2.c 1, C2.c 2, C2.c 3, C2.c 4, C2.c 5, C2.c 6, C2.c 7⟩, ⟨C3.c 0, C3.c 1, C3.c 2⟩⟩ (fun _ => ?_)
  clear hS9 K9
  try simp only [Act.put, List.setIfInBounds_toArray, List.set_cons_zero, List.set_cons_succ]
  refine seq_take (v := ?_) rfl (by rfl) ?_ ?_
  rotate_left
  · intro w9 hSw; (unfold ST3 at hSw); (go_simp <;> with_reducible rfl)
  try simp only [Act.put, List.setIfInBounds_toArray, List.set_cons_zero, List.set_cons_succ]
  have cC4 := C4.c
  have fC4 := C4.f
  have lC4 := C4.lt
  refine seq_one rfl (fun K9 hS9 => ?_)
  go_simp
  have C24 := C2.other3 (g' := w.heap.size + 1 + 1) (by omega) (.int .i64 x) (.int .i64 y) (.int .i64 z)
  have C34 := C3.other3 (g' := w.heap.size + 1 + 1) (by omega) (.int .i64 x) (.int .i64 y) (.int .i64 z)
  have C44 := C4.set3 (.int .i64 x) (.int .i64 y) (.int .i64 z)
  refine hS9.out _ _ ⟨⟨C24.c 0, C24.c 1, C24.c 2, C24.c 3, C24.c 4, C24.c 5, C24.c 6, C24.c 7⟩, ⟨C34.c 0, C34.c 1, C34.c 2⟩⟩ (fun _ => ?_)
  clear hS9 K9 cC4 fC4 lC4
  try simp only [Act.put, List.setIfInBounds_toArray, List.set_cons_zero, List.set_cons_succ]
  refine seq_done ?_
  have cC4 := C44.c
  have fC4 := C44.f
  have lC4 := C44.lt
  go_wp2_with fail
  exact bodyPost_ret (v := .agg #[.int .i64 x, .int .i64 y, .int .i64 z]) (by simp [results, Tryd.results53, go_sem, cC4, fC4, lC4]) rfl ⟨rfl, bset3 hbw (by omega) _ _ _⟩

end Go.Proofs.YtmddpjlpbmfbgaaDoor
end
