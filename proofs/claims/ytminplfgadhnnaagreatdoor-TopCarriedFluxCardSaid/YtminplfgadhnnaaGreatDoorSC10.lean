/- BE1 BE2 BF2 ZA4 ZA5 -/
import Derived.Test.YtminplfgadhnnaaGreatDoorSC09
import Derived.Test.YtminplfgadhnnaaGreatDoorSC04
import Derived.Deep.RegionHeld3
import Derived.BigQuiet
/- Walks of the law package of layer 2: Pair, Three, Bar, whole. -/
section
namespace Go.Proofs.YtminplfgadhnnaaGreatDoor
open Go.RowKit Go.Shelf
set_option linter.unusedSimpArgs false
set_option linter.unusedVariables false
open Bm (Pr)

theorem Prs.new2 (w : World) (H : Nat) (a b c d : Int) (t : TypeId) (hH : w.heap.size = H) : Prs (w.alloc (.cells #[.int .i64 a, .int .i64 b, .int .i64 c, .int .i64 d] t)) (some ⟨H, 0, none⟩) 2 [(a, b), (c, d)] := by
  refine ⟨rfl, fun _ => ⟨H, 0, rfl, by simp; omega, fun i x y h => ?_⟩⟩
  have C := (Cs.new w H #[.int .i64 a, .int .i64 b, .int .i64 c, .int .i64 d] t hH).c
  match i, h with
  | 0, h => simp at h; obtain ⟨rfl, rfl⟩ := h; exact ⟨C 0, C 1⟩
  | 1, h => simp at h; obtain ⟨rfl, rfl⟩ := h; exact ⟨C 2, C 3⟩
  | i + 2, h => simp at h

theorem span_eq (a b c d a' b' c' d' : Int) (w : World) : (Op.equalIn 10000 70 (.agg #[.int .i64 a, .int .i64 b, .int .i64 c, .int .i64 d]) (.agg #[.int .i64 a', .int .i64 b', .int .i64 c', .int .i64 d'])).run Tryz.prog w = .ok (a == a' && (b == b' && (c == c' && d == d'))) w := by
  simp [go_sem]
  by_cases h1 : a = a' <;> by_cases h2 : b = b' <;> by_cases h3 : c = c' <;> by_cases h4 : d = d' <;> simp [h1, h2, h3, h4]

end Go.Proofs.YtminplfgadhnnaaGreatDoor
end

/- The walk of the examples of the law package of layer 2: they hold. -/
section
namespace Go.Proofs.YtminplfgadhnnaaGreatDoor
open Go.RowKit Go.Shelf
set_option linter.unusedSimpArgs false
set_option linter.unusedVariables false
open Bm (Pr buildL)

attribute [local go_sem high] span_eq

def SW (b : Nat) (w' : World) : Prop := w'.cell? ⟨b, 0, none⟩ = some (.int .i64 155) ∧ w'.cell? ⟨b, 1, none⟩ = some (.int .i64 2) ∧ w'.cell? ⟨b, 2, none⟩ = some (.int .i64 400) ∧ w'.cell? ⟨b, 3, none⟩ = some (.int .i64 1)
structure Kp (w : World) (b : Nat) (A2 A5 A8 A12 A13 : Option Addr) (W : World) : Prop where
  Bs : Cs W b #[.int .i64 155, .int .i64 2, .int .i64 400, .int .i64 1]
  h2 : Ints W A2 3 [9, 5, 3]
  h5 : Ints W A5 3 [0, 0, 1]
  h8 : Ints W A8 4 [1, 0, 1, 0]
  h12 : Ints W A12 1 [1]
  h13 : Prs W A13 3 [(1, 2), (1, 2), (0, 0)]
  hbw : Below w.heap.size w W
section
variable {w W V U : World} {b : Nat} {A2 A5 A8 A12 A13 : Option Addr}
theorem Kp.below (h : Kp w b A2 A5 A8 A12 A13 W) (hb : Below W.heap.size W V) : Kp w b A2 A5 A8 A12 A13 V :=
  ⟨h.Bs.keep hb, h.h2.below hb, h.h5.below hb, h.h8.below hb, h.h12.below hb, h.h13.below hb, bstep h.hbw hb⟩
theorem Kp.alloc (h : Kp w b A2 A5 A8 A12 A13 W) (x : _) : Kp w b A2 A5 A8 A12 A13 (W.alloc x) := h.below (balloc (Below.refl _ _) _)
theorem SW.drew (h : SW b W) : SW b W.drew := h
theorem Kp.cells (h : Kp w b A2 A5 A8 A12 A13 W) : SW b W := ⟨h.Bs.c 0, h.Bs.c 1, h.Bs.c 2, h.Bs.c 3⟩
end

end Go.Proofs.YtminplfgadhnnaaGreatDoor
end

/- Appends to rows of the call's own, with what becomes of the other rows; the walk of sorted. -/
section
namespace Go.Proofs.YtminplfgadhnnaaGreatDoor
open Go.RowKit Go.Shelf
set_option linter.unusedSimpArgs false
set_option linter.unusedVariables false
open Bm (mxAt srt srtL)

/-- a row of numbers of the call's own -/
abbrev OwnI (W : World) (B g n c : Nat) (xs : List Int) : Prop := W.ownsRow B 2 1 (.slice (some ⟨g, 0, none⟩) n c) n (xs.map (Value.int .i64))
theorem OwnI.len {W : World} {B g n c : Nat} {xs : List Int} (h : OwnI W B g n c xs) : xs.length = n := by have := h.1; simpa using this
theorem OwnI.ints {W : World} {B g n c : Nat} {xs : List Int} (h : OwnI W B g n c xs) : Ints W (some ⟨g, 0, none⟩) n xs ∧ n ≤ c := by
  obtain ⟨A, c', e, hI, hc⟩ := own_ints h.len h
  injection e with e1 e2 e3
  subst e1 e3
  exact ⟨hI, hc⟩
theorem OwnI.lt {W : World} {B g n c : Nat} {xs : List Int} (h : OwnI W B g n c xs) : B ≤ g ∧ g < W.heap.size := by
  rcases h.2 with ⟨e, _⟩ | ⟨g1, cap, cur, e1, hbg, hgc, _⟩
  · cases e
  · injection e1 with e1; injection e1 with e1; injection e1 with e1
    subst e1
    exact ⟨hbg, (Array.getElem?_eq_some_iff.1 hgc).1⟩
theorem OwnI.cellw {W wr : World} {B g n c : Nat} {xs : List Int} (h : OwnI W B g n c xs) (hb : Below W.heap.size W wr) {k : Nat} (hk : k < n) : wr.cell? ⟨g, k, none⟩ = some (.int .i64 (xs.getD k 0)) := by
  obtain ⟨b, off, e, _, hc⟩ := (h.ints.1.below hb).2 (by omega)
  injection e with e
  injection e with e1 e2
  subst e1 e2
  have := hc k hk
  rwa [Nat.zero_add] at this
theorem below_grew {B : Nat} {w w' : World} {ob : Option Nat} (hg : w.grownBy w' ob) (hob : ∀ g, ob = some g → B ≤ g) (hB : B ≤ w.heap.size) : Below B w w' :=
  ⟨hg.os, hg.tape, hg.output, hg.size, fun i hi => hg.block i (by omega) (fun h => by have := hob i h.symm; omega)⟩
theorem own_grew {w w' : World} {ob : Option Nat} {B : Nat} {e : TypeId} {s : Nat} {v : Value} {n : Nat} {xs : List Value} (h : w.ownsRow B e s v n xs) (hg : w.grownBy w' ob) (hne : ∀ g, v.ownBlock = some g → ob ≠ some g) : w'.ownsRow B e s v n xs := by
  refine ⟨h.1, ?_⟩
  rcases h.2 with h2 | ⟨g, cap, cur, rfl, hB, hgg, rest⟩
  · exact .inl h2
  · exact .inr ⟨g, cap, cur, rfl, hB, (hg.block g (Array.getElem?_eq_some_iff.1 hgg).1 (fun e => hne g rfl e.symm)).trans hgg, rest⟩

set_option maxRecDepth 100000 in
theorem run_ints {w : World} {B n : Nat} {v : Value} {xs : List Int} (hown : w.ownsRow B 2 1 v n (xs.map (Value.int .i64))) {b off m C : Nat} {ys : List Int} (hy : Ints w (some ⟨b, off, none⟩) m ys) (hv : 0 < m ∨ v ≠ .slice none 0 0) (hn : n + m ≤ 5000) (hB : B ≤ w.heap.size) :
    ∃ g' c' w', (∀ ty, (Builtin.append_ #[22, 22] ty #[v, .slice (some ⟨b, off, none⟩) m C]).run Tryz.prog w = .ok (.slice (some ⟨g', 0, none⟩) (n + m) c') w') ∧ OwnI w' B g' (n + m) c' (xs ++ ys) ∧ w.grownBy w' v.ownBlock ∧ (v.ownBlock = some g' ∨ w.heap.size ≤ g') := by
  obtain ⟨i, hi, hz0, hs, hby⟩ := info3R int64R_info
  have hnews : ∀ j u, (ys.map (Value.int .i64))[j]? = some u → w.cell? ((⟨b, off, none⟩ : Addr).add j) = some u := by
    intro j u hu
    rw [List.getElem?_map] at hu
    obtain ⟨x, hx, rfl⟩ := Option.map_eq_some_iff.1 hu
    have hj : j < m := by rw [← hy.1]; exact (List.getElem?_eq_some_iff.1 hx).1
    obtain ⟨b', off', e, _, hc⟩ := hy.2 (by omega)
    injection e with e
    injection e with e1 e2
    subst e1 e2
    have := hc j hj
    rw [List.getD_eq_getElem?_getD, hx] at this
    rw [Go.WideShapes.add_plain]
    exact this
  have h1 : ∀ u ∈ ys.map (Value.int .i64), u.oneCell' = true := by
    intro u hu
    obtain ⟨x, _, rfl⟩ := List.mem_map.1 hu
    rfl
  have hl : (ys.map (Value.int .i64)).length = m * 1 := by rw [List.length_map, hy.1, Nat.mul_one]
  have hl' : (ys.map (Value.int .i64)).length = m * i.size := by rw [hs]; exact hl
  obtain ⟨v', w', hr, ho, hg, hnil⟩ := run_append_own (P := Tryz.prog) w B 22 0 2 i (.int .i64 0) 1 8 Tryz.underlying22 hi hz0 hs hby rfl (by omega) v n _ hown ⟨b, off, none⟩ m C _ hl hnews h1 (by unfold maxLen; omega) (by omega) hB
  have hv' : v' ≠ .slice none 0 0 := fun e => by
    obtain ⟨e1, e2⟩ := hnil.1 e
    rcases hv with h | h
    · omega
    · exact h e1
  have ho2 : w'.ownsRow B 2 1 v' (n + m) ((xs ++ ys).map (Value.int .i64)) := by rw [List.map_append]; exact ho
  rcases ho2.2 with ⟨e, _⟩ | ⟨g', c', cur', rfl, hrest⟩
  · exact absurd e hv'
  · refine ⟨g', c', w', fun ty => hr, ho2, hg, ?_⟩
    rcases hown.2 with ⟨rfl, rfl⟩ | ⟨g, cap, cur, rfl, hbg, hgc, hnc, hcm, hcs, htake⟩
    · have hm : 0 < m := by
        rcases hv with h | h
        · exact h
        · exact absurd rfl h
      have h2 := run_append_nil (P := Tryz.prog) w 22 0 2 i (.int .i64 0) Tryz.underlying22 hi hz0 ⟨b, off, none⟩ m C _ hl' hnews hm (by omega) (by rw [hby]; omega)
      rw [h2] at hr
      injection hr with e1 e2
      injection e1 with e1
      injection e1 with e1
      injection e1 with e1
      exact .inr (by omega)
    · by_cases hroom : n + m ≤ cap
      · have h2 := run_append_room (P := Tryz.prog) w 22 0 2 i Tryz.underlying22 hi g n cap cur hgc ⟨b, off, none⟩ m C _ hl' hnews h1 hroom (by rw [hl', hcs, hs, ← Nat.add_mul]; exact Nat.mul_le_mul_right _ hroom)
        rw [h2] at hr
        injection hr with e1 e2
        injection e1 with e1
        injection e1 with e1
        injection e1 with e1
        exact .inl (by simp [Value.ownBlock, e1])
      · have holds : ∀ j u, (xs.map (Value.int .i64))[j]? = some u → w.cell? ((⟨g, 0, none⟩ : Addr).add j) = some u := hown.cells (g := g) rfl
        have h2 := run_append_grow (P := Tryz.prog) w 22 0 2 i (.int .i64 0) Tryz.underlying22 hi hz0 ⟨g, 0, none⟩ n cap (xs.map (Value.int .i64)) (by rw [hs]; exact hown.1) holds ⟨b, off, none⟩ m C _ hl' hnews (by omega) (by omega) (growslice_fits (by omega) (by rw [hby]; omega))
        rw [h2] at hr
        injection hr with e1 e2
        injection e1 with e1
        injection e1 with e1
        injection e1 with e1
        exact .inr (by omega)

theorem list_ints {ops : Array Oper} {rest : List Oper} {o : Oper} {a : Act} {w : World} {Q : Exit → Act → World → Prop} (hg : o.guard = none) (s x : Operand)
    (hop : o.op = Op.call { callee := Callee.builtin Builtin.append, args := #[s, x], argTypes := #[22, 22] })
    (B n : Nat) (v : Value) (xs : List Int) (hs : a.eval s = v) (hown : w.ownsRow B 2 1 v n (xs.map (Value.int .i64))) (b off m C : Nat) (ys : List Int) (hx : a.eval x = .slice (some ⟨b, off, none⟩) m C) (hy : Ints w (some ⟨b, off, none⟩) m ys) (hv : 0 < m ∨ v ≠ .slice none 0 0) (hn : n + m ≤ 5000) (hB : B ≤ w.heap.size)
    (hK : ∀ g' c' w', OwnI w' B g' (n + m) c' (xs ++ ys) → w.grownBy w' v.ownBlock → (v.ownBlock = some g' ∨ w.heap.size ≤ g') → wpList Tryz.prog ops Q rest (a.put o.dst (.slice (some ⟨g', 0, none⟩) (n + m) c')) w') : wpList Tryz.prog ops Q (o :: rest) a w := by
  obtain ⟨g', c', w', hr, ho, hgr, hw⟩ := run_ints (C := C) hown hy hv hn hB
  exact list_app hg s x hop hs hx hr (hK g' c' w' ho hgr hw)
theorem own_slice {w : World} {B n : Nat} {t : TypeId} {v : Value} {xs : List Value} (h : w.ownsRow B t 1 v n xs) (hn : 1 ≤ n) : ∃ g c, v = .slice (some ⟨g, 0, none⟩) n c := by
  rcases h.2 with ⟨_, h0⟩ | ⟨g, cap, cur, e, _⟩
  · omega
  · exact ⟨g, cap, e⟩
end Go.Proofs.YtminplfgadhnnaaGreatDoor
end

/- Walks of the reference of layer 3: Gap, Sum; rows that can be written. -/
section
namespace Go.Proofs.YtminplfgadhnnaaGreatDoor
open Go.RowKit Go.Shelf
set_option linter.unusedSimpArgs false
set_option linter.unusedVariables false
open Zm

theorem gapF_bd {an : List Int} {ls : List (Int × Int)} {fs : List Bool} {ws : List Int} (h : LampOk an ls fs ws) {k : Nat} (h1 : 1 ≤ k) (hk : k < ws.length) : gapN an k + 1 < an.length ∧ aN an (gapN an k) < k ∧ k ≤ aN an (gapN an k + 1) := by
  obtain ⟨i, a, b, c⟩ := gap_ex h h1 (an.length - 1) (by have := h.n2; omega) (by have := h.wsl; omega)
  rw [gapN_eq h (by omega) b c]
  exact ⟨by omega, b, c⟩

set_option maxRecDepth 100000 in
set_option maxHeartbeats 4000000 in
theorem zgap_any (A1 : Option Addr) (n1 c1 : Nat) (A2 : Option Addr) (n2 c2 : Nat) (A3 : Option Addr) (n3 c3 : Nat) (A4 : Option Addr) (n4 c4 : Nat) (an : List Int) (ls : List (Int × Int)) (fs : List Bool) (ws : List Int) (k : Nat) (w : World) (h : Lmp w A1 n1 c1 A2 n2 c2 A3 n3 c3 A4 n4 c4 an ls fs ws) (ho : LampOk an ls fs ws) (h1 : 1 ≤ k) (hk : k < n4) :
    Calls Tryz.prog 39 #[.agg #[.slice A1 n1 c1, .slice A2 n2 c2, .slice A3 n3 c3, .slice A4 n4 c4], .int .i64 (an.getD 0 0 + (k : Nat))] w fun e w' => e = .returned (.int .i64 (gapN an k : Nat)) ∧ Below w.heap.size w w' := by
  have hl1 := h.h1.1
  have hl4 := h.h4.1
  have hn2 := ho.n2
  have Hlast : Hid (k ≤ aN an (n1 - 1)) := Lib.hid (by have := ho.wsl; rw [hl1] at this; omega)
  have Hint := Lib.hid (fun i hi => ho.aN_int (i := i) hi)
  have hb0 := ho.bd 0 (by omega)
  have hws := ho.ws91
  have Hz := Lib.hid h.h1
  obtain ⟨g, hg⟩ : ∃ g, gapN an k = g := ⟨_, rfl⟩
  have Hg : Hid (gapF an k n1 0 = g) := Lib.hid (by rw [← hg, ← hl1]; rfl)
  rw [hg]
  have Hbd := Lib.hid (fun i hi => ho.bd i hi)
  generalize an.getD 0 0 = a0 at *
  have hn10 : n1 ≤ 10 := by have := ho.n10; omega
  clear h ho hg
  go_enter Tryz.func39, Tryz.ntmps39
  have B2 : Cs (w.alloc (.cells #[.slice A1 n1 c1, .slice A2 n2 c2, .slice A3 n3 c3, .slice A4 n4 c4] 26)) w.heap.size #[.slice A1 n1 c1, .slice A2 n2 c2, .slice A3 n3 c3, .slice A4 n4 c4] := csA
  have HB2 := Lib.hid B2
  clear B2
  go_wp2_with fail
  go_loopw [5] (fun s5 wx => ∃ (i : Nat) (W : World), i + 1 < n1 ∧ s5 = .int .i64 (i : Nat) ∧ Hid (gapF an k (n1 - i) i = g) ∧ Hid (W = wx) ∧ Cs W w.heap.size #[.slice A1 n1 c1, .slice A2 n2 c2, .slice A3 n3 c3, .slice A4 n4 c4] ∧ Below w.heap.size w W) (fun s5 _ => n1 - (intOf s5).toNat)
  case atStart => exact ⟨0, _, by omega, rfl, Hg, Lib.hid rfl, HB2.out, blA⟩
  case round =>
    clear HB2
    obtain ⟨i, W, hi, rfl, Hi, HW, B2, hbw⟩ := hrel
    obtain rfl := HW.out
    clear HW
    have cB2 := B2.c
    have fB2 := B2.f
    have lB2 := B2.lt
    obtain ⟨b, off, rfl, _, ci⟩ := Hz.out.at0 hbw hi
    have hst := Hi.out
    have hint := Hint.out (i + 1) (by omega)
    have hbd := Hbd.out (i + 1) (by omega)
    rw [show n1 - i = n1 - (i + 1) + 1 by omega, gapF] at hst
    obtain ⟨a, ha⟩ : ∃ a, an.getD (i + 1) 0 = a := ⟨_, rfl⟩
    rw [ha] at ci hint hbd
    have hi1 : (i : Int) + 1 < (n1 : Int) := by omega
    by_cases hlt : aN an (i + 1) < k
    · rw [if_pos hlt] at hst
      have Hst := Lib.hid hst
      have hlast : i + 1 + 1 < n1 := by
        have := Hlast.out
        by_cases e : i + 1 = n1 - 1
        · rw [e] at hlt; omega
        · omega
      have d1 : decide (a < a0 + (k : Int)) = true := by simp; omega
      have d2 : a < a0 + (k : Int) := by omega
      clear hst Hi hint ha hlt
      go_wp2_with fail
      go_roundw
      case rel => exact ⟨i + 1, _, hlast, by go_num, Hst, Lib.hid rfl, csA, blA⟩
      case measure => simp [intOf]; omega
    · rw [if_neg hlt] at hst
      subst hst
      have d1 : decide (a < a0 + (k : Int)) = false := by simp; omega
      have d2 : ¬ a < a0 + (k : Int) := by omega
      clear Hi hint ha hlt
      go_wp2_with fail
      go_ret
      exact ⟨rfl, blA⟩

/-- the sum of numbers by weights -/
def sumZ (ws xs : List Int) : Nat → Int
  | 0 => 0
  | k + 1 => sumZ ws xs k + ws.getD k 0 * xs.getD k 0
end Go.Proofs.YtminplfgadhnnaaGreatDoor
end

/- Walks of the reference of layer 3: Bounds. -/
section
namespace Go.Proofs.YtminplfgadhnnaaGreatDoor
open Go.RowKit Go.Shelf
set_option linter.unusedSimpArgs false
set_option linter.unusedVariables false
open Zm

/-- a row of numbers that can be written, with room behind it -/
def RwI (w : World) (g n : Nat) (zs : List Int) : Prop := zs.length = n ∧ ∃ cur t, w.heap[g]? = some (.cells cur t (0, 0)) ∧ cur.toList.take n = zs.map (Value.int .i64)
section
variable {w w' : World} {g n k : Nat} {zs : List Int}
theorem RwI.lt (h : RwI w g n zs) : g < w.heap.size := by obtain ⟨_, cur, t, h, _⟩ := h; exact (Array.getElem?_eq_some_iff.1 h).1
theorem RwI.cell (h : RwI w g n zs) (hk : k < n) : w.cell? ⟨g, k, none⟩ = some (.int .i64 (zs.getD k 0)) := by
  obtain ⟨hl, cur, t, h, ht⟩ := h
  have h1 : (cur.toList.take n)[k]? = some (.int .i64 (zs.getD k 0)) := by
    rw [ht, List.getElem?_map, List.getElem?_eq_getElem (show k < zs.length by omega), List.getD_eq_getElem?_getD, List.getElem?_eq_getElem (show k < zs.length by omega)]; rfl
  rw [List.getElem?_take_of_lt hk] at h1
  simpa [World.cell?, h] using h1
theorem RwI.frozen (h : RwI w g n zs) (k : Nat) : w.frozen? ⟨g, k, none⟩ = false := by
  obtain ⟨_, cur, t, h, _⟩ := h
  simp [World.frozen?, h]
theorem RwI.set (h : RwI w g n zs) (k : Nat) (v : Int) (hk : k < n) : RwI (w.setCell ⟨g, k, none⟩ (.int .i64 v)) g n (zs.set k v) := by
  obtain ⟨hl, cur, t, h, ht⟩ := h
  refine ⟨by simpa using hl, cur.setIfInBounds k (.int .i64 v), t, ?_, ?_⟩
  · simp only [World.setCell]
    rw [Array.getElem?_modify, if_pos rfl, h]; rfl
  rw [Array.toList_setIfInBounds, List.take_set, ht, List.map_set]
theorem RwI.other (h : RwI w g n zs) {p : Addr} (hp : g ≠ p.block) (v : Value) : RwI (w.setCell p v) g n zs := by
  obtain ⟨hl, cur, t, h, ht⟩ := h
  refine ⟨hl, cur, t, ?_, ht⟩
  simp only [World.setCell]
  rw [Array.getElem?_modify, if_neg (fun e => hp e.symm)]
  exact h
theorem RwI.below (h : RwI w g n zs) (hb : Below w.heap.size w w') : RwI w' g n zs := by
  have hlt := h.lt
  obtain ⟨hl, cur, t, h, ht⟩ := h
  exact ⟨hl, cur, t, (hb.block g hlt).trans h, ht⟩
theorem RwI.drewN (h : RwI w g n zs) (m : Nat) : RwI (w.drewN m) g n zs := h
theorem RwI.drew (h : RwI w g n zs) : RwI w.drew g n zs := h
theorem RwI.ints (h : RwI w g n zs) : Ints w (some ⟨g, 0, none⟩) n zs :=
  ⟨h.1, fun _ => ⟨g, 0, rfl, h.lt, fun i hi => by rw [Nat.zero_add]; exact h.cell hi⟩⟩
theorem OwnI.rwi {B c : Nat} {xs : List Int} (h : OwnI w B g n c xs) : RwI w g n xs := by
  refine ⟨h.len, ?_⟩
  rcases h.2 with ⟨e, _⟩ | ⟨g1, cap, cur, e1, hbg, hgc, _, _, _, ht⟩
  · cases e
  · injection e1 with e1; injection e1 with e1; injection e1 with e1
    subst e1
    exact ⟨cur, _, hgc, by rwa [Nat.mul_one] at ht⟩
end
/-- a row, by what is known of it before it was written to -/
theorem rwA {w : World} {g n : Nat} {zs : List Int} (h : RwI w g n zs := by repeat (first | with_reducible assumption | with_reducible refine RwI.drewN ?_ _ | with_reducible refine RwI.drew ?_ | (with_reducible refine RwI.set ?_ _ _ ?_; rotate_left; focus omega) | (with_reducible refine RwI.other ?_ ?_ _; rotate_left; focus (first | assumption | (simp; done) | (simp; omega))))) : RwI w g n zs := h
theorem rowF_snoc (m : Nat) (f : Nat → Int) : rowF (m + 1) f = rowF m f ++ [f m] := by simp [rowF, List.range_succ]
theorem Below.cell' {B : Nat} {w w' : World} (h : Below B w w') {b o : Nat} {v : Value} (hb : b < B) (hc : w.cell? ⟨b, o, none⟩ = some v) : w'.cell? ⟨b, o, none⟩ = some v := (h.cell (p := ⟨b, o, none⟩) hb).trans hc
theorem rowF_stp_t {d : Nat → Bool} {n j : Nat} {f : Nat → Int} (h : d (j + 1) = true) : (rowF n f).set j (if f j < f (j + 1) then f (j + 1) else f j) = rowF n (stp d (j + 1) f) := by
  rw [rowF_set]
  refine rowF_congr fun i _ => ?_
  simp only [stp, h, if_true, Nat.add_sub_cancel]
  by_cases e : i = j
  · simp only [e, if_true]; split <;> omega
  · simp only [e, if_false]
theorem rowF_stp_f {d : Nat → Bool} {n j : Nat} {f : Nat → Int} (h : d (j + 1) = false) : (rowF n f).set (j + 1) (if f (j + 1) < f j then f j else f (j + 1)) = rowF n (stp d (j + 1) f) := by
  rw [rowF_set]
  refine rowF_congr fun i _ => ?_
  simp only [stp, h, Bool.false_eq_true, if_false, Nat.add_sub_cancel]
  by_cases e : i = j + 1
  · simp only [e, if_true]; split <;> omega
  · simp only [e, if_false]
theorem rowF_neg_t {d : Nat → Bool} {n j : Nat} {g : Nat → Int} (h : d (j + 1) = true) : (rowF n fun i => - g i).set j (if - g (j + 1) < - g j then - g (j + 1) else - g j) = rowF n fun i => - stp d (j + 1) g i := by
  rw [rowF_set]
  refine rowF_congr fun i _ => ?_
  simp only [stp, h, if_true, Nat.add_sub_cancel]
  by_cases e : i = j
  · simp only [e, if_true]; split <;> omega
  · simp only [e, if_false]
theorem rowF_neg_f {d : Nat → Bool} {n j : Nat} {g : Nat → Int} (h : d (j + 1) = false) : (rowF n fun i => - g i).set (j + 1) (if - g j < - g (j + 1) then - g j else - g (j + 1)) = rowF n fun i => - stp d (j + 1) g i := by
  rw [rowF_set]
  refine rowF_congr fun i _ => ?_
  simp only [stp, h, Bool.false_eq_true, if_false, Nat.add_sub_cancel]
  by_cases e : i = j + 1
  · simp only [e, if_true]; split <;> omega
  · simp only [e, if_false]
/-- a row of the call's own, and another one: they lie apart -/
def Apart (u v : Value) : Prop := ∀ g, u.ownBlock = some g → v.ownBlock ≠ some g

set_option maxRecDepth 100000 in
set_option maxHeartbeats 16000000 in
theorem zbounds_any (A1 : Option Addr) (n1 c1 : Nat) (A2 : Option Addr) (n2 c2 : Nat) (A3 : Option Addr) (n3 c3 : Nat) (A4 : Option Addr) (n4 c4 : Nat) (an : List Int) (ls : List (Int × Int)) (fs : List Bool) (ws : List Int) (w : World) (h : Lmp w A1 n1 c1 A2 n2 c2 A3 n3 c3 A4 n4 c4 an ls fs ws) (ho : LampOk an ls fs ws) :
    Calls Tryz.prog 38 #[.agg #[.slice A1 n1 c1, .slice A2 n2 c2, .slice A3 n3 c3, .slice A4 n4 c4]] w fun e w' => ∃ g4 k4 g5 k5 : Nat, e = .returned (.tuple #[.slice (some ⟨g4, 0, none⟩) n4 k4, .slice (some ⟨g5, 0, none⟩) n4 k5]) ∧ Ints w' (some ⟨g4, 0, none⟩) n4 (rowF n4 (loZ an ls fs n4)) ∧ Ints w' (some ⟨g5, 0, none⟩) n4 (rowF n4 (hiZ an ls fs n4)) ∧ (n4 ≤ k4 ∧ n4 ≤ k5) ∧ Below w.heap.size w w' := by
  have hl1 := h.h1.1
  have hl2 := h.h2.1
  have hl3 := h.h3.1
  have hl4 := h.h4.1
  have hws := ho.ws91
  rw [hl4] at hws
  have hn10 : n1 ≤ 10 ∧ 2 ≤ n1 := by have := ho.n10; have := ho.n2; omega
  have H := Lib.hid h
  have HO := Lib.hid ho
  clear h ho
  go_enter Tryz.func38, Tryz.ntmps38
  have B1 : Cs (w.alloc (.cells #[.slice A1 n1 c1, .slice A2 n2 c2, .slice A3 n3 c3, .slice A4 n4 c4] 26)) w.heap.size #[.slice A1 n1 c1, .slice A2 n2 c2, .slice A3 n3 c3, .slice A4 n4 c4] := csA
  have hbw0 : Below w.heap.size w (w.alloc (.cells #[.slice A1 n1 c1, .slice A2 n2 c2, .slice A3 n3 c3, .slice A4 n4 c4] 26)) := blA
  have hsz0 : w.heap.size < (w.alloc (.cells #[.slice A1 n1 c1, .slice A2 n2 c2, .slice A3 n3 c3, .slice A4 n4 c4] 26)).heap.size := by simp
  go_wp2_with fail
  generalize w.alloc (.cells #[.slice A1 n1 c1, .slice A2 n2 c2, .slice A3 n3 c3, .slice A4 n4 c4] 26) = w0 at *
  have HB1 := Lib.hid B1
  clear B1
  go_loopw [4, 5, 6] (fun s4 s5 s6 wx => ∃ (i : Nat) (W : World), i ≤ n4 ∧ s6 = .int .i64 (i : Nat) ∧ Hid (W = wx) ∧ Hid (W.ownsRow w0.heap.size 2 1 s4 i ((rowF i fun _ => 0).map (Value.int .i64))) ∧ Hid (W.ownsRow w0.heap.size 2 1 s5 i ((rowF i fun _ => 200).map (Value.int .i64))) ∧ Hid (Apart s4 s5) ∧ Below w0.heap.size w0 W) (fun _ _ s6 _ => n4 - (intOf s6).toNat)
  case atStart => exact ⟨0, _, Nat.zero_le _, rfl, Lib.hid rfl, Lib.hid (by simp [rowF]; exact World.ownsRow_nil _ _ _ _), Lib.hid (by simp [rowF]; exact World.ownsRow_nil _ _ _ _), Lib.hid (fun g e => by simp [Value.ownBlock] at e), Below.refl _ _⟩
  case round =>
    obtain ⟨i, W, hi, rfl, HW, HO4, HO5, HA, hbx⟩ := hrel
    obtain rfl := HW.out
    clear HW
    have B1 := HB1.out.keep hbx
    have hsx := hbx.size
    have cB1 := B1.c
    have fB1 := B1.f
    have lB1 := B1.lt
    by_cases hin : i < n4
    · have hI4 : Ints (W.alloc (.cells #[.int .i64 0] 2)) (some ⟨W.heap.size, 0, none⟩) 1 [0] := Ints.new1 _ _ _ _ rfl
      go_wp2_with (first
        | (at_builtin; refine list_ints rfl _ _ rfl w0.heap.size i _ (rowF i fun _ => 0) (by rfl) (HO4.out.alloc _) W.heap.size 0 1 1 [0] (by rfl) hI4 (.inl (by omega)) (by omega) (by simp; omega) ?_; intro g1 k1 w1 hO1 hg1 hw1;
            have hA := HA.out; have l5 := HO5.out.lt;
            have ne15 : ∀ g, u5.ownBlock = some g → u4.ownBlock ≠ some g := (fun g e1 e2 => hA g e2 e1);
            have hO5 := own_grew (HO5.out.alloc _) hg1 ne15;
            have g15 : ∀ g, u5.ownBlock = some g → g ≠ g1 := (fun g e1 e2 => by subst e2; rcases hw1 with h | h; exact ne15 _ e1 h; have := (l5 _ e1).2; simp at h; omega);
            have hb1 : Below w0.heap.size w0 w1 := hbx.trans ((balloc' _ _ _ hsx).trans (below_grew hg1 (fun g e => (HO4.out.lt g e).1) (by simp; omega)));
            have hI5 : Ints (w1.alloc (.cells #[.int .i64 200] 2)) (some ⟨w1.heap.size, 0, none⟩) 1 [200] := Ints.new1 _ _ _ _ rfl;
            have hs1 := hb1.size)
        | (at_builtin; refine list_ints rfl _ _ rfl w0.heap.size i _ (rowF i fun _ => 200) (by rfl) (hO5.alloc _) w1.heap.size 0 1 1 [200] (by rfl) hI5 (.inl (by omega)) (by omega) (by simp; omega) ?_; intro g2 k2 w2 hO2 hg2 hw2))
      have hO1' := own_grew (hO1.alloc (.cells #[.int .i64 200] 2)) hg2 (fun g e1 e2 => by simp [Value.ownBlock] at e1; exact g15 g e2 e1.symm)
      have hne : g1 ≠ g2 := by
        have := hO1.lt
        rcases hw2 with h | h
        · exact fun e => g15 g2 h e.symm
        · simp at h; omega
      have hb2 : Below w0.heap.size w0 w2 := hb1.trans ((balloc' _ _ _ hs1).trans (below_grew hg2 (fun g e => (hO5.lt g e).1) (by simp; omega)))
      go_roundw
      case rel => exact ⟨i + 1, _, by omega, by go_num, Lib.hid rfl, Lib.hid (by rw [rowF_snoc]; exact hO1'), Lib.hid (by rw [rowF_snoc]; exact hO2), Lib.hid (fun g e1 e2 => by simp [Value.ownBlock] at e1 e2; omega), hb2⟩
      case measure => simp [intOf]; omega
    · obtain rfl : n4 = i := by omega
      obtain ⟨g4, k4, rfl⟩ := own_slice HO4.out (by omega)
      obtain ⟨g5, k5, rfl⟩ := own_slice HO5.out (by omega)
      have R4 := OwnI.rwi HO4.out
      have R5 := OwnI.rwi HO5.out
      have l4 := (OwnI.lt HO4.out).1
      have l5 := (OwnI.lt HO5.out).1
      have kk4 := (OwnI.ints HO4.out).2
      have kk5 := (OwnI.ints HO5.out).2
      have hne : g4 ≠ g5 := fun e => HA.out g4 rfl (by rw [e]; rfl)
      have HR4 := Lib.hid R4
      have HR5 := Lib.hid R5
      clear HO4 HO5 HA R4 R5
      have Hbox : Hid (∀ V, Below w0.heap.size w0 V → Cs V w.heap.size #[.slice A1 n1 c1, .slice A2 n2 c2, .slice A3 n3 c3, .slice A4 n4 c4]) := Lib.hid (fun V hV => HB1.out.keep hV)
      have Hww : Hid (∀ V, Below w0.heap.size w0 V → Below w.heap.size w V) := Lib.hid (fun V hV => hbw0.trans (hV.mono (Nat.le_of_lt hsz0)))
      go_wp2_with fail
      go_loopw [7] (fun s7 wx => ∃ (m : Nat) (V : World), m ≤ n1 ∧ s7 = .int .i64 (m : Nat) ∧ Hid (V = wx) ∧ Hid (RwI V g4 n4 (rowF n4 (ini an (fun q => (ls.getD q (0, 0)).1) 0 m))) ∧ Hid (RwI V g5 n4 (rowF n4 (ini an (fun q => (ls.getD q (0, 0)).2) 200 m))) ∧ Below w0.heap.size w0 V) (fun s7 _ => n1 - (intOf s7).toNat)
      case atStart => exact ⟨0, _, Nat.zero_le _, rfl, Lib.hid rfl, HR4, HR5, hbx⟩
      case round =>
        clear HR4 HR5 hbx B1 cB1 fB1 lB1 hsx
        obtain ⟨m, V, hm, rfl, HV, HR4, HR5, hbx⟩ := hrel
        obtain rfl := HV.out
        clear HV
        have B1 := Hbox.out V hbx
        have cB1 := B1.c
        have fB1 := B1.f
        have lB1 := B1.lt
        by_cases hmn : m < n1
        · have hbv := Hww.out V hbx
          obtain ⟨b1, o1, rfl, _, ca⟩ := H.out.h1.at0 hbv hmn
          obtain ⟨b1', o1', e', _, c0⟩ := H.out.h1.at0 hbv (show 0 < n1 by omega)
          injection e' with e'
          injection e' with e1 e2
          subst e1 e2
          rw [Nat.add_zero] at c0
          obtain ⟨b2, o2, x, y, rfl, hget, d0, d1⟩ := H.out.h2.at_ hbv (show m < n2 by have := HO.out.lsl; omega)
          have hja := HO.out.aN_int (show m < an.length by omega)
          have hj := HO.out.aN_ws (show m < an.length by omega)
          rw [hl4] at hj
          have hx : ls.getD m (0, 0) = (x, y) := by rw [List.getD_eq_getElem?_getD, hget]; rfl
          have hba := HO.out.bd m (by omega)
          have hb0 := HO.out.bd 0 (by omega)
          have R4n := HR4.out.set (aN an m) x hj
          have R5n := fun W' => HR5.out.below (w' := W')
          have Hn4 : Hid ((rowF n4 (ini an (fun q => (ls.getD q (0, 0)).1) 0 m)).set (aN an m) x = rowF n4 (ini an (fun q => (ls.getD q (0, 0)).1) 0 (m + 1))) := Lib.hid (by rw [rowF_set]; simp only [ini, hx])
          have Hn5 : Hid ((rowF n4 (ini an (fun q => (ls.getD q (0, 0)).2) 200 m)).set (aN an m) y = rowF n4 (ini an (fun q => (ls.getD q (0, 0)).2) 200 (m + 1))) := Lib.hid (by rw [rowF_set]; simp only [ini, hx])
          have Hlt : Hid (b2 < w0.heap.size) := Lib.hid (by have := World.block_lt_of_cell? V _ d0; have h2 := H.out.h2.2 (by have := HO.out.lsl; omega); obtain ⟨b9, o9, e9, h9, -⟩ := h2; injection e9 with e9; injection e9 with e9; omega)
          have HSS : Hid (∀ U, Below w0.heap.size w0 U → (U.cell? ⟨w.heap.size, 1, none⟩ = some (.slice (some ⟨b2, o2, none⟩) n2 c2)) ∧ U.cell? ⟨b2, o2 + m * 2, none⟩ = some (.int .i64 x) ∧ U.cell? ⟨b2, o2 + m * 2 + 1, none⟩ = some (.int .i64 y)) := Lib.hid (fun U hU => by
            have hbu := Hww.out U hU
            obtain ⟨b9, o9, x9, y9, e9, hget9, d9, d9'⟩ := H.out.h2.at_ hbu (show m < n2 by have := HO.out.lsl; omega)
            injection e9 with e9
            injection e9 with e1 e2
            subst e1 e2
            rw [hget] at hget9
            injection hget9 with hget9
            injection hget9 with e1 e2
            subst e1 e2
            exact ⟨(Hbox.out U hU).c 1, d9, d9'⟩)
          clear R4n R5n hx hget
          generalize an.getD m 0 = am at *
          generalize an.getD 0 0 = a0 at *
          generalize hjj : aN an m = j at *
          have hjd : am - a0 = (j : Int) := by omega
          have hji : (j : Int) < (n4 : Int) := by omega
          have c4 := HR4.out.cell hj
          have f4 := HR4.out.frozen j
          have c5 := HR5.out.cell hj
          have f5 := HR5.out.frozen j
          generalize (rowF n4 (ini an (fun q => (ls.getD q (0, 0)).1) 0 m)).getD j 0 = v4 at c4
          generalize (rowF n4 (ini an (fun q => (ls.getD q (0, 0)).2) 200 m)).getD j 0 = v5 at c5
          clear hja
          go_wp2_with fail
          go_quiet (fail)
          go_wp2_with fail
          have hbq : Below w0.heap.size w0 (V.drewN nq).drew := (bdrewN hbx nq).drew
          refine wp_region_seq (S := fun U => (U.cell? ⟨w.heap.size, 1, none⟩ = some (.slice (some ⟨b2, o2, none⟩) n2 c2)) ∧ U.cell? ⟨b2, o2 + m * 2, none⟩ = some (.int .i64 x) ∧ U.cell? ⟨b2, o2 + m * 2 + 1, none⟩ = some (.int .i64 y)) [.t 0 1, .t 1 3, .t 2 7, .t 3 15, .t 4 31, .t 5 63, .t 6 127, .t 7 255, .t 8 511, .t 9 1023, .t 10 2047, .t 11 4095, .t 12 8191, .t 13 16383, .t 14 32767, .t 15 65535, .t 16 131071, .o 17 262143, .t 18 524287, .o 19 1048575] (by kernel_rfl) (by kernel_rfl) (by as_aux_lemma => kernel_rfl) (by kernel_rfl) (fun c a d v w h => by cases d <;> exact h) (HSS.out _ hbq) (fun _ => ?_)
          have hmn2 : m < n2 := by have := HO.out.lsl; omega
          have Hmn := Lib.hid hmn
          iterate 17 (refine seq_take (v := ?_) rfl (by rfl) ?_ ?_; rotate_left; focus (intro w9 hSw; obtain ⟨s1, s2, s3⟩ := hSw; (go_simp; (try simp only [hmn2, hj, and_self, if_true, if_false]) <;> with_reducible rfl)); try simp only [Act.put, List.setIfInBounds_toArray, List.set_cons_zero, List.set_cons_succ])
          have hb4 : Below w0.heap.size w0 ((V.drewN nq).drew.setCell ⟨g4, j, none⟩ (.int .i64 x)) := bset hbq (p := ⟨g4, j, none⟩) l4 _
          have hb5 : Below w0.heap.size w0 (((V.drewN nq).drew.setCell ⟨g4, j, none⟩ (.int .i64 x)).setCell ⟨g5, j, none⟩ (.int .i64 y)) := bset hb4 (p := ⟨g5, j, none⟩) l5 _
          refine seq_one rfl (fun K9 hS9 => ?_)
          go_simp
          refine hS9.out _ _ (HSS.out _ hb4) (fun _ => ?_)
          clear hS9 K9
          try simp only [Act.put, List.setIfInBounds_toArray, List.set_cons_zero, List.set_cons_succ]
          iterate 1 (refine seq_take (v := ?_) rfl (by rfl) ?_ ?_; rotate_left; focus (intro w9 hSw; obtain ⟨s1, s2, s3⟩ := hSw; (go_simp; (try simp only [hmn2, hj, and_self, if_true, if_false]) <;> with_reducible rfl)); try simp only [Act.put, List.setIfInBounds_toArray, List.set_cons_zero, List.set_cons_succ])
          refine seq_one rfl (fun K9 hS9 => ?_)
          go_simp
          refine hS9.out _ _ (HSS.out _ hb5) (fun _ => ?_)
          clear hS9 K9
          try simp only [Act.put, List.setIfInBounds_toArray, List.set_cons_zero, List.set_cons_succ]
          refine seq_done ?_
          have R4n : RwI (((V.drewN nq).drew.setCell ⟨g4, j, none⟩ (.int .i64 x)).setCell ⟨g5, j, none⟩ (.int .i64 y)) g4 n4 (rowF n4 (ini an (fun q => (ls.getD q (0, 0)).1) 0 (m + 1))) := by
            rw [← Hn4.out]; exact (((HR4.out.drewN nq).drew).set j x hj).other (p := ⟨g5, j, none⟩) hne _
          have R5n : RwI (((V.drewN nq).drew.setCell ⟨g4, j, none⟩ (.int .i64 x)).setCell ⟨g5, j, none⟩ (.int .i64 y)) g5 n4 (rowF n4 (ini an (fun q => (ls.getD q (0, 0)).2) 200 (m + 1))) := by
            rw [← Hn5.out]; exact (((HR5.out.drewN nq).drew).other (p := ⟨g4, j, none⟩) (Ne.symm hne) _).set j y hj
          clear HSS Hn4 Hn5 c4 f4 c5 f5 hb4 hbq cB1 fB1 lB1 B1 ca c0 d0 d1
          go_wp2_with fail
          go_roundw
          case rel => exact ⟨m + 1, _, Hmn.out, by go_num, Lib.hid rfl, Lib.hid R4n, Lib.hid R5n, hb5⟩
          case measure => have := Hmn.out; simp [intOf]; omega
        · obtain rfl : m = n1 := by omega
          have hF : ini an (fun q => (ls.getD q (0, 0)).1) 0 m = rnd (dF an fs) n4 0 (ini an (fun q => (ls.getD q (0, 0)).1) 0 an.length) := by rw [hl1]; rfl
          have hG : (rowF n4 (ini an (fun q => (ls.getD q (0, 0)).2) 200 m)) = rowF n4 fun k => - rnd (fun k => !dF an fs k) n4 0 (fun k => - ini an (fun i => (ls.getD i (0, 0)).2) 200 an.length k) k := by
            refine rowF_congr fun k _ => ?_
            show _ = - - _
            rw [hl1, Int.neg_neg]
          have HR4' := Lib.hid HR4.out
          have HR5' := Lib.hid HR5.out
          rw [hF] at HR4'
          rw [hG] at HR5'
          clear hF hG HR4 HR5
          have hlo : rnd (dF an fs) n4 n4 (ini an (fun q => (ls.getD q (0, 0)).1) 0 an.length) = loZ an ls fs n4 := by unfold loZ; rfl
          have hhi : (fun k => - rnd (fun k => !dF an fs k) n4 n4 (fun k => - ini an (fun i => (ls.getD i (0, 0)).2) 200 an.length k) k) = hiZ an ls fs n4 := by funext k; unfold hiZ hiN; rfl
          have Hlo := Lib.hid hlo
          have Hhi := Lib.hid hhi
          clear hlo hhi
          generalize ini an (fun q => (ls.getD q (0, 0)).1) 0 an.length = F0 at *
          generalize (fun k => - ini an (fun i => (ls.getD i (0, 0)).2) 200 an.length k) = G0 at *
          go_wp2_with fail
          go_loopw [9] (fun s9 wx => ∃ (r : Nat) (U : World), r ≤ n4 ∧ s9 = .int .i64 (r : Nat) ∧ Hid (U = wx) ∧ Hid (RwI U g4 n4 (rowF n4 (rnd (dF an fs) n4 r F0))) ∧ Hid (RwI U g5 n4 (rowF n4 fun k => - rnd (fun k => !dF an fs k) n4 r G0 k)) ∧ Below w0.heap.size w0 U) (fun s9 _ => n4 - (intOf s9).toNat)
          case atStart => exact ⟨0, _, by omega, rfl, Lib.hid rfl, HR4', HR5', hbx⟩
          case round =>
            clear HR4' HR5' hbx B1 cB1 fB1 lB1
            obtain ⟨r, U, hr, rfl, HU, HR4, HR5, hbx⟩ := hrel
            obtain rfl := HU.out
            clear HU
            by_cases hrn : r < n4
            · have Hrn := Lib.hid hrn
              have Hs4 : Hid (∀ f, swp (dF an fs) (n4 - 1) (rnd (dF an fs) n4 r F0) = f → rnd (dF an fs) n4 (r + 1) F0 = f) := Lib.hid (fun f h => h)
              have Hs5 : Hid (∀ f, swp (fun k => !dF an fs k) (n4 - 1) (rnd (fun k => !dF an fs k) n4 r G0) = f → rnd (fun k => !dF an fs k) n4 (r + 1) G0 = f) := Lib.hid (fun f h => h)
              generalize rnd (dF an fs) n4 r F0 = F at *
              generalize rnd (fun k => !dF an fs k) n4 r G0 = G at *
              go_wp2_with fail
              go_loopw [10] (fun s10 wx => ∃ (j : Nat) (T : World), j + 1 ≤ n4 ∧ s10 = .int .i64 ((j + 1 : Nat) : Int) ∧ Hid (T = wx) ∧ Hid (RwI T g4 n4 (rowF n4 (swp (dF an fs) j F))) ∧ Hid (RwI T g5 n4 (rowF n4 fun k => - swp (fun k => !dF an fs k) j G k)) ∧ Below w0.heap.size w0 T) (fun s10 _ => n4 - (intOf s10).toNat)
              case atStart => exact ⟨0, _, by omega, rfl, Lib.hid rfl, HR4, HR5, hbx⟩
              case round =>
                clear HR4 HR5 hbx
                obtain ⟨j, T, hj, rfl, HT, HR4, HR5, hbx⟩ := hrel
                obtain rfl := HT.out
                clear HT
                by_cases hjn : j + 1 < n4
                · skip
                  have B1 := Hbox.out T hbx
                  have cB1 := B1.c
                  have fB1 := B1.f
                  have lB1 := B1.lt
                  have hbv := Hww.out T hbx
                  obtain ⟨b1, o1, rfl, _, c0⟩ := H.out.h1.at0 hbv (show 0 < m by omega)
                  obtain ⟨q1, q2, q3⟩ := gapF_bd HO.out (k := j + 1) (by omega) (by omega)
                  have kg := fun (W : World) (v : Int) (hv : v = an.getD 0 0 + ((j + 1 : Nat) : Int)) (hb : Below w.heap.size w W) => hv ▸ zgap_any _ _ _ _ _ _ _ _ _ _ _ _ _ _ _ _ (j + 1) W (H.out.below hb) HO.out (by omega) hjn
                  have hg3 : gapN an (j + 1) < n3 := by have := HO.out.fsl; omega
                  obtain ⟨b3, o3, rfl, _, _⟩ := H.out.h3.at0 hbv hg3
                  have hba := HO.out.bd 0 (by omega)
                  have hm0 : 0 < m := by omega
                  obtain ⟨a0, ha0⟩ : ∃ a, an.getD 0 0 = a := ⟨_, rfl⟩
                  rw [ha0] at kg hba
                  obtain ⟨g, hgg⟩ : ∃ g, gapN an (j + 1) = g := ⟨_, rfl⟩
                  rw [hgg] at kg hg3
                  have hjl : (j : Int) + 1 < (n4 : Int) := by omega
                  have hgl : (g : Int) < (n3 : Int) := by omega
                  clear q1 q2 q3 c0
                  cases hd : dF an fs (j + 1) with
                  | true =>
                    have hdv : fs.getD g false = true := by rw [← hgg]; exact hd
                    have HSS : Hid (∀ U, Below w0.heap.size w0 U → (U.cell? ⟨w.heap.size, 0, none⟩ = some (.slice (some ⟨b1, o1, none⟩) m c1)) ∧ (U.cell? ⟨w.heap.size, 1, none⟩ = some (.slice A2 n2 c2)) ∧ (U.cell? ⟨w.heap.size, 2, none⟩ = some (.slice (some ⟨b3, o3, none⟩) n3 c3)) ∧ (U.cell? ⟨w.heap.size, 3, none⟩ = some (.slice A4 n4 c4)) ∧ U.cell? ⟨b1, o1, none⟩ = some (.int .i64 a0) ∧ U.cell? ⟨b3, o3 + g, none⟩ = some (.bool true)) := Lib.hid (fun U hU => by
                      have C := Hbox.out U hU
                      obtain ⟨b9, o9, e9, _, d9⟩ := H.out.h1.at0 (Hww.out U hU) (show 0 < m by omega)
                      injection e9 with e9
                      injection e9 with e1 e2
                      subst e1 e2
                      obtain ⟨b9, o9, e9, _, d8⟩ := H.out.h3.at0 (Hww.out U hU) hg3
                      injection e9 with e9
                      injection e9 with e1 e2
                      subst e1 e2
                      rw [Nat.add_zero, ha0] at d9
                      rw [hdv] at d8
                      exact ⟨C.c 0, C.c 1, C.c 2, C.c 3, d9, d8⟩)
                    clear ha0 hdv hgg
                    have hS0 := HSS.out _ hbx.drew
                    go_wp2_with fail
                    refine wp_region_seq (S := fun U => (U.cell? ⟨w.heap.size, 0, none⟩ = some (.slice (some ⟨b1, o1, none⟩) m c1)) ∧ (U.cell? ⟨w.heap.size, 1, none⟩ = some (.slice A2 n2 c2)) ∧ (U.cell? ⟨w.heap.size, 2, none⟩ = some (.slice (some ⟨b3, o3, none⟩) n3 c3)) ∧ (U.cell? ⟨w.heap.size, 3, none⟩ = some (.slice A4 n4 c4)) ∧ U.cell? ⟨b1, o1, none⟩ = some (.int .i64 a0) ∧ U.cell? ⟨b3, o3 + g, none⟩ = some (.bool true)) [.t 0 1, .t 1 3, .t 2 7, .t 3 15, .t 4 31, .t 5 63, .t 6 127, .t 7 255, .t 8 511, .o 9 1023, .t 10 2047, .t 11 4095] (by kernel_rfl) (by kernel_rfl) (by as_aux_lemma => kernel_rfl) (by kernel_rfl) (fun c a d v w h => by cases d <;> exact h) hS0 (fun _ => ?_)
                    clear hS0
                    iterate 9 (refine seq_take (v := ?_) rfl (by rfl) ?_ ?_; rotate_left; focus (intro w9 hSw; obtain ⟨s1, s2, s3, s4, s5, s6⟩ := hSw; (go_simp; (try simp only [hm0, hg3, and_self, if_true, if_false]) <;> with_reducible rfl)); try simp only [Act.put, List.setIfInBounds_toArray, List.set_cons_zero, List.set_cons_succ])
                    refine seq_one rfl (fun K9 hS9 => ?_)
                    go_simp
                    refine (kg _ _ (by rw [IntWalk.i64_in _ (by omega)]; omega) (Hww.out _ hbx.drew)).mono ?_
                    rintro e wG ⟨rfl, hbG⟩
                    have hbG' : Below w0.heap.size w0 wG := (hbx.drew).trans (hbG.mono hbx.size)
                    refine hS9.out _ _ (HSS.out _ hbG') (fun _ => ?_)
                    clear hS9 K9
                    try simp only [Act.put, List.setIfInBounds_toArray, List.set_cons_zero, List.set_cons_succ]
                    iterate 2 (refine seq_take (v := ?_) rfl (by rfl) ?_ ?_; rotate_left; focus (intro w9 hSw; obtain ⟨s1, s2, s3, s4, s5, s6⟩ := hSw; (go_simp; (try simp only [hm0, hg3, and_self, if_true, if_false]) <;> with_reducible rfl)); try simp only [Act.put, List.setIfInBounds_toArray, List.set_cons_zero, List.set_cons_succ])
                    refine seq_done ?_
                    have R4 := HR4.out.drew.below hbG
                    have R5 := HR5.out.drew.below hbG
                    clear HSS kg HR4 HR5 hbx hbG cB1 fB1 lB1 B1
                    have f4 := fun q => R4.frozen q
                    have f5 := fun q => R5.frozen q
                    have c4j := R4.cell (k := j) (by omega)
                    have c4k := R4.cell (k := j + 1) hjn
                    have c5j := R5.cell (k := j) (by omega)
                    have c5k := R5.cell (k := j + 1) hjn
                    rw [rowF_get _ (by omega)] at c4j c4k c5j c5k
                    have Hjn := Lib.hid hjn
                    have E4 := rowF_stp_t (n := n4) (f := swp (dF an fs) j F) hd
                    have E5 := rowF_neg_f (d := fun k => !dF an fs k) (n := n4) (j := j) (g := swp (fun k => !dF an fs k) j G) (by simp [hd])
                    rw [show stp (dF an fs) (j + 1) (swp (dF an fs) j F) = swp (dF an fs) (j + 1) F from rfl] at E4
                    rw [show stp (fun k => !dF an fs k) (j + 1) (swp (fun k => !dF an fs k) j G) = swp (fun k => !dF an fs k) (j + 1) G from rfl] at E5
                    obtain ⟨a, ha⟩ : ∃ a, swp (dF an fs) j F j = a := ⟨_, rfl⟩
                    obtain ⟨b, hb⟩ : ∃ b, swp (dF an fs) j F (j + 1) = b := ⟨_, rfl⟩
                    obtain ⟨p, hp⟩ : ∃ p, - swp (fun k => !dF an fs k) j G j = p := ⟨_, rfl⟩
                    obtain ⟨q, hq⟩ : ∃ q, - swp (fun k => !dF an fs k) j G (j + 1) = q := ⟨_, rfl⟩
                    rw [ha, hb] at E4
                    rw [hp, hq] at E5
                    rw [ha] at c4j
                    rw [hb] at c4k
                    rw [hp] at c5j
                    rw [hq] at c5k
                    have HE4 := Lib.hid E4
                    have HE5 := Lib.hid E5
                    have hne' := Ne.symm hne
                    have hj0 : (0 : Int) ≤ (j : Int) + 1 := by omega
                    have hj4 : j < n4 := by omega
                    have hj5 : (j : Int) < (n4 : Int) := by omega
                    clear E4 E5 ha hb hn10 hba hm0 hgl hd
                    by_cases hab : a < b
                    · have E4 := HE4.out
                      rw [if_pos hab] at E4
                      replace HE4 := Lib.hid E4
                      clear E4
                      go_wp2_with fail
                      go_region
                      all_goals
                        have R4' := (R4.set (j) b (by omega)).drew
                        have R5' := (R5.other (p := ⟨g4, j, none⟩) hne' (.int .i64 b)).drew
                        have hbH := (bset hbG' (p := ⟨g4, j, none⟩) l4 (.int .i64 b)).drew
                        clear R4 R5 c4j c4k c5j c5k f4 f5 hbG' hab
                        generalize (wG.setCell ⟨g4, j, none⟩ (.int .i64 b)).drew = wH at *
                        have f5 := fun q => R5'.frozen q
                        have c5j := R5'.cell (k := j) hj4
                        have c5k := R5'.cell (k := j + 1) Hjn.out
                        rw [rowF_get _ (by omega)] at c5j c5k
                        rw [hp] at c5j
                        rw [hq] at c5k
                        by_cases hpq : p < q
                        · have E5 := HE5.out
                          rw [if_pos hpq] at E5
                          replace HE5 := Lib.hid E5
                          clear E5
                          go_wp2_with fail
                          go_region
                          go_wp2_with fail
                          go_roundw
                          case rel => exact ⟨j + 1, _, Hjn.out, by go_num, Lib.hid rfl, Lib.hid (by rw [← HE4.out]; exact rwA), Lib.hid (by rw [← HE5.out]; exact rwA), blA⟩
                          case measure => have := Hjn.out; simp [intOf]; omega
                        · have E5 := HE5.out
                          rw [if_neg hpq] at E5
                          replace HE5 := Lib.hid E5
                          clear E5
                          go_wp2_with fail
                          go_region
                          go_wp2_with fail
                          go_roundw
                          case rel => exact ⟨j + 1, _, Hjn.out, by go_num, Lib.hid rfl, Lib.hid (by rw [← HE4.out]; exact rwA), Lib.hid (by rw [← HE5.out]; exact rwA), blA⟩
                          case measure => have := Hjn.out; simp [intOf]; omega
                    · have E4 := HE4.out
                      rw [if_neg hab] at E4
                      replace HE4 := Lib.hid E4
                      clear E4
                      go_wp2_with fail
                      go_region
                      all_goals
                        have R4' := (R4.set (j) a (by omega)).drew
                        have R5' := (R5.other (p := ⟨g4, j, none⟩) hne' (.int .i64 a)).drew
                        have hbH := (bset hbG' (p := ⟨g4, j, none⟩) l4 (.int .i64 a)).drew
                        clear R4 R5 c4j c4k c5j c5k f4 f5 hbG' hab
                        generalize (wG.setCell ⟨g4, j, none⟩ (.int .i64 a)).drew = wH at *
                        have f5 := fun q => R5'.frozen q
                        have c5j := R5'.cell (k := j) hj4
                        have c5k := R5'.cell (k := j + 1) Hjn.out
                        rw [rowF_get _ (by omega)] at c5j c5k
                        rw [hp] at c5j
                        rw [hq] at c5k
                        by_cases hpq : p < q
                        · have E5 := HE5.out
                          rw [if_pos hpq] at E5
                          replace HE5 := Lib.hid E5
                          clear E5
                          go_wp2_with fail
                          go_region
                          go_wp2_with fail
                          go_roundw
                          case rel => exact ⟨j + 1, _, Hjn.out, by go_num, Lib.hid rfl, Lib.hid (by rw [← HE4.out]; exact rwA), Lib.hid (by rw [← HE5.out]; exact rwA), blA⟩
                          case measure => have := Hjn.out; simp [intOf]; omega
                        · have E5 := HE5.out
                          rw [if_neg hpq] at E5
                          replace HE5 := Lib.hid E5
                          clear E5
                          go_wp2_with fail
                          go_region
                          go_wp2_with fail
                          go_roundw
                          case rel => exact ⟨j + 1, _, Hjn.out, by go_num, Lib.hid rfl, Lib.hid (by rw [← HE4.out]; exact rwA), Lib.hid (by rw [← HE5.out]; exact rwA), blA⟩
                          case measure => have := Hjn.out; simp [intOf]; omega
                  | false =>
                    have hdv : fs.getD g false = false := by rw [← hgg]; exact hd
                    have HSS : Hid (∀ U, Below w0.heap.size w0 U → (U.cell? ⟨w.heap.size, 0, none⟩ = some (.slice (some ⟨b1, o1, none⟩) m c1)) ∧ (U.cell? ⟨w.heap.size, 1, none⟩ = some (.slice A2 n2 c2)) ∧ (U.cell? ⟨w.heap.size, 2, none⟩ = some (.slice (some ⟨b3, o3, none⟩) n3 c3)) ∧ (U.cell? ⟨w.heap.size, 3, none⟩ = some (.slice A4 n4 c4)) ∧ U.cell? ⟨b1, o1, none⟩ = some (.int .i64 a0) ∧ U.cell? ⟨b3, o3 + g, none⟩ = some (.bool false)) := Lib.hid (fun U hU => by
                      have C := Hbox.out U hU
                      obtain ⟨b9, o9, e9, _, d9⟩ := H.out.h1.at0 (Hww.out U hU) (show 0 < m by omega)
                      injection e9 with e9
                      injection e9 with e1 e2
                      subst e1 e2
                      obtain ⟨b9, o9, e9, _, d8⟩ := H.out.h3.at0 (Hww.out U hU) hg3
                      injection e9 with e9
                      injection e9 with e1 e2
                      subst e1 e2
                      rw [Nat.add_zero, ha0] at d9
                      rw [hdv] at d8
                      exact ⟨C.c 0, C.c 1, C.c 2, C.c 3, d9, d8⟩)
                    clear ha0 hdv hgg
                    have hS0 := HSS.out _ hbx.drew
                    go_wp2_with fail
                    refine wp_region_seq (S := fun U => (U.cell? ⟨w.heap.size, 0, none⟩ = some (.slice (some ⟨b1, o1, none⟩) m c1)) ∧ (U.cell? ⟨w.heap.size, 1, none⟩ = some (.slice A2 n2 c2)) ∧ (U.cell? ⟨w.heap.size, 2, none⟩ = some (.slice (some ⟨b3, o3, none⟩) n3 c3)) ∧ (U.cell? ⟨w.heap.size, 3, none⟩ = some (.slice A4 n4 c4)) ∧ U.cell? ⟨b1, o1, none⟩ = some (.int .i64 a0) ∧ U.cell? ⟨b3, o3 + g, none⟩ = some (.bool false)) [.t 0 1, .t 1 3, .t 2 7, .t 3 15, .t 4 31, .t 5 63, .t 6 127, .t 7 255, .t 8 511, .o 9 1023, .t 10 2047, .t 11 4095] (by kernel_rfl) (by kernel_rfl) (by as_aux_lemma => kernel_rfl) (by kernel_rfl) (fun c a d v w h => by cases d <;> exact h) hS0 (fun _ => ?_)
                    clear hS0
                    iterate 9 (refine seq_take (v := ?_) rfl (by rfl) ?_ ?_; rotate_left; focus (intro w9 hSw; obtain ⟨s1, s2, s3, s4, s5, s6⟩ := hSw; (go_simp; (try simp only [hm0, hg3, and_self, if_true, if_false]) <;> with_reducible rfl)); try simp only [Act.put, List.setIfInBounds_toArray, List.set_cons_zero, List.set_cons_succ])
                    refine seq_one rfl (fun K9 hS9 => ?_)
                    go_simp
                    refine (kg _ _ (by rw [IntWalk.i64_in _ (by omega)]; omega) (Hww.out _ hbx.drew)).mono ?_
                    rintro e wG ⟨rfl, hbG⟩
                    have hbG' : Below w0.heap.size w0 wG := (hbx.drew).trans (hbG.mono hbx.size)
                    refine hS9.out _ _ (HSS.out _ hbG') (fun _ => ?_)
                    clear hS9 K9
                    try simp only [Act.put, List.setIfInBounds_toArray, List.set_cons_zero, List.set_cons_succ]
                    iterate 2 (refine seq_take (v := ?_) rfl (by rfl) ?_ ?_; rotate_left; focus (intro w9 hSw; obtain ⟨s1, s2, s3, s4, s5, s6⟩ := hSw; (go_simp; (try simp only [hm0, hg3, and_self, if_true, if_false]) <;> with_reducible rfl)); try simp only [Act.put, List.setIfInBounds_toArray, List.set_cons_zero, List.set_cons_succ])
                    refine seq_done ?_
                    have R4 := HR4.out.drew.below hbG
                    have R5 := HR5.out.drew.below hbG
                    clear HSS kg HR4 HR5 hbx hbG cB1 fB1 lB1 B1
                    have f4 := fun q => R4.frozen q
                    have f5 := fun q => R5.frozen q
                    have c4j := R4.cell (k := j) (by omega)
                    have c4k := R4.cell (k := j + 1) hjn
                    have c5j := R5.cell (k := j) (by omega)
                    have c5k := R5.cell (k := j + 1) hjn
                    rw [rowF_get _ (by omega)] at c4j c4k c5j c5k
                    have Hjn := Lib.hid hjn
                    have E4 := rowF_stp_f (n := n4) (f := swp (dF an fs) j F) hd
                    have E5 := rowF_neg_t (d := fun k => !dF an fs k) (n := n4) (j := j) (g := swp (fun k => !dF an fs k) j G) (by simp [hd])
                    rw [show stp (dF an fs) (j + 1) (swp (dF an fs) j F) = swp (dF an fs) (j + 1) F from rfl] at E4
                    rw [show stp (fun k => !dF an fs k) (j + 1) (swp (fun k => !dF an fs k) j G) = swp (fun k => !dF an fs k) (j + 1) G from rfl] at E5
                    obtain ⟨a, ha⟩ : ∃ a, swp (dF an fs) j F j = a := ⟨_, rfl⟩
                    obtain ⟨b, hb⟩ : ∃ b, swp (dF an fs) j F (j + 1) = b := ⟨_, rfl⟩
                    obtain ⟨p, hp⟩ : ∃ p, - swp (fun k => !dF an fs k) j G j = p := ⟨_, rfl⟩
                    obtain ⟨q, hq⟩ : ∃ q, - swp (fun k => !dF an fs k) j G (j + 1) = q := ⟨_, rfl⟩
                    rw [ha, hb] at E4
                    rw [hp, hq] at E5
                    rw [ha] at c4j
                    rw [hb] at c4k
                    rw [hp] at c5j
                    rw [hq] at c5k
                    have HE4 := Lib.hid E4
                    have HE5 := Lib.hid E5
                    have hne' := Ne.symm hne
                    have hj0 : (0 : Int) ≤ (j : Int) + 1 := by omega
                    have hj4 : j < n4 := by omega
                    have hj5 : (j : Int) < (n4 : Int) := by omega
                    clear E4 E5 ha hb hn10 hba hm0 hgl hd
                    by_cases hab : b < a
                    · have E4 := HE4.out
                      rw [if_pos hab] at E4
                      replace HE4 := Lib.hid E4
                      clear E4
                      go_wp2_with fail
                      go_region
                      all_goals
                        have R4' := (R4.set (j + 1) a (by omega)).drew
                        have R5' := (R5.other (p := ⟨g4, j + 1, none⟩) hne' (.int .i64 a)).drew
                        have hbH := (bset hbG' (p := ⟨g4, j + 1, none⟩) l4 (.int .i64 a)).drew
                        clear R4 R5 c4j c4k c5j c5k f4 f5 hbG' hab
                        generalize (wG.setCell ⟨g4, j + 1, none⟩ (.int .i64 a)).drew = wH at *
                        have f5 := fun q => R5'.frozen q
                        have c5j := R5'.cell (k := j) hj4
                        have c5k := R5'.cell (k := j + 1) Hjn.out
                        rw [rowF_get _ (by omega)] at c5j c5k
                        rw [hp] at c5j
                        rw [hq] at c5k
                        by_cases hpq : q < p
                        · have E5 := HE5.out
                          rw [if_pos hpq] at E5
                          replace HE5 := Lib.hid E5
                          clear E5
                          go_wp2_with fail
                          go_region
                          go_wp2_with fail
                          go_roundw
                          case rel => exact ⟨j + 1, _, Hjn.out, by go_num, Lib.hid rfl, Lib.hid (by rw [← HE4.out]; exact rwA), Lib.hid (by rw [← HE5.out]; exact rwA), blA⟩
                          case measure => have := Hjn.out; simp [intOf]; omega
                        · have E5 := HE5.out
                          rw [if_neg hpq] at E5
                          replace HE5 := Lib.hid E5
                          clear E5
                          go_wp2_with fail
                          go_region
                          go_wp2_with fail
                          go_roundw
                          case rel => exact ⟨j + 1, _, Hjn.out, by go_num, Lib.hid rfl, Lib.hid (by rw [← HE4.out]; exact rwA), Lib.hid (by rw [← HE5.out]; exact rwA), blA⟩
                          case measure => have := Hjn.out; simp [intOf]; omega
                    · have E4 := HE4.out
                      rw [if_neg hab] at E4
                      replace HE4 := Lib.hid E4
                      clear E4
                      go_wp2_with fail
                      go_region
                      all_goals
                        have R4' := (R4.set (j + 1) b (by omega)).drew
                        have R5' := (R5.other (p := ⟨g4, j + 1, none⟩) hne' (.int .i64 b)).drew
                        have hbH := (bset hbG' (p := ⟨g4, j + 1, none⟩) l4 (.int .i64 b)).drew
                        clear R4 R5 c4j c4k c5j c5k f4 f5 hbG' hab
                        generalize (wG.setCell ⟨g4, j + 1, none⟩ (.int .i64 b)).drew = wH at *
                        have f5 := fun q => R5'.frozen q
                        have c5j := R5'.cell (k := j) hj4
                        have c5k := R5'.cell (k := j + 1) Hjn.out
                        rw [rowF_get _ (by omega)] at c5j c5k
                        rw [hp] at c5j
                        rw [hq] at c5k
                        by_cases hpq : q < p
                        · have E5 := HE5.out
                          rw [if_pos hpq] at E5
                          replace HE5 := Lib.hid E5
                          clear E5
                          go_wp2_with fail
                          go_region
                          go_wp2_with fail
                          go_roundw
                          case rel => exact ⟨j + 1, _, Hjn.out, by go_num, Lib.hid rfl, Lib.hid (by rw [← HE4.out]; exact rwA), Lib.hid (by rw [← HE5.out]; exact rwA), blA⟩
                          case measure => have := Hjn.out; simp [intOf]; omega
                        · have E5 := HE5.out
                          rw [if_neg hpq] at E5
                          replace HE5 := Lib.hid E5
                          clear E5
                          go_wp2_with fail
                          go_region
                          go_wp2_with fail
                          go_roundw
                          case rel => exact ⟨j + 1, _, Hjn.out, by go_num, Lib.hid rfl, Lib.hid (by rw [← HE4.out]; exact rwA), Lib.hid (by rw [← HE5.out]; exact rwA), blA⟩
                          case measure => have := Hjn.out; simp [intOf]; omega
                · have hj1 : n4 - 1 = j := by omega
                  rw [hj1] at Hs4 Hs5
                  go_wp2_with fail
                  go_roundw
                  case rel => exact ⟨r + 1, _, Hrn.out, by go_num, Lib.hid rfl, Lib.hid (by rw [Hs4.out _ rfl]; exact HR4.out), Lib.hid (by rw [Hs5.out _ rfl]; exact HR5.out), hbx⟩
                  case measure => have := Hrn.out; simp [intOf]; omega
            · obtain rfl : n4 = r := by omega
              have I4 := HR4.out.ints
              have I5 := HR5.out.ints
              rw [Hlo.out] at I4
              rw [Hhi.out] at I5
              go_wp2_with fail
              go_ret2
              exact ⟨g4, k4, g5, k5, rfl, I4, I5, ⟨kk4, kk5⟩, Hww.out _ hbx⟩

end Go.Proofs.YtminplfgadhnnaaGreatDoor
end
