/- Walks of package unit: spans in slices; carry, carried, Carry. -/
import Derived.Test.YtkjoamindolonaaDoorUA3
namespace Go.Proofs.YtkjoamindolonaaDoor
open Go.RowKit Go.Shelf
set_option linter.unusedSimpArgs false
set_option linter.unusedVariables false
open Um (frac S4 spanB spanE prodR mulR mul4 frac4 carryL)

/-- a slice value that reads as a list of spans -/
def Spans (w : World) (A : Option Addr) (n : Nat) (zs : List S4) : Prop :=
  zs.length = n ∧ (0 < n → ∃ b off, A = some ⟨b, off, none⟩ ∧ b < w.heap.size ∧ ∀ i, i < n →
    w.cell? ⟨b, off + i * 4, none⟩ = some (.int .i64 (zs.getD i (0, 0, 0, 0)).1) ∧ w.cell? ⟨b, off + i * 4 + 1, none⟩ = some (.int .i64 (zs.getD i (0, 0, 0, 0)).2.1) ∧
    w.cell? ⟨b, off + i * 4 + 2, none⟩ = some (.int .i64 (zs.getD i (0, 0, 0, 0)).2.2.1) ∧ w.cell? ⟨b, off + i * 4 + 3, none⟩ = some (.int .i64 (zs.getD i (0, 0, 0, 0)).2.2.2))

theorem Spans.below {w w' : World} {A : Option Addr} {n : Nat} {zs : List S4} (h : Spans w A n zs) (hb : Below w.heap.size w w') : Spans w' A n zs := by
  refine ⟨h.1, fun hn => ?_⟩
  obtain ⟨b, off, rfl, hlt, hc⟩ := h.2 hn
  exact ⟨b, off, rfl, Nat.lt_of_lt_of_le hlt hb.size, fun i hi => ⟨(hb.cell (p := ⟨b, _, none⟩) hlt).trans (hc i hi).1, (hb.cell (p := ⟨b, _, none⟩) hlt).trans (hc i hi).2.1, (hb.cell (p := ⟨b, _, none⟩) hlt).trans (hc i hi).2.2.1, (hb.cell (p := ⟨b, _, none⟩) hlt).trans (hc i hi).2.2.2⟩⟩

/-- what is needed of one element, in a later world -/
theorem Spans.at_ {w wr : World} {A : Option Addr} {n k : Nat} {zs : List S4} (h : Spans w A n zs) (hb : Below w.heap.size w wr) (hk : k < n) :
    ∃ b off x y z u, A = some ⟨b, off, none⟩ ∧ zs[k]? = some (x, y, z, u) ∧ zs.drop k = (x, y, z, u) :: zs.drop (k + 1) ∧ wr.cell? ⟨b, off + k * 4, none⟩ = some (.int .i64 x) ∧ wr.cell? ⟨b, off + k * 4 + 1, none⟩ = some (.int .i64 y) ∧
      wr.cell? ⟨b, off + k * 4 + 2, none⟩ = some (.int .i64 z) ∧ wr.cell? ⟨b, off + k * 4 + 3, none⟩ = some (.int .i64 u) := by
  obtain ⟨b, off, rfl, hlt, hc⟩ := h.2 (by omega)
  have hl : k < zs.length := by rw [h.1]; exact hk
  have hget : zs.getD k (0, 0, 0, 0) = zs[k] := by rw [List.getD_eq_getElem?_getD, List.getElem?_eq_getElem hl]; rfl
  obtain ⟨c0, c1, c2, c3⟩ := hc k hk
  rw [hget] at c0 c1 c2 c3
  exact ⟨b, off, zs[k].1, zs[k].2.1, zs[k].2.2.1, zs[k].2.2.2, rfl, List.getElem?_eq_getElem hl, List.drop_eq_getElem_cons hl, (hb.cell (p := ⟨b, _, none⟩) hlt).trans c0, (hb.cell (p := ⟨b, _, none⟩) hlt).trans c1, (hb.cell (p := ⟨b, _, none⟩) hlt).trans c2, (hb.cell (p := ⟨b, _, none⟩) hlt).trans c3⟩

/-- what a predicate on spans that is handed on gives, whatever has been made since -/
def PredSpans (P : Program) (g : Nat) (lb : Array Value) (p : S4 → Bool) (zs : List S4) (w : World) : Prop :=
  ∀ x, x ∈ zs → ∀ W, Below w.heap.size w W → Calls P g (#[.agg #[.int .i64 x.1, .int .i64 x.2.1, .int .i64 x.2.2.1, .int .i64 x.2.2.2]] ++ lb) W fun e W' => e = .returned (.bool (p x)) ∧ Below w.heap.size w W'

set_option maxHeartbeats 400000 in
theorem indexSpans_any (A : Option Addr) (n c g : Nat) (zs : List S4) (lb : Array Value) (p : S4 → Bool) (w : World) (eg : ∀ args w, (callFunc g args).run Tryd.prog w = .ok (.enter g args) w)
    (hz : Spans w A n zs) (hn : n ≤ 9223372036854775807) (hp : PredSpans Tryd.prog g lb p zs w) :
    Calls Tryd.prog 73 #[.slice A n c, .func (.func g) #[] lb] w fun e w' => e = .returned (.int .i64 (Um.idx p zs)) ∧ Below w.heap.size w w' := by
  have Hz := Lib.hid hz
  have Hp := Lib.hid hp
  clear hp hz
  go_enter Tryd.func73, Tryd.ntmps73
  go_wp2
  go_loopw [5, 8] (fun _ i wr => ∃ k : Nat, k ≤ n ∧ i = .int .i64 k ∧ Hid (∀ i y, i < k → zs[i]? = some y → p y = false) ∧ Below w.heap.size w wr) (fun _ i _ => n - (intOf i).toNat)
  case atStart => exact ⟨0, Nat.zero_le _, rfl, fun i y hi => by omega, Below.refl _ _⟩
  case round =>
    obtain ⟨k, hk, rfl, hpre, hbl⟩ := hrel
    by_cases hlt : k < n
    · obtain ⟨b, off, x, y, z, u, rfl, hget, _, c0, c1, c2, c3⟩ := Hz.out.at_ hbl hlt
      have Hget := Lib.hid hget
      have hcall := Hp.out (x, y, z, u) (List.mem_of_getElem? hget) wr hbl
      clear hget
      cases hq : p (x, y, z, u) with
      | true =>
        rw [hq] at hcall
        have Hq := Lib.hid hq
        clear hq
        go_wp2_with (go_at_fn g; refine hcall.mono ?_; rintro e w' ⟨rfl, hb'⟩)
        go_ret
        exact ⟨ret_int (Um.idx_at p k zs (x, y, z, u) hpre.out Hget.out Hq.out).symm, hb'⟩
      | false =>
        rw [hq] at hcall
        have Hq := Lib.hid hq
        clear hq
        go_wp2_with (go_at_fn g; refine hcall.mono ?_; rintro e w' ⟨rfl, hb'⟩)
        go_roundw
        case rel =>
          refine ⟨k + 1, by omega, by go_num, fun i v hi hy => ?_, hb'⟩
          by_cases hik : i < k
          · exact hpre.out i v hik hy
          · have : i = k := by omega
            subst this
            have := Hget.out
            rw [hy] at this
            injection this with this
            rw [this]; exact Hq.out
        case measure => simp [intOf]; omega
    · go_wp2
      go_ret
      refine ⟨ret_int (Um.idx_none p zs (fun y hy => ?_)).symm, hbl⟩
      obtain ⟨i, hi, hiy⟩ := List.mem_iff_getElem.1 hy
      exact hpre.out i y (by have := Hz.out.1; omega) (by rw [List.getElem?_eq_getElem hi, hiy])

set_option maxHeartbeats 400000 in
theorem containsSpans_any (A : Option Addr) (n c g : Nat) (zs : List S4) (lb : Array Value) (p : S4 → Bool) (w : World) (eg : ∀ args w, (callFunc g args).run Tryd.prog w = .ok (.enter g args) w)
    (hz : Spans w A n zs) (hn : n ≤ 9223372036854775807) (hp : PredSpans Tryd.prog g lb p zs w) :
    Calls Tryd.prog 64 #[.slice A n c, .func (.func g) #[] lb] w fun e w' => e = .returned (.bool (zs.any p)) ∧ Below w.heap.size w w' := by
  have h1 := indexSpans_any A n c g zs lb p w eg hz hn hp
  have h2 := Um.idx_any p zs
  have H2 := Lib.hid h2
  clear h2 hz hp eg
  generalize zs.any p = r at *
  generalize Um.idx p zs = ix at *
  go_enter Tryd.func64, Tryd.ntmps64
  go_wp2_with (go_at_call 73; refine h1.mono ?_; rintro e w' ⟨rfl, hb'⟩)
  go_ret
  exact ⟨ret_bool H2.out, hb'⟩

set_option maxHeartbeats 400000 in
theorem badSpanC_any (a b c d : Int) (w : World) :
    Calls Tryd.prog 65 #[.agg #[.int .i64 a, .int .i64 b, .int .i64 c, .int .i64 d]] w fun e w' => e = .returned (.bool (!spanB (a, b, c, d))) ∧ Below w.heap.size w w' := by
  cases hs : spanB (a, b, c, d) with
  | true =>
    have h1 := fun W => checkSpan_ok a b c d W hs
    clear hs
    go_enter Tryd.func65, Tryd.ntmps65
    go_wp2_with fail
    refine (h1 _).mono ?_
    rintro e w1 ⟨rfl, hb1⟩
    go_wp2_with fail
    go_ret
    exact ⟨rfl, bstep (balloc (Below.refl _ _) _) hb1⟩
  | false =>
    have h1 := fun W => checkSpan_bad a b c d W hs
    clear hs
    go_enter Tryd.func65, Tryd.ntmps65
    go_wp2_with fail
    refine (h1 _).mono ?_
    rintro e w1 ⟨rfl, hb1⟩
    go_wp2_with fail
    go_ret
    exact ⟨rfl, bstep (balloc (Below.refl _ _) _) hb1⟩

theorem Rats.new2 (w : World) (H : Nat) (a b c d : Int) (t : TypeId) (hH : w.heap.size = H) : Rats (w.alloc (.cells #[.int .i64 a, .int .i64 b, .int .i64 c, .int .i64 d] t)) (some ⟨H, 0, none⟩) 2 [(a, b), (c, d)] := by
  subst hH
  refine ⟨rfl, fun _ => ⟨w.heap.size, 0, rfl, by simp, fun i hi => ?_⟩⟩
  have : i = 0 ∨ i = 1 := by omega
  rcases this with rfl | rfl <;> simp

/-- what a value is carried to by a decree -/
def RetC (r1 r2 : Option (Int × Int)) : Ending := .returned (.tuple #[.agg #[.int .i64 (r1.getD (0, 0)).1, .int .i64 (r1.getD (0, 0)).2, .int .i64 (r2.getD (0, 0)).1, .int .i64 (r2.getD (0, 0)).2], .bool (r1.isSome && r2.isSome)])

set_option maxHeartbeats 1000000 in
theorem carry_any (a b c d a' b' c' d' : Int) (w : World) (h1 : frac a b = true) (h2 : frac c d = true) (h3 : frac a' b' = true) (h4 : frac c' d' = true) :
    Calls Tryd.prog 66 #[.agg #[.int .i64 a, .int .i64 b, .int .i64 c, .int .i64 d], .agg #[.int .i64 a', .int .i64 b', .int .i64 c', .int .i64 d']] w
      fun e w' => e = RetC (prodR 1 1 [(a, b), (a', b')]) (prodR 1 1 [(c, d), (c', d')]) ∧ Below w.heap.size w w' := by
  have k1 := fun W A (hz : Rats W A 2 [(a, b), (a', b')]) => product_any A 2 2 [(a, b), (a', b')] W hz (by omega) (by
    intro x hx; simp at hx; rcases hx with rfl | rfl
    · exact Um.frac_bd h1
    · exact Um.frac_bd h3)
  have k2 := fun W A (hz : Rats W A 2 [(c, d), (c', d')]) => product_any A 2 2 [(c, d), (c', d')] W hz (by omega) (by
    intro x hx; simp at hx; rcases hx with rfl | rfl
    · exact Um.frac_bd h2
    · exact Um.frac_bd h4)
  clear h1 h2 h3 h4
  generalize prodR 1 1 [(a, b), (a', b')] = r1 at *
  generalize prodR 1 1 [(c, d), (c', d')] = r2 at *
  unfold RetR at k1 k2
  unfold RetC
  generalize (r1.getD (0, 0)).1 = x1 at *
  generalize (r1.getD (0, 0)).2 = y1 at *
  generalize (r2.getD (0, 0)).1 = x2 at *
  generalize (r2.getD (0, 0)).2 = y2 at *
  generalize r1.isSome = o1 at *
  generalize r2.isSome = o2 at *
  cases o1 with
  | true =>
    go_enter Tryd.func66, Tryd.ntmps66
    go_wp2_with fail
    refine (k1 _ _ (Rats.new2 (((w.alloc _).alloc _).alloc _) _ a b a' b' _ (by simp))).mono ?_
    rintro e w1 ⟨rfl, hb1⟩
    have B0 : Cs w1 (w.heap.size) #[.int .i64 a, .int .i64 b, .int .i64 c, .int .i64 d] := Cs.keep (by repeat (first | with_reducible assumption | (with_reducible refine Cs.new _ _ _ _ ?_; first | rfl | (simp; done)) | with_reducible refine Cs.alloc ?_ _ | with_reducible refine Cs.drewN ?_ _ | with_reducible refine Cs.drew ?_ | with_reducible refine Cs.set4 ?_ _ _ _ _ | (with_reducible refine Cs.other4 ?_ ?_ _ _ _ _; rotate_left; focus (first | assumption | omega | (simp; done) | (simp; omega))) | with_reducible refine Cs.set2 ?_ _ _ | (with_reducible refine Cs.other2 ?_ ?_ _ _; rotate_left; focus (first | assumption | omega | (simp; done) | (simp; omega))) | (with_reducible refine Cs.other ?_ ?_ _; rotate_left; focus (first | assumption | omega | (simp; done) | (simp; omega))) | with_reducible refine Cs.keep ?_ (by assumption) | assumption)) hb1
    have B1 : Cs w1 (w.heap.size + 1) #[.int .i64 a', .int .i64 b', .int .i64 c', .int .i64 d'] := Cs.keep (by repeat (first | with_reducible assumption | (with_reducible refine Cs.new _ _ _ _ ?_; first | rfl | (simp; done)) | with_reducible refine Cs.alloc ?_ _ | with_reducible refine Cs.drewN ?_ _ | with_reducible refine Cs.drew ?_ | with_reducible refine Cs.set4 ?_ _ _ _ _ | (with_reducible refine Cs.other4 ?_ ?_ _ _ _ _; rotate_left; focus (first | assumption | omega | (simp; done) | (simp; omega))) | with_reducible refine Cs.set2 ?_ _ _ | (with_reducible refine Cs.other2 ?_ ?_ _ _; rotate_left; focus (first | assumption | omega | (simp; done) | (simp; omega))) | (with_reducible refine Cs.other ?_ ?_ _; rotate_left; focus (first | assumption | omega | (simp; done) | (simp; omega))) | with_reducible refine Cs.keep ?_ (by assumption) | assumption)) hb1
    have B2 : Cs w1 (w.heap.size + 2) #[.int .i64 0, .int .i64 0, .int .i64 0, .int .i64 0] := Cs.keep (by repeat (first | with_reducible assumption | (with_reducible refine Cs.new _ _ _ _ ?_; first | rfl | (simp; done)) | with_reducible refine Cs.alloc ?_ _ | with_reducible refine Cs.drewN ?_ _ | with_reducible refine Cs.drew ?_ | with_reducible refine Cs.set4 ?_ _ _ _ _ | (with_reducible refine Cs.other4 ?_ ?_ _ _ _ _; rotate_left; focus (first | assumption | omega | (simp; done) | (simp; omega))) | with_reducible refine Cs.set2 ?_ _ _ | (with_reducible refine Cs.other2 ?_ ?_ _ _; rotate_left; focus (first | assumption | omega | (simp; done) | (simp; omega))) | (with_reducible refine Cs.other ?_ ?_ _; rotate_left; focus (first | assumption | omega | (simp; done) | (simp; omega))) | with_reducible refine Cs.keep ?_ (by assumption) | assumption)) hb1
    have cB0 := B0.c
    have fB0 := B0.f
    have lB0 := B0.lt
    have cB1 := B1.c
    have fB1 := B1.f
    have lB1 := B1.lt
    go_wp2_with fail
    clear cB0 fB0 lB0 cB1 fB1 lB1
    refine (k2 _ _ (Rats.new2 (w1.alloc _) _ c d c' d' _ (by simp))).mono ?_
    rintro e w2 ⟨rfl, hb2⟩
    have B2' : Cs w2 (w.heap.size + 2) #[.int .i64 0, .int .i64 0, .int .i64 0, .int .i64 0] := (((B2.alloc (.cells #[.int .i64 x1, .int .i64 y1] 23)).alloc (.cells #[.int .i64 c, .int .i64 d, .int .i64 c', .int .i64 d'] 23))).keep hb2
    have B3 : Cs w2 (w1.heap.size) #[.int .i64 x1, .int .i64 y1] := Cs.keep (by repeat (first | with_reducible assumption | (with_reducible refine Cs.new _ _ _ _ ?_; first | rfl | (simp; done)) | with_reducible refine Cs.alloc ?_ _ | with_reducible refine Cs.drewN ?_ _ | with_reducible refine Cs.drew ?_ | with_reducible refine Cs.set4 ?_ _ _ _ _ | (with_reducible refine Cs.other4 ?_ ?_ _ _ _ _; rotate_left; focus (first | assumption | omega | (simp; done) | (simp; omega))) | with_reducible refine Cs.set2 ?_ _ _ | (with_reducible refine Cs.other2 ?_ ?_ _ _; rotate_left; focus (first | assumption | omega | (simp; done) | (simp; omega))) | (with_reducible refine Cs.other ?_ ?_ _; rotate_left; focus (first | assumption | omega | (simp; done) | (simp; omega))) | with_reducible refine Cs.keep ?_ (by assumption) | assumption)) hb2
    have cB2' := B2'.c
    have fB2' := B2'.f
    have lB2' := B2'.lt
    have cB3 := B3.c
    have fB3 := B3.f
    have lB3 := B3.lt
    go_wp2_with fail
    exact bodyPost_ret (v := .tuple #[.agg #[.int .i64 x1, .int .i64 y1, .int .i64 x2, .int .i64 y2], .bool o2]) (by simp [results, Tryd.results66, go_sem, cB2', fB2', lB2']) rfl ⟨rfl, (by repeat (first | with_reducible exact Below.refl _ _ | with_reducible assumption | with_reducible refine balloc ?_ _ | with_reducible refine bdrewN ?_ _ | with_reducible refine Below.drew ?_ | (with_reducible refine bset ?_ ?_ _; rotate_left; focus (first | assumption | omega | (simp; done) | (simp; omega))) | with_reducible refine bstep ?_ (by assumption) | assumption))⟩
  | false =>
    go_enter Tryd.func66, Tryd.ntmps66
    go_wp2_with fail
    refine (k1 _ _ (Rats.new2 (((w.alloc _).alloc _).alloc _) _ a b a' b' _ (by simp))).mono ?_
    rintro e w1 ⟨rfl, hb1⟩
    have B0 : Cs w1 (w.heap.size) #[.int .i64 a, .int .i64 b, .int .i64 c, .int .i64 d] := Cs.keep (by repeat (first | with_reducible assumption | (with_reducible refine Cs.new _ _ _ _ ?_; first | rfl | (simp; done)) | with_reducible refine Cs.alloc ?_ _ | with_reducible refine Cs.drewN ?_ _ | with_reducible refine Cs.drew ?_ | with_reducible refine Cs.set4 ?_ _ _ _ _ | (with_reducible refine Cs.other4 ?_ ?_ _ _ _ _; rotate_left; focus (first | assumption | omega | (simp; done) | (simp; omega))) | with_reducible refine Cs.set2 ?_ _ _ | (with_reducible refine Cs.other2 ?_ ?_ _ _; rotate_left; focus (first | assumption | omega | (simp; done) | (simp; omega))) | (with_reducible refine Cs.other ?_ ?_ _; rotate_left; focus (first | assumption | omega | (simp; done) | (simp; omega))) | with_reducible refine Cs.keep ?_ (by assumption) | assumption)) hb1
    have B1 : Cs w1 (w.heap.size + 1) #[.int .i64 a', .int .i64 b', .int .i64 c', .int .i64 d'] := Cs.keep (by repeat (first | with_reducible assumption | (with_reducible refine Cs.new _ _ _ _ ?_; first | rfl | (simp; done)) | with_reducible refine Cs.alloc ?_ _ | with_reducible refine Cs.drewN ?_ _ | with_reducible refine Cs.drew ?_ | with_reducible refine Cs.set4 ?_ _ _ _ _ | (with_reducible refine Cs.other4 ?_ ?_ _ _ _ _; rotate_left; focus (first | assumption | omega | (simp; done) | (simp; omega))) | with_reducible refine Cs.set2 ?_ _ _ | (with_reducible refine Cs.other2 ?_ ?_ _ _; rotate_left; focus (first | assumption | omega | (simp; done) | (simp; omega))) | (with_reducible refine Cs.other ?_ ?_ _; rotate_left; focus (first | assumption | omega | (simp; done) | (simp; omega))) | with_reducible refine Cs.keep ?_ (by assumption) | assumption)) hb1
    have B2 : Cs w1 (w.heap.size + 2) #[.int .i64 0, .int .i64 0, .int .i64 0, .int .i64 0] := Cs.keep (by repeat (first | with_reducible assumption | (with_reducible refine Cs.new _ _ _ _ ?_; first | rfl | (simp; done)) | with_reducible refine Cs.alloc ?_ _ | with_reducible refine Cs.drewN ?_ _ | with_reducible refine Cs.drew ?_ | with_reducible refine Cs.set4 ?_ _ _ _ _ | (with_reducible refine Cs.other4 ?_ ?_ _ _ _ _; rotate_left; focus (first | assumption | omega | (simp; done) | (simp; omega))) | with_reducible refine Cs.set2 ?_ _ _ | (with_reducible refine Cs.other2 ?_ ?_ _ _; rotate_left; focus (first | assumption | omega | (simp; done) | (simp; omega))) | (with_reducible refine Cs.other ?_ ?_ _; rotate_left; focus (first | assumption | omega | (simp; done) | (simp; omega))) | with_reducible refine Cs.keep ?_ (by assumption) | assumption)) hb1
    have cB0 := B0.c
    have fB0 := B0.f
    have lB0 := B0.lt
    have cB1 := B1.c
    have fB1 := B1.f
    have lB1 := B1.lt
    go_wp2_with fail
    clear cB0 fB0 lB0 cB1 fB1 lB1
    refine (k2 _ _ (Rats.new2 (w1.alloc _) _ c d c' d' _ (by simp))).mono ?_
    rintro e w2 ⟨rfl, hb2⟩
    have B2' : Cs w2 (w.heap.size + 2) #[.int .i64 0, .int .i64 0, .int .i64 0, .int .i64 0] := (((B2.alloc (.cells #[.int .i64 x1, .int .i64 y1] 23)).alloc (.cells #[.int .i64 c, .int .i64 d, .int .i64 c', .int .i64 d'] 23))).keep hb2
    have B3 : Cs w2 (w1.heap.size) #[.int .i64 x1, .int .i64 y1] := Cs.keep (by repeat (first | with_reducible assumption | (with_reducible refine Cs.new _ _ _ _ ?_; first | rfl | (simp; done)) | with_reducible refine Cs.alloc ?_ _ | with_reducible refine Cs.drewN ?_ _ | with_reducible refine Cs.drew ?_ | with_reducible refine Cs.set4 ?_ _ _ _ _ | (with_reducible refine Cs.other4 ?_ ?_ _ _ _ _; rotate_left; focus (first | assumption | omega | (simp; done) | (simp; omega))) | with_reducible refine Cs.set2 ?_ _ _ | (with_reducible refine Cs.other2 ?_ ?_ _ _; rotate_left; focus (first | assumption | omega | (simp; done) | (simp; omega))) | (with_reducible refine Cs.other ?_ ?_ _; rotate_left; focus (first | assumption | omega | (simp; done) | (simp; omega))) | with_reducible refine Cs.keep ?_ (by assumption) | assumption)) hb2
    have cB2' := B2'.c
    have fB2' := B2'.f
    have lB2' := B2'.lt
    have cB3 := B3.c
    have fB3 := B3.f
    have lB3 := B3.lt
    go_wp2_with fail
    exact bodyPost_ret (v := .tuple #[.agg #[.int .i64 x1, .int .i64 y1, .int .i64 x2, .int .i64 y2], .bool false]) (by simp [results, Tryd.results66, go_sem, cB2', fB2', lB2']) rfl ⟨rfl, (by repeat (first | with_reducible exact Below.refl _ _ | with_reducible assumption | with_reducible refine balloc ?_ _ | with_reducible refine bdrewN ?_ _ | with_reducible refine Below.drew ?_ | (with_reducible refine bset ?_ ?_ _; rotate_left; focus (first | assumption | omega | (simp; done) | (simp; omega))) | with_reducible refine bstep ?_ (by assumption) | assumption))⟩

theorem carry_ok (s t : S4) (w : World) (h1 : frac4 s = true) (h2 : frac4 t = true) (h : frac4 (mul4 s t) = true) :
    Calls Tryd.prog 66 #[.agg #[.int .i64 s.1, .int .i64 s.2.1, .int .i64 s.2.2.1, .int .i64 s.2.2.2], .agg #[.int .i64 t.1, .int .i64 t.2.1, .int .i64 t.2.2.1, .int .i64 t.2.2.2]] w
      fun e w' => e = .returned (.tuple #[.agg #[.int .i64 (mul4 s t).1, .int .i64 (mul4 s t).2.1, .int .i64 (mul4 s t).2.2.1, .int .i64 (mul4 s t).2.2.2], .bool true]) ∧ Below w.heap.size w w' := by
  obtain ⟨s1, s2⟩ := (Um.frac4_iff s).1 h1
  obtain ⟨t1, t2⟩ := (Um.frac4_iff t).1 h2
  obtain ⟨m1, m2⟩ := (Um.frac4_iff _).1 h
  have m1' : frac (mulR s.1 s.2.1 t.1 t.2.1).1 (mulR s.1 s.2.1 t.1 t.2.1).2 = true := m1
  have m2' : frac (mulR s.2.2.1 s.2.2.2 t.2.2.1 t.2.2.2).1 (mulR s.2.2.1 s.2.2.2 t.2.2.1 t.2.2.2).2 = true := m2
  have k := carry_any s.1 s.2.1 s.2.2.1 s.2.2.2 t.1 t.2.1 t.2.2.1 t.2.2.2 w s1 s2 t1 t2
  rw [Um.prodR_two s1, Um.prodR_two s2, if_pos m1', if_pos m2'] at k
  exact k

theorem carry_no (s t : S4) (w : World) (h1 : frac4 s = true) (h2 : frac4 t = true) (h : frac4 (mul4 s t) = false) :
    Calls Tryd.prog 66 #[.agg #[.int .i64 s.1, .int .i64 s.2.1, .int .i64 s.2.2.1, .int .i64 s.2.2.2], .agg #[.int .i64 t.1, .int .i64 t.2.1, .int .i64 t.2.2.1, .int .i64 t.2.2.2]] w
      fun e w' => ∃ x y z u : Int, e = .returned (.tuple #[.agg #[.int .i64 x, .int .i64 y, .int .i64 z, .int .i64 u], .bool false]) ∧ Below w.heap.size w w' := by
  obtain ⟨s1, s2⟩ := (Um.frac4_iff s).1 h1
  obtain ⟨t1, t2⟩ := (Um.frac4_iff t).1 h2
  have k := carry_any s.1 s.2.1 s.2.2.1 s.2.2.2 t.1 t.2.1 t.2.2.1 t.2.2.2 w s1 s2 t1 t2
  have hb : ((prodR 1 1 [(s.1, s.2.1), (t.1, t.2.1)]).isSome && (prodR 1 1 [(s.2.2.1, s.2.2.2), (t.2.2.1, t.2.2.2)]).isSome) = false := ?_
  · refine k.mono fun e w' hk => ?_
    rw [RetC, hb] at hk
    exact ⟨_, _, _, _, hk.1, hk.2⟩
  rw [Um.prodR_two s1, Um.prodR_two s2]
  have h' : ¬ (frac (mul4 s t).1 (mul4 s t).2.1 = true ∧ frac (mul4 s t).2.2.1 (mul4 s t).2.2.2 = true) := by
    rw [← Um.frac4_iff, h]; decide
  by_cases m1 : frac (mulR s.1 s.2.1 t.1 t.2.1).1 (mulR s.1 s.2.1 t.1 t.2.1).2 = true
  · have m2 : ¬ frac (mulR s.2.2.1 s.2.2.2 t.2.2.1 t.2.2.2).1 (mulR s.2.2.1 s.2.2.2 t.2.2.1 t.2.2.2).2 = true := fun m2 => h' ⟨m1, m2⟩
    rw [if_pos m1, if_neg m2]; rfl
  · rw [if_neg m1]; rfl

end Go.Proofs.YtkjoamindolonaaDoor
