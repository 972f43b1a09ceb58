/- PA2 -/
import Derived.Test.YtlbjnkopbabcnaaGreatDoorYP01
import Derived.Test.YtlbjnkopbabcnaaGreatDoorYB03
/- Rows that hold a predicate. -/
section
namespace Go.Proofs.YtlbjnkopbabcnaaGreatDoor
open Go.RowKit Go.Shelf
set_option linter.unusedSimpArgs false
set_option linter.unusedVariables false

/-- what a predicate on rows that is handed on gives, whatever has been made since -/
def PredRowP (P : Program) (g : Nat) (lb : Array Value) (p : RowR (Int × Int) → Bool) (zs : List (RowR (Int × Int))) (w : World) : Prop :=
  ∀ x, x ∈ zs → ∀ W, Below w.heap.size w W → Calls P g (#[rrV x] ++ lb) W fun e W' => e = .returned (.bool (p x)) ∧ Below w.heap.size w W'

set_option maxHeartbeats 400000 in
theorem indexRowP_any (A : Option Addr) (n c g : Nat) (zs : List (RowR (Int × Int))) (lb : Array Value) (p : RowR (Int × Int) → Bool) (w : World) (eg : ∀ args w, (callFunc g args).run Tryz.prog w = .ok (.enter g args) w)
    (hz : RowsP w A n zs) (hn : n ≤ 9223372036854775807) (hp : PredRowP Tryz.prog g lb p zs w) :
    Calls Tryz.prog 307 #[.slice A n c, .func (.func g) #[] lb] w fun e w' => e = .returned (.int .i64 (Um.idx p zs)) ∧ Below w.heap.size w w' := by
  have Hz := Lib.hid hz
  have Hp := Lib.hid hp
  clear hp hz
  go_enter Tryz.func307, Tryz.ntmps307
  go_wp2
  go_loopw [5, 8] (fun _ i wr => ∃ k : Nat, k ≤ n ∧ i = .int .i64 k ∧ Hid (∀ i y, i < k → zs[i]? = some y → p y = false) ∧ Below w.heap.size w wr) (fun _ i _ => n - (intOf i).toNat)
  case atStart => exact ⟨0, Nat.zero_le _, rfl, fun i y hi => by omega, Below.refl _ _⟩
  case round =>
    obtain ⟨k, hk, rfl, hpre, hbl⟩ := hrel
    by_cases hlt : k < n
    · obtain ⟨b, off, A', n', c', zs', rfl, hget, _, c0, _⟩ := Hz.out.at_ hbl hlt
      have Hget := Lib.hid hget
      have hcall := Hp.out _ (List.mem_of_getElem? hget) wr hbl
      unfold rrV at hcall
      dsimp only at hcall
      clear hget
      cases hq : p ⟨A', n', c', zs'⟩ with
      | true =>
        rw [hq] at hcall
        have Hq := Lib.hid hq
        clear hq
        go_wp2_with (go_at_fn g; refine hcall.mono ?_; rintro e w' ⟨rfl, hb'⟩)
        go_ret
        exact ⟨ret_int (Um.idx_at p k zs _ hpre.out Hget.out Hq.out).symm, hb'⟩
      | false =>
        rw [hq] at hcall
        have Hq := Lib.hid hq
        clear hq
        go_wp2_with (go_at_fn g; refine hcall.mono ?_; rintro e w' ⟨rfl, hb'⟩)
        go_roundw
        case rel =>
          refine ⟨k + 1, by omega, by go_num, fun i v hi hy => ?_, hb'⟩
          by_cases hik : i < k
          · exact hpre.out i v hik hy
          · have : i = k := by omega
            subst this
            have := Hget.out
            rw [hy] at this
            injection this with this
            rw [this]; exact Hq.out
        case measure => simp [intOf]; omega
    · go_wp2
      go_ret
      refine ⟨ret_int (Um.idx_none p zs (fun y hy => ?_)).symm, hbl⟩
      obtain ⟨i, hi, hiy⟩ := List.mem_iff_getElem.1 hy
      exact hpre.out i y (by have := Hz.out.1; omega) (by rw [List.getElem?_eq_getElem hi, hiy])

set_option maxHeartbeats 400000 in
theorem containsRowP_any (A : Option Addr) (n c g : Nat) (zs : List (RowR (Int × Int))) (lb : Array Value) (p : RowR (Int × Int) → Bool) (w : World) (eg : ∀ args w, (callFunc g args).run Tryz.prog w = .ok (.enter g args) w)
    (hz : RowsP w A n zs) (hn : n ≤ 9223372036854775807) (hp : PredRowP Tryz.prog g lb p zs w) :
    Calls Tryz.prog 225 #[.slice A n c, .func (.func g) #[] lb] w fun e w' => e = .returned (.bool (zs.any p)) ∧ Below w.heap.size w w' := by
  have h1 := indexRowP_any A n c g zs lb p w eg hz hn hp
  have h2 := Um.idx_any p zs
  have H2 := Lib.hid h2
  clear h2 hz hp eg
  generalize zs.any p = r at *
  generalize Um.idx p zs = ix at *
  go_enter Tryz.func225, Tryz.ntmps225
  go_wp2_with (go_at_call 307; refine h1.mono ?_; rintro e w' ⟨rfl, hb'⟩)
  go_ret
  exact ⟨ret_bool H2.out, hb'⟩

/-- what a predicate on rows that is handed on gives, whatever has been made since -/
def PredRowI (P : Program) (g : Nat) (lb : Array Value) (p : RowR Int → Bool) (zs : List (RowR Int)) (w : World) : Prop :=
  ∀ x, x ∈ zs → ∀ W, Below w.heap.size w W → Calls P g (#[rrV x] ++ lb) W fun e W' => e = .returned (.bool (p x)) ∧ Below w.heap.size w W'

set_option maxHeartbeats 400000 in
theorem indexRowI_any (A : Option Addr) (n c g : Nat) (zs : List (RowR Int)) (lb : Array Value) (p : RowR Int → Bool) (w : World) (eg : ∀ args w, (callFunc g args).run Tryz.prog w = .ok (.enter g args) w)
    (hz : RowsI w A n zs) (hn : n ≤ 9223372036854775807) (hp : PredRowI Tryz.prog g lb p zs w) :
    Calls Tryz.prog 228 #[.slice A n c, .func (.func g) #[] lb] w fun e w' => e = .returned (.int .i64 (Um.idx p zs)) ∧ Below w.heap.size w w' := by
  have Hz := Lib.hid hz
  have Hp := Lib.hid hp
  clear hp hz
  go_enter Tryz.func228, Tryz.ntmps228
  go_wp2
  go_loopw [5, 8] (fun _ i wr => ∃ k : Nat, k ≤ n ∧ i = .int .i64 k ∧ Hid (∀ i y, i < k → zs[i]? = some y → p y = false) ∧ Below w.heap.size w wr) (fun _ i _ => n - (intOf i).toNat)
  case atStart => exact ⟨0, Nat.zero_le _, rfl, fun i y hi => by omega, Below.refl _ _⟩
  case round =>
    obtain ⟨k, hk, rfl, hpre, hbl⟩ := hrel
    by_cases hlt : k < n
    · obtain ⟨b, off, A', n', c', zs', rfl, hget, _, c0, _⟩ := Hz.out.at_ hbl hlt
      have Hget := Lib.hid hget
      have hcall := Hp.out _ (List.mem_of_getElem? hget) wr hbl
      unfold rrV at hcall
      dsimp only at hcall
      clear hget
      cases hq : p ⟨A', n', c', zs'⟩ with
      | true =>
        rw [hq] at hcall
        have Hq := Lib.hid hq
        clear hq
        go_wp2_with (go_at_fn g; refine hcall.mono ?_; rintro e w' ⟨rfl, hb'⟩)
        go_ret
        exact ⟨ret_int (Um.idx_at p k zs _ hpre.out Hget.out Hq.out).symm, hb'⟩
      | false =>
        rw [hq] at hcall
        have Hq := Lib.hid hq
        clear hq
        go_wp2_with (go_at_fn g; refine hcall.mono ?_; rintro e w' ⟨rfl, hb'⟩)
        go_roundw
        case rel =>
          refine ⟨k + 1, by omega, by go_num, fun i v hi hy => ?_, hb'⟩
          by_cases hik : i < k
          · exact hpre.out i v hik hy
          · have : i = k := by omega
            subst this
            have := Hget.out
            rw [hy] at this
            injection this with this
            rw [this]; exact Hq.out
        case measure => simp [intOf]; omega
    · go_wp2
      go_ret
      refine ⟨ret_int (Um.idx_none p zs (fun y hy => ?_)).symm, hbl⟩
      obtain ⟨i, hi, hiy⟩ := List.mem_iff_getElem.1 hy
      exact hpre.out i y (by have := Hz.out.1; omega) (by rw [List.getElem?_eq_getElem hi, hiy])

set_option maxHeartbeats 400000 in
theorem containsRowI_any (A : Option Addr) (n c g : Nat) (zs : List (RowR Int)) (lb : Array Value) (p : RowR Int → Bool) (w : World) (eg : ∀ args w, (callFunc g args).run Tryz.prog w = .ok (.enter g args) w)
    (hz : RowsI w A n zs) (hn : n ≤ 9223372036854775807) (hp : PredRowI Tryz.prog g lb p zs w) :
    Calls Tryz.prog 126 #[.slice A n c, .func (.func g) #[] lb] w fun e w' => e = .returned (.bool (zs.any p)) ∧ Below w.heap.size w w' := by
  have h1 := indexRowI_any A n c g zs lb p w eg hz hn hp
  have h2 := Um.idx_any p zs
  have H2 := Lib.hid h2
  clear h2 hz hp eg
  generalize zs.any p = r at *
  generalize Um.idx p zs = ix at *
  go_enter Tryz.func126, Tryz.ntmps126
  go_wp2_with (go_at_call 228; refine h1.mono ?_; rintro e w' ⟨rfl, hb'⟩)
  go_ret
  exact ⟨ret_bool H2.out, hb'⟩
set_option maxHeartbeats 400000 in
theorem indexMr_any (A : Option Addr) (n c g : Nat) (zs : List (Int × Int)) (lb : Array Value) (p : Int × Int → Bool) (w : World) (eg : ∀ args w, (callFunc g args).run Tryz.prog w = .ok (.enter g args) w)
    (hz : Prs w A n zs) (hn : n ≤ 9223372036854775807) (hp : PredPrs Tryz.prog g lb p zs w) :
    Calls Tryz.prog 129 #[.slice A n c, .func (.func g) #[] lb] w fun e w' => e = .returned (.int .i64 (Um.idx p zs)) ∧ Below w.heap.size w w' := by
  have Hz := Lib.hid hz
  have Hp := Lib.hid hp
  clear hp hz
  go_enter Tryz.func129, Tryz.ntmps129
  go_wp2
  go_loopw [5, 8] (fun _ i wr => ∃ k : Nat, k ≤ n ∧ i = .int .i64 k ∧ Hid (∀ i y, i < k → zs[i]? = some y → p y = false) ∧ Below w.heap.size w wr) (fun _ i _ => n - (intOf i).toNat)
  case atStart => exact ⟨0, Nat.zero_le _, rfl, fun i y hi => by omega, Below.refl _ _⟩
  case round =>
    obtain ⟨k, hk, rfl, hpre, hbl⟩ := hrel
    by_cases hlt : k < n
    · obtain ⟨b, off, x, y, rfl, hget, c0, c1⟩ := Hz.out.at_ hbl hlt
      have Hget := Lib.hid hget
      have hcall := Hp.out (x, y) (List.mem_of_getElem? hget) wr hbl
      dsimp only at hcall
      clear hget
      cases hq : p (x, y) with
      | true =>
        rw [hq] at hcall
        have Hq := Lib.hid hq
        clear hq
        go_wp2_with (go_at_fn g; refine hcall.mono ?_; rintro e w' ⟨rfl, hb'⟩)
        go_ret
        exact ⟨ret_int (Um.idx_at p k zs (x, y) hpre.out Hget.out Hq.out).symm, hb'⟩
      | false =>
        rw [hq] at hcall
        have Hq := Lib.hid hq
        clear hq
        go_wp2_with (go_at_fn g; refine hcall.mono ?_; rintro e w' ⟨rfl, hb'⟩)
        go_roundw
        case rel =>
          refine ⟨k + 1, by omega, by go_num, fun i v hi hy => ?_, hb'⟩
          by_cases hik : i < k
          · exact hpre.out i v hik hy
          · have : i = k := by omega
            subst this
            have := Hget.out
            rw [hy] at this
            injection this with this
            rw [this]; exact Hq.out
        case measure => simp [intOf]; omega
    · go_wp2
      go_ret
      refine ⟨ret_int (Um.idx_none p zs (fun y hy => ?_)).symm, hbl⟩
      obtain ⟨i, hi, hiy⟩ := List.mem_iff_getElem.1 hy
      exact hpre.out i y (by have := Hz.out.1; omega) (by rw [List.getElem?_eq_getElem hi, hiy])

set_option maxHeartbeats 400000 in
theorem containsMr_any (A : Option Addr) (n c g : Nat) (zs : List (Int × Int)) (lb : Array Value) (p : Int × Int → Bool) (w : World) (eg : ∀ args w, (callFunc g args).run Tryz.prog w = .ok (.enter g args) w)
    (hz : Prs w A n zs) (hn : n ≤ 9223372036854775807) (hp : PredPrs Tryz.prog g lb p zs w) :
    Calls Tryz.prog 60 #[.slice A n c, .func (.func g) #[] lb] w fun e w' => e = .returned (.bool (zs.any p)) ∧ Below w.heap.size w w' := by
  have h1 := indexMr_any A n c g zs lb p w eg hz hn hp
  have h2 := Um.idx_any p zs
  have H2 := Lib.hid h2
  clear h2 hz hp eg
  generalize zs.any p = r at *
  generalize Um.idx p zs = ix at *
  go_enter Tryz.func60, Tryz.ntmps60
  go_wp2_with (go_at_call 129; refine h1.mono ?_; rintro e w' ⟨rfl, hb'⟩)
  go_ret
  exact ⟨ret_bool H2.out, hb'⟩


set_option maxHeartbeats 400000 in
theorem mwithinC_any (lo hi n : Int) (b1 b2 : Nat) (w : World) (h1 : w.cell? ⟨b1, 0, none⟩ = some (.int .i64 lo)) (h2 : w.cell? ⟨b2, 0, none⟩ = some (.int .i64 hi)) :
    Calls Tryz.prog 229 #[.int .i64 n, .pointer (some ⟨b1, 0, none⟩), .pointer (some ⟨b2, 0, none⟩)] w fun e w' => e = .returned (.bool (out lo hi n)) ∧ Below w.heap.size w w' := by
  unfold out
  by_cases hn : n < lo
  · go_enter Tryz.func229, Tryz.ntmps229
    go_wp2
    go_ret
    exact ⟨ret_bool (by simp [hn]), Below.refl _ _⟩
  · have hn' : decide (n < lo) = false := by simp; omega
    have Hn := Lib.hid hn'
    clear hn'
    go_enter Tryz.func229, Tryz.ntmps229
    go_wp2
    go_ret
    exact ⟨ret_bool (by rw [Hn.out]; simp), Below.refl _ _⟩

set_option maxHeartbeats 400000 in
theorem mwithin_any (lo hi : Int) (A : Option Addr) (n c : Nat) (zs : List Int) (w : World) (hz : Ints w A n zs) (hn : n ≤ 9223372036854775807) :
    Calls Tryz.prog 128 #[.int .i64 lo, .int .i64 hi, .slice A n c] w fun e w' => e = .returned (.bool (zs.all fun x => !out lo hi x)) ∧ Below w.heap.size w w' := by
  have hw2 : Below w.heap.size w ((w.alloc (.cells #[.int .i64 lo] 2)).alloc (.cells #[.int .i64 hi] 2)) := ((Below.refl _ _).alloc (Nat.le_refl _) _).alloc (by simp) _
  have hsz : ((w.alloc (.cells #[.int .i64 lo] 2)).alloc (.cells #[.int .i64 hi] 2)).heap.size = w.heap.size + 2 := by simp
  have h1 := containsInts_any A n c 229 zs #[.pointer (some ⟨w.heap.size, 0, none⟩), .pointer (some ⟨w.heap.size + 1, 0, none⟩)] (out lo hi) _
    (enters_of Tryz.func229 (by kernel_rfl) rfl) (hz.below hw2) hn (fun x _ W hW => (mwithinC_any lo hi x w.heap.size (w.heap.size + 1) W
      ((hW.cell (p := ⟨w.heap.size, 0, none⟩) (by rw [hsz]; simp)).trans (by simp)) ((hW.cell (p := ⟨w.heap.size + 1, 0, none⟩) (by rw [hsz]; simp)).trans (by simp))).mono fun e W' ⟨he, hb⟩ => ⟨he, hW.trans (hb.mono hW.size)⟩)
  have hany : Hid ((!zs.any (out lo hi)) = zs.all fun x => !out lo hi x) := by show _ = _; rw [List.not_any_eq_all_not]
  clear hz hsz
  generalize (zs.all fun x => !out lo hi x) = r at *
  generalize zs.any (out lo hi) = r' at *
  go_enter Tryz.func128, Tryz.ntmps128
  go_wp2_with (go_at_call 142; refine h1.mono ?_; rintro e w' ⟨rfl, hb'⟩)
  go_ret
  exact ⟨ret_bool (by first | rfl | exact hany.out), hw2.trans (hb'.mono (by simp; omega))⟩
end Go.Proofs.YtlbjnkopbabcnaaGreatDoor
end
