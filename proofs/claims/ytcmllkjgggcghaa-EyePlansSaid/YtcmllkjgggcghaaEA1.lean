/- Walks of the small functions of package eye: divisor, within. -/
import Derived.Test.YtcmllkjgggcghaaUMath
import Derived.Test.YtcmllkjgggcghaaUBase
import Derived.Test.YtcmllkjgggcghaaEMath
namespace Go.Proofs.Ytcmllkjgggcghaa
open Go.RowKit Go.Shelf
set_option linter.unusedSimpArgs false
set_option linter.unusedVariables false

set_option maxHeartbeats 400000 in
theorem divisor_any (a b : Int) (w : World) (ha : 0 ≤ a) (hb : 0 ≤ b) (hA : a ≤ 9223372036854775807) (hB : b ≤ 9223372036854775807) :
    Calls Try.prog 73 #[.int .i64 a, .int .i64 b] w fun e w' => e = .returned (.int .i64 (Int.gcd a b)) ∧ Below w.heap.size w w' := by
  go_enter Try.func73, Try.ntmps73
  go_wp2
  go_loopw [0, 1] (fun x y wr => ∃ p q : Int, 0 ≤ p ∧ 0 ≤ q ∧ p ≤ 9223372036854775807 ∧ q ≤ 9223372036854775807 ∧ x = .int .i64 p ∧ y = .int .i64 q ∧ Hid (Int.gcd p q = Int.gcd a b) ∧ Below w.heap.size w wr) (fun _ y _ => (intOf y).toNat)
  case atStart => exact ⟨a, b, ha, hb, hA, hB, rfl, rfl, rfl, Below.refl _ _⟩
  case round =>
    obtain ⟨p, q, hp, hq, hP, hQ, rfl, rfl, hg, hbl⟩ := hrel
    by_cases h0 : q = 0
    · subst h0
      go_wp2
      go_ret
      refine ⟨?_, hbl⟩
      have := hg.out
      rw [← this]
      simp
      omega
    · have hm0 := Int.emod_nonneg p (b := q) h0
      have hm1 := Int.emod_lt_of_pos p (b := q) (by omega)
      have h1 : 1 ≤ q := by omega
      have hgc : Hid (Int.gcd q (p % q) = Int.gcd a b) := by
        rw [← hg.out]; show Int.gcd q (p % q) = Int.gcd p q
        exact Um.gcd_step p q hp (by omega)
      clear h0
      go_wp2
      go_quiet (fail)
      go_wp2
      go_roundw
      case rel => exact ⟨q, p % q, by omega, by omega, by omega, by omega, rfl, rfl, hgc, by first | exact hbl.drew | exact bdrewN hbl _⟩
      case measure => simp [intOf]; omega

/-- what a predicate on numbers that is handed on gives, whatever has been made since -/
def PredInts (P : Program) (g : Nat) (lb : Array Value) (p : Int → Bool) (zs : List Int) (w : World) : Prop :=
  ∀ x, x ∈ zs → ∀ W, Below w.heap.size w W → Calls P g (#[.int .i64 x] ++ lb) W fun e W' => e = .returned (.bool (p x)) ∧ Below w.heap.size w W'

set_option maxHeartbeats 400000 in
theorem indexInts_any (A : Option Addr) (n c g : Nat) (zs : List Int) (lb : Array Value) (p : Int → Bool) (w : World) (eg : ∀ args w, (callFunc g args).run Try.prog w = .ok (.enter g args) w)
    (hz : Ints w A n zs) (hn : n ≤ 9223372036854775807) (hp : PredInts Try.prog g lb p zs w) :
    Calls Try.prog 85 #[.slice A n c, .func (.func g) #[] lb] w fun e w' => e = .returned (.int .i64 (Um.idx p zs)) ∧ Below w.heap.size w w' := by
  obtain ⟨hl, hcell⟩ := hz
  have Hcell := Lib.hid hcell
  have Hp := Lib.hid hp
  have Hl := Lib.hid hl
  clear hcell hp hl
  go_enter Try.func85, Try.ntmps85
  go_wp2
  go_loopw [5, 8] (fun _ i wr => ∃ k : Nat, k ≤ n ∧ i = .int .i64 k ∧ Hid (∀ i y, i < k → zs[i]? = some y → p y = false) ∧ Below w.heap.size w wr) (fun _ i _ => n - (intOf i).toNat)
  case atStart => exact ⟨0, Nat.zero_le _, rfl, fun i y hi => by omega, Below.refl _ _⟩
  case round =>
    obtain ⟨k, hk, rfl, hpre, hbl⟩ := hrel
    by_cases hlt : k < n
    · obtain ⟨b, off, rfl, hb, hc⟩ := Hcell.out (by omega)
      have hx : wr.cell? ⟨b, off + k, none⟩ = some (.int .i64 (zs.getD k 0)) := (hbl.cell (p := ⟨b, off + k, none⟩) hb).trans (hc k hlt)
      have hget : zs[k]? = some (zs.getD k 0) := by
        rw [List.getD_eq_getElem?_getD, List.getElem?_eq_getElem (by have := Hl.out; omega)]; rfl
      have Hget := Lib.hid hget
      have hcall := Hp.out (zs.getD k 0) (List.mem_of_getElem? hget) wr hbl
      clear hc hget
      generalize zs.getD k 0 = x at *
      cases hq : p x with
      | true =>
        rw [hq] at hcall
        have Hq := Lib.hid hq
        clear hq
        go_wp2_with (go_at_fn g; refine hcall.mono ?_; rintro e w' ⟨rfl, hb'⟩)
        go_ret
        exact ⟨ret_int (Um.idx_at p k zs x hpre.out Hget.out Hq.out).symm, hb'⟩
      | false =>
        rw [hq] at hcall
        have Hq := Lib.hid hq
        clear hq
        go_wp2_with (go_at_fn g; refine hcall.mono ?_; rintro e w' ⟨rfl, hb'⟩)
        go_roundw
        case rel =>
          refine ⟨k + 1, by omega, by go_num, fun i y hi hy => ?_, hb'⟩
          by_cases hik : i < k
          · exact hpre.out i y hik hy
          · have : i = k := by omega
            subst this
            have := Hget.out
            rw [hy] at this
            injection this with this
            rw [this]; exact Hq.out
        case measure => simp [intOf]; omega
    · go_wp2
      go_ret
      refine ⟨ret_int (Um.idx_none p zs (fun y hy => ?_)).symm, hbl⟩
      obtain ⟨i, hi, hiy⟩ := List.mem_iff_getElem.1 hy
      exact hpre.out i y (by have := Hl.out; omega) (by rw [List.getElem?_eq_getElem hi, hiy])

set_option maxHeartbeats 400000 in
theorem containsInts_any (A : Option Addr) (n c g : Nat) (zs : List Int) (lb : Array Value) (p : Int → Bool) (w : World) (eg : ∀ args w, (callFunc g args).run Try.prog w = .ok (.enter g args) w)
    (hz : Ints w A n zs) (hn : n ≤ 9223372036854775807) (hp : PredInts Try.prog g lb p zs w) :
    Calls Try.prog 81 #[.slice A n c, .func (.func g) #[] lb] w fun e w' => e = .returned (.bool (zs.any p)) ∧ Below w.heap.size w w' := by
  have h1 := indexInts_any A n c g zs lb p w eg hz hn hp
  have h2 := Um.idx_any p zs
  have H2 := Lib.hid h2
  clear h2 hz hp eg
  generalize zs.any p = r at *
  generalize Um.idx p zs = ix at *
  go_enter Try.func81, Try.ntmps81
  go_wp2_with (go_at_call 85; refine h1.mono ?_; rintro e w' ⟨rfl, hb'⟩)
  go_ret
  exact ⟨ret_bool H2.out, hb'⟩

/-- a number is not from lo to hi -/
def out (lo hi n : Int) : Bool := decide (n < lo) || decide (hi < n)

set_option maxHeartbeats 400000 in
theorem withinC_any (lo hi n : Int) (b1 b2 : Nat) (w : World) (h1 : w.cell? ⟨b1, 0, none⟩ = some (.int .i64 lo)) (h2 : w.cell? ⟨b2, 0, none⟩ = some (.int .i64 hi)) :
    Calls Try.prog 82 #[.int .i64 n, .pointer (some ⟨b1, 0, none⟩), .pointer (some ⟨b2, 0, none⟩)] w fun e w' => e = .returned (.bool (out lo hi n)) ∧ Below w.heap.size w w' := by
  unfold out
  by_cases hn : n < lo
  · go_enter Try.func82, Try.ntmps82
    go_wp2
    go_ret
    exact ⟨ret_bool (by simp [hn]), Below.refl _ _⟩
  · have hn' : decide (n < lo) = false := by simp; omega
    have Hn := Lib.hid hn'
    clear hn'
    go_enter Try.func82, Try.ntmps82
    go_wp2
    go_ret
    exact ⟨ret_bool (by rw [Hn.out]; simp), Below.refl _ _⟩

set_option maxHeartbeats 400000 in
theorem within_any (lo hi : Int) (A : Option Addr) (n c : Nat) (zs : List Int) (w : World) (hz : Ints w A n zs) (hn : n ≤ 9223372036854775807) :
    Calls Try.prog 68 #[.int .i64 lo, .int .i64 hi, .slice A n c] w fun e w' => e = .returned (.bool (zs.all fun x => !out lo hi x)) ∧ Below w.heap.size w w' := by
  have hw2 : Below w.heap.size w ((w.alloc (.cells #[.int .i64 lo] 2)).alloc (.cells #[.int .i64 hi] 2)) := ((Below.refl _ _).alloc (Nat.le_refl _) _).alloc (by simp) _
  have hsz : ((w.alloc (.cells #[.int .i64 lo] 2)).alloc (.cells #[.int .i64 hi] 2)).heap.size = w.heap.size + 2 := by simp
  have h1 := containsInts_any A n c 82 zs #[.pointer (some ⟨w.heap.size, 0, none⟩), .pointer (some ⟨w.heap.size + 1, 0, none⟩)] (out lo hi) _
    (enters_of Try.func82 (by kernel_rfl) rfl) (hz.below hw2) hn (fun x _ W hW => (withinC_any lo hi x w.heap.size (w.heap.size + 1) W
      ((hW.cell (p := ⟨w.heap.size, 0, none⟩) (by rw [hsz]; simp)).trans (by simp)) ((hW.cell (p := ⟨w.heap.size + 1, 0, none⟩) (by rw [hsz]; simp)).trans (by simp))).mono fun e W' ⟨he, hb⟩ => ⟨he, hW.trans (hb.mono hW.size)⟩)
  have hany : Hid ((!zs.any (out lo hi)) = zs.all fun x => !out lo hi x) := by show _ = _; rw [List.not_any_eq_all_not]
  clear hz hsz
  generalize (zs.all fun x => !out lo hi x) = r at *
  generalize zs.any (out lo hi) = r' at *
  go_enter Try.func68, Try.ntmps68
  go_wp2_with (go_at_call 81; refine h1.mono ?_; rintro e w' ⟨rfl, hb'⟩)
  go_ret
  exact ⟨ret_bool (by first | rfl | exact hany.out), hw2.trans (hb'.mono (by simp; omega))⟩

end Go.Proofs.Ytcmllkjgggcghaa
