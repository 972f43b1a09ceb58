/- Walks of package eye: the errors of a set; sums of odds. -/
import Derived.Test.YtcmllkjgggcghaaED2
namespace Go.Proofs.Ytcmllkjgggcghaa
open Go.RowKit Go.Shelf
set_option linter.unusedSimpArgs false
set_option linter.unusedVariables false

set_option maxHeartbeats 400000 in
theorem indexI_any (A : Option Addr) (n c g : Nat) (zs : List Int) (lb : Array Value) (p : Int → Bool) (w : World) (eg : ∀ args w, (callFunc g args).run Try.prog w = .ok (.enter g args) w)
    (hz : Ints w A n zs) (hn : n ≤ 9223372036854775807) (hp : PredInts Try.prog g lb p zs w) :
    Calls Try.prog 84 #[.slice A n c, .func (.func g) #[] lb] w fun e w' => e = .returned (.int .i64 (Um.idx p zs)) ∧ Below w.heap.size w w' := by
  obtain ⟨hl, hcell⟩ := hz
  have Hcell := Lib.hid hcell
  have Hp := Lib.hid hp
  have Hl := Lib.hid hl
  clear hcell hp hl
  go_enter Try.func84, Try.ntmps84
  go_wp2
  go_loopw [5, 8] (fun _ i wr => ∃ k : Nat, k ≤ n ∧ i = .int .i64 k ∧ Hid (∀ i y, i < k → zs[i]? = some y → p y = false) ∧ Below w.heap.size w wr) (fun _ i _ => n - (intOf i).toNat)
  case atStart => exact ⟨0, Nat.zero_le _, rfl, fun i y hi => by omega, Below.refl _ _⟩
  case round =>
    obtain ⟨k, hk, rfl, hpre, hbl⟩ := hrel
    by_cases hlt : k < n
    · obtain ⟨b, off, rfl, hb, hc⟩ := Hcell.out (by omega)
      have hx : wr.cell? ⟨b, off + k, none⟩ = some (.int .i64 (zs.getD k 0)) := (hbl.cell (p := ⟨b, off + k, none⟩) hb).trans (hc k hlt)
      have hget : zs[k]? = some (zs.getD k 0) := by
        rw [List.getD_eq_getElem?_getD, List.getElem?_eq_getElem (by have := Hl.out; omega)]; rfl
      have Hget := Lib.hid hget
      have hcall := Hp.out (zs.getD k 0) (List.mem_of_getElem? hget) wr hbl
      clear hc hget
      generalize zs.getD k 0 = x at *
      cases hq : p x with
      | true =>
        rw [hq] at hcall
        have Hq := Lib.hid hq
        clear hq
        go_wp2_with (go_at_fn g; refine hcall.mono ?_; rintro e w' ⟨rfl, hb'⟩)
        go_ret
        exact ⟨ret_int (Um.idx_at p k zs x hpre.out Hget.out Hq.out).symm, hb'⟩
      | false =>
        rw [hq] at hcall
        have Hq := Lib.hid hq
        clear hq
        go_wp2_with (go_at_fn g; refine hcall.mono ?_; rintro e w' ⟨rfl, hb'⟩)
        go_roundw
        case rel =>
          refine ⟨k + 1, by omega, by go_num, fun i y hi hy => ?_, hb'⟩
          by_cases hik : i < k
          · exact hpre.out i y hik hy
          · have : i = k := by omega
            subst this
            have := Hget.out
            rw [hy] at this
            injection this with this
            rw [this]; exact Hq.out
        case measure => simp [intOf]; omega
    · go_wp2
      go_ret
      refine ⟨ret_int (Um.idx_none p zs (fun y hy => ?_)).symm, hbl⟩
      obtain ⟨i, hi, hiy⟩ := List.mem_iff_getElem.1 hy
      exact hpre.out i y (by have := Hl.out; omega) (by rw [List.getElem?_eq_getElem hi, hiy])

set_option maxHeartbeats 400000 in
theorem containsI_any (A : Option Addr) (n c g : Nat) (zs : List Int) (lb : Array Value) (p : Int → Bool) (w : World) (eg : ∀ args w, (callFunc g args).run Try.prog w = .ok (.enter g args) w)
    (hz : Ints w A n zs) (hn : n ≤ 9223372036854775807) (hp : PredInts Try.prog g lb p zs w) :
    Calls Try.prog 74 #[.slice A n c, .func (.func g) #[] lb] w fun e w' => e = .returned (.bool (zs.any p)) ∧ Below w.heap.size w w' := by
  have h1 := indexI_any A n c g zs lb p w eg hz hn hp
  have h2 := Um.idx_any p zs
  have H2 := Lib.hid h2
  clear h2 hz hp eg
  generalize zs.any p = r at *
  generalize Um.idx p zs = ix at *
  go_enter Try.func74, Try.ntmps74
  go_wp2_with (go_at_call 84; refine h1.mono ?_; rintro e w' ⟨rfl, hb'⟩)
  go_ret
  exact ⟨ret_bool H2.out, hb'⟩

/-- a number is none of an outcome -/
def outK (m : Nat) (k : Int) : Bool := decide (k < 0) || decide ((m : Int) ≤ k)

set_option maxHeartbeats 400000 in
theorem checkC_any (k : Int) (m Bs g n c : Nat) (A : Option Addr) (w : World) (hBs : w.cell? ⟨Bs, 0, none⟩ = some (.pointer (some ⟨g, 0, none⟩))) (hB : Cs w g #[.slice A n c, .int .i64 (m : Nat)]) :
    Calls Try.prog 75 #[.int .i64 k, .pointer (some ⟨Bs, 0, none⟩)] w fun e w' => e = .returned (.bool (outK m k)) ∧ Below w.heap.size w w' := by
  unfold outK
  have chB := hB.c
  have fhB := hB.f
  have lhB := hB.lt
  by_cases hn : k < 0
  · go_enter Try.func75, Try.ntmps75
    go_wp2
    go_ret
    exact ⟨ret_bool (by simp [hn]), Below.refl _ _⟩
  · have hn' : decide (k < 0) = false := by simp; omega
    have Hn := Lib.hid hn'
    clear hn'
    go_enter Try.func75, Try.ntmps75
    go_wp2
    go_ret
    exact ⟨ret_bool (by rw [Hn.out]; simp), Below.refl _ _⟩

/-- numbers that do not rise -/
def riseB : Int → List Int → Bool
  | _, [] => true
  | l, x :: xs => decide (l < x) && riseB x xs
/-- the errors of a set -/
def setE (m : Nat) (ks : List Int) : Int := if m < ks.length then 6 else if ks.any (outK m) then 3 else if riseB (-1) ks then 0 else 16

theorem riseB_drop {ks : List Int} {j : Nat} (l : Int) (hj : j < ks.length) : riseB l (ks.drop j) = (decide (l < ks.getD j 0) && riseB (ks.getD j 0) (ks.drop (j + 1))) := by
  rw [List.drop_eq_getElem_cons hj, riseB, List.getD_eq_getElem?_getD, List.getElem?_eq_getElem hj]
  rfl

set_option maxHeartbeats 1000000 in
theorem check_any (A B : Option Addr) (n c m g N C : Nat) (ks : List Int) (w : World) (hk : Ints w B N ks) (hN : N ≤ 9223372036854775807) (hB : Cs w g #[.slice A n c, .int .i64 (m : Nat)]) (r : Int) (hr : r = setE m ks) :
    Calls Try.prog 53 #[.pointer (some ⟨g, 0, none⟩), .slice B N C] w fun e w' => e = .returned (.int .i64 r) ∧ Below w.heap.size w w' := by
  have hl := hk.1
  have hglt := hB.lt
  have hw1 : Below w.heap.size w (w.alloc (.cells #[.pointer (some ⟨g, 0, none⟩)] 76)) := balloc (Below.refl _ _) _
  have kc := containsI_any B N C 75 ks #[.pointer (some ⟨w.heap.size, 0, none⟩)] (outK m) (w.alloc (.cells #[.pointer (some ⟨g, 0, none⟩)] 76))
    (enters_of Try.func75 (by kernel_rfl) rfl) (hk.below hw1) hN (fun x _ W hW => (checkC_any x m w.heap.size g n c A W
      ((hW.cell (p := ⟨w.heap.size, 0, none⟩) (by simp)).trans (by simp)) ((hB.alloc _).keep hW)).mono fun e W' ⟨he, hb⟩ => ⟨he, hW.trans (hb.mono hW.size)⟩)
  have Hk := Lib.hid hk
  unfold setE at hr
  rw [hl] at hr
  have h0 : (w.alloc (.cells #[.pointer (some ⟨g, 0, none⟩)] 76)).cell? ⟨g, 1, none⟩ = some (.int .i64 (m : Nat)) := (hB.alloc _).c 1
  have dg : ¬ g = w.heap.size := by omega
  clear hk
  by_cases h1 : m < N
  · rw [if_pos h1] at hr
    subst hr
    have h1I : (m : Int) < (N : Int) := by omega
    clear kc
    go_enter Try.func53, Try.ntmps53
    go_wp2_with fail
    go_ret
    exact ⟨rfl, hw1⟩
  · rw [if_neg h1] at hr
    have h1I : ¬ (m : Int) < (N : Int) := by omega
    cases hq : ks.any (outK m) with
    | true =>
      rw [hq] at kc
      rw [hq, if_pos rfl] at hr
      subst hr
      clear hq
      go_enter Try.func53, Try.ntmps53
      go_wp2_with fail
      refine kc.mono ?_
      rintro _ w1 ⟨rfl, hb1⟩
      go_wp2_with fail
      go_ret
      exact ⟨rfl, hw1.trans (hb1.mono (by simp))⟩
    | false =>
      rw [hq] at kc
      rw [hq, if_neg (by decide)] at hr
      have Hr := Lib.hid hr
      clear hq hr
      go_enter Try.func53, Try.ntmps53
      go_wp2_with fail
      refine kc.mono ?_
      rintro _ w1 ⟨rfl, hb1⟩
      have hbw : Below w.heap.size w w1 := hw1.trans (hb1.mono (by simp))
      clear kc hb1 hw1 h0
      go_wp2_with fail
      go_loopw [5, 20] (fun s5 s20 wr => ∃ (k : Nat) (l : Int), k ≤ N ∧ s20 = .int .i64 (k : Nat) ∧ s5 = .int .i64 l ∧ Hid (r = if riseB l (ks.drop k) then 0 else 16) ∧ wr = w1) (fun _ s20 _ => N - (intOf s20).toNat)
      case atStart => exact ⟨0, -1, Nat.zero_le _, rfl, rfl, Lib.hid Hr.out, rfl⟩
      case round =>
        obtain ⟨k, l, hkN, rfl, rfl, Hl, rfl⟩ := hrel
        by_cases hlt : k < N
        · obtain ⟨b, off, rfl, hb, hc⟩ := Hk.out.2 (by omega)
          have hx : wr.cell? ⟨b, off + k, none⟩ = some (.int .i64 (ks.getD k 0)) := (hbw.cell (p := ⟨b, off + k, none⟩) hb).trans (hc k hlt)
          have Hl2 : Hid (r = if (decide (l < ks.getD k 0) && riseB (ks.getD k 0) (ks.drop (k + 1))) then 0 else 16) := Lib.hid (by rw [← riseB_drop l (by omega)]; exact Hl.out)
          clear hc Hl
          generalize ks.getD k 0 = x at *
          by_cases hxl : l < x
          · have Hl3 : Hid (r = if riseB x (ks.drop (k + 1)) then 0 else 16) := Lib.hid (by rw [Hl2.out]; simp [hxl])
            clear Hl2
            go_wp2_with fail
            go_roundw
            case rel => exact ⟨k + 1, x, by omega, by go_num, rfl, Hl3, by trivial⟩
            case measure => simp [intOf]; omega
          · have Hl3 : Hid (r = 16) := Lib.hid (by rw [Hl2.out]; simp [hxl])
            clear Hl2
            go_wp2_with fail
            go_ret
            exact ⟨ret_int Hl3.out.symm, hbw⟩
        · obtain rfl : k = N := by omega
          have Hl3 : Hid (r = 0) := Lib.hid (by rw [Hl.out, List.drop_of_length_le (by omega)]; simp [riseB])
          clear Hl
          go_wp2_with fail
          go_ret
          exact ⟨ret_int Hl3.out.symm, hbw⟩

end Go.Proofs.Ytcmllkjgggcghaa
