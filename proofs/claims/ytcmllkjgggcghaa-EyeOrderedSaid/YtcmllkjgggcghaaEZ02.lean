/- EA1 EA2 EA3 -/
import Derived.Test.YtcmllkjgggcghaaEZ01
import Derived.Deep.RegionHeld3
/- Walks of the small functions of package eye: divisor, within. -/
section
namespace Go.Proofs.Ytcmllkjgggcghaa
open Go.RowKit Go.Shelf
set_option linter.unusedSimpArgs false
set_option linter.unusedVariables false

set_option maxHeartbeats 400000 in
theorem divisor_any (a b : Int) (w : World) (ha : 0 ≤ a) (hb : 0 ≤ b) (hA : a ≤ 9223372036854775807) (hB : b ≤ 9223372036854775807) :
    Calls Try.prog 73 #[.int .i64 a, .int .i64 b] w fun e w' => e = .returned (.int .i64 (Int.gcd a b)) ∧ Below w.heap.size w w' := by
  go_enter Try.func73, Try.ntmps73
  go_wp2
  go_loopw [0, 1] (fun x y wr => ∃ p q : Int, 0 ≤ p ∧ 0 ≤ q ∧ p ≤ 9223372036854775807 ∧ q ≤ 9223372036854775807 ∧ x = .int .i64 p ∧ y = .int .i64 q ∧ Hid (Int.gcd p q = Int.gcd a b) ∧ Below w.heap.size w wr) (fun _ y _ => (intOf y).toNat)
  case atStart => exact ⟨a, b, ha, hb, hA, hB, rfl, rfl, rfl, Below.refl _ _⟩
  case round =>
    obtain ⟨p, q, hp, hq, hP, hQ, rfl, rfl, hg, hbl⟩ := hrel
    by_cases h0 : q = 0
    · subst h0
      go_wp2
      go_ret
      refine ⟨?_, hbl⟩
      have := hg.out
      rw [← this]
      simp
      omega
    · have hm0 := Int.emod_nonneg p (b := q) h0
      have hm1 := Int.emod_lt_of_pos p (b := q) (by omega)
      have h1 : 1 ≤ q := by omega
      have hgc : Hid (Int.gcd q (p % q) = Int.gcd a b) := by
        rw [← hg.out]; show Int.gcd q (p % q) = Int.gcd p q
        exact Um.gcd_step p q hp (by omega)
      clear h0
      go_wp2
      go_quiet (fail)
      go_wp2
      go_roundw
      case rel => exact ⟨q, p % q, by omega, by omega, by omega, by omega, rfl, rfl, hgc, by first | exact hbl.drew | exact bdrewN hbl _⟩
      case measure => simp [intOf]; omega

/-- what a predicate on numbers that is handed on gives, whatever has been made since -/
def PredInts (P : Program) (g : Nat) (lb : Array Value) (p : Int → Bool) (zs : List Int) (w : World) : Prop :=
  ∀ x, x ∈ zs → ∀ W, Below w.heap.size w W → Calls P g (#[.int .i64 x] ++ lb) W fun e W' => e = .returned (.bool (p x)) ∧ Below w.heap.size w W'

set_option maxHeartbeats 400000 in
theorem indexInts_any (A : Option Addr) (n c g : Nat) (zs : List Int) (lb : Array Value) (p : Int → Bool) (w : World) (eg : ∀ args w, (callFunc g args).run Try.prog w = .ok (.enter g args) w)
    (hz : Ints w A n zs) (hn : n ≤ 9223372036854775807) (hp : PredInts Try.prog g lb p zs w) :
    Calls Try.prog 85 #[.slice A n c, .func (.func g) #[] lb] w fun e w' => e = .returned (.int .i64 (Um.idx p zs)) ∧ Below w.heap.size w w' := by
  obtain ⟨hl, hcell⟩ := hz
  have Hcell := Lib.hid hcell
  have Hp := Lib.hid hp
  have Hl := Lib.hid hl
  clear hcell hp hl
  go_enter Try.func85, Try.ntmps85
  go_wp2
  go_loopw [5, 8] (fun _ i wr => ∃ k : Nat, k ≤ n ∧ i = .int .i64 k ∧ Hid (∀ i y, i < k → zs[i]? = some y → p y = false) ∧ Below w.heap.size w wr) (fun _ i _ => n - (intOf i).toNat)
  case atStart => exact ⟨0, Nat.zero_le _, rfl, fun i y hi => by omega, Below.refl _ _⟩
  case round =>
    obtain ⟨k, hk, rfl, hpre, hbl⟩ := hrel
    by_cases hlt : k < n
    · obtain ⟨b, off, rfl, hb, hc⟩ := Hcell.out (by omega)
      have hx : wr.cell? ⟨b, off + k, none⟩ = some (.int .i64 (zs.getD k 0)) := (hbl.cell (p := ⟨b, off + k, none⟩) hb).trans (hc k hlt)
      have hget : zs[k]? = some (zs.getD k 0) := by
        rw [List.getD_eq_getElem?_getD, List.getElem?_eq_getElem (by have := Hl.out; omega)]; rfl
      have Hget := Lib.hid hget
      have hcall := Hp.out (zs.getD k 0) (List.mem_of_getElem? hget) wr hbl
      clear hc hget
      generalize zs.getD k 0 = x at *
      cases hq : p x with
      | true =>
        rw [hq] at hcall
        have Hq := Lib.hid hq
        clear hq
        go_wp2_with (go_at_fn g; refine hcall.mono ?_; rintro e w' ⟨rfl, hb'⟩)
        go_ret
        exact ⟨ret_int (Um.idx_at p k zs x hpre.out Hget.out Hq.out).symm, hb'⟩
      | false =>
        rw [hq] at hcall
        have Hq := Lib.hid hq
        clear hq
        go_wp2_with (go_at_fn g; refine hcall.mono ?_; rintro e w' ⟨rfl, hb'⟩)
        go_roundw
        case rel =>
          refine ⟨k + 1, by omega, by go_num, fun i y hi hy => ?_, hb'⟩
          by_cases hik : i < k
          · exact hpre.out i y hik hy
          · have : i = k := by omega
            subst this
            have := Hget.out
            rw [hy] at this
            injection this with this
            rw [this]; exact Hq.out
        case measure => simp [intOf]; omega
    · go_wp2
      go_ret
      refine ⟨ret_int (Um.idx_none p zs (fun y hy => ?_)).symm, hbl⟩
      obtain ⟨i, hi, hiy⟩ := List.mem_iff_getElem.1 hy
      exact hpre.out i y (by have := Hl.out; omega) (by rw [List.getElem?_eq_getElem hi, hiy])

set_option maxHeartbeats 400000 in
theorem containsInts_any (A : Option Addr) (n c g : Nat) (zs : List Int) (lb : Array Value) (p : Int → Bool) (w : World) (eg : ∀ args w, (callFunc g args).run Try.prog w = .ok (.enter g args) w)
    (hz : Ints w A n zs) (hn : n ≤ 9223372036854775807) (hp : PredInts Try.prog g lb p zs w) :
    Calls Try.prog 81 #[.slice A n c, .func (.func g) #[] lb] w fun e w' => e = .returned (.bool (zs.any p)) ∧ Below w.heap.size w w' := by
  have h1 := indexInts_any A n c g zs lb p w eg hz hn hp
  have h2 := Um.idx_any p zs
  have H2 := Lib.hid h2
  clear h2 hz hp eg
  generalize zs.any p = r at *
  generalize Um.idx p zs = ix at *
  go_enter Try.func81, Try.ntmps81
  go_wp2_with (go_at_call 85; refine h1.mono ?_; rintro e w' ⟨rfl, hb'⟩)
  go_ret
  exact ⟨ret_bool H2.out, hb'⟩

/-- a number is not from lo to hi -/
def out (lo hi n : Int) : Bool := decide (n < lo) || decide (hi < n)

set_option maxHeartbeats 400000 in
theorem withinC_any (lo hi n : Int) (b1 b2 : Nat) (w : World) (h1 : w.cell? ⟨b1, 0, none⟩ = some (.int .i64 lo)) (h2 : w.cell? ⟨b2, 0, none⟩ = some (.int .i64 hi)) :
    Calls Try.prog 82 #[.int .i64 n, .pointer (some ⟨b1, 0, none⟩), .pointer (some ⟨b2, 0, none⟩)] w fun e w' => e = .returned (.bool (out lo hi n)) ∧ Below w.heap.size w w' := by
  unfold out
  by_cases hn : n < lo
  · go_enter Try.func82, Try.ntmps82
    go_wp2
    go_ret
    exact ⟨ret_bool (by simp [hn]), Below.refl _ _⟩
  · have hn' : decide (n < lo) = false := by simp; omega
    have Hn := Lib.hid hn'
    clear hn'
    go_enter Try.func82, Try.ntmps82
    go_wp2
    go_ret
    exact ⟨ret_bool (by rw [Hn.out]; simp), Below.refl _ _⟩

set_option maxHeartbeats 400000 in
theorem within_any (lo hi : Int) (A : Option Addr) (n c : Nat) (zs : List Int) (w : World) (hz : Ints w A n zs) (hn : n ≤ 9223372036854775807) :
    Calls Try.prog 68 #[.int .i64 lo, .int .i64 hi, .slice A n c] w fun e w' => e = .returned (.bool (zs.all fun x => !out lo hi x)) ∧ Below w.heap.size w w' := by
  have hw2 : Below w.heap.size w ((w.alloc (.cells #[.int .i64 lo] 2)).alloc (.cells #[.int .i64 hi] 2)) := ((Below.refl _ _).alloc (Nat.le_refl _) _).alloc (by simp) _
  have hsz : ((w.alloc (.cells #[.int .i64 lo] 2)).alloc (.cells #[.int .i64 hi] 2)).heap.size = w.heap.size + 2 := by simp
  have h1 := containsInts_any A n c 82 zs #[.pointer (some ⟨w.heap.size, 0, none⟩), .pointer (some ⟨w.heap.size + 1, 0, none⟩)] (out lo hi) _
    (enters_of Try.func82 (by kernel_rfl) rfl) (hz.below hw2) hn (fun x _ W hW => (withinC_any lo hi x w.heap.size (w.heap.size + 1) W
      ((hW.cell (p := ⟨w.heap.size, 0, none⟩) (by rw [hsz]; simp)).trans (by simp)) ((hW.cell (p := ⟨w.heap.size + 1, 0, none⟩) (by rw [hsz]; simp)).trans (by simp))).mono fun e W' ⟨he, hb⟩ => ⟨he, hW.trans (hb.mono hW.size)⟩)
  have hany : Hid ((!zs.any (out lo hi)) = zs.all fun x => !out lo hi x) := by show _ = _; rw [List.not_any_eq_all_not]
  clear hz hsz
  generalize (zs.all fun x => !out lo hi x) = r at *
  generalize zs.any (out lo hi) = r' at *
  go_enter Try.func68, Try.ntmps68
  go_wp2_with (go_at_call 81; refine h1.mono ?_; rintro e w' ⟨rfl, hb'⟩)
  go_ret
  exact ⟨ret_bool (by first | rfl | exact hany.out), hw2.trans (hb'.mono (by simp; omega))⟩

end Go.Proofs.Ytcmllkjgggcghaa
end

/- Walks of package eye: total, ratio, isChance. -/
section
namespace Go.Proofs.Ytcmllkjgggcghaa
open Go.RowKit Go.Shelf
set_option linter.unusedSimpArgs false
set_option linter.unusedVariables false
open Em (isCh red)

theorem Ints.at0 {w wr : World} {A : Option Addr} {n k : Nat} {zs : List Int} (h : Ints w A n zs) (hb : Below w.heap.size w wr) (hk : k < n) :
    ∃ b off, A = some ⟨b, off, none⟩ ∧ b < w.heap.size ∧ wr.cell? ⟨b, off + k, none⟩ = some (.int .i64 (zs.getD k 0)) := by
  obtain ⟨b, off, rfl, hlt, hc⟩ := h.2 (by omega)
  exact ⟨b, off, rfl, hlt, (hb.cell (p := ⟨b, off + k, none⟩) hlt).trans (hc k hk)⟩

theorem sum_take (zs : List Int) (k : Nat) (hk : k < zs.length) : (zs.take (k + 1)).sum = (zs.take k).sum + zs.getD k 0 := by
  rw [List.take_add_one, List.sum_append, List.getElem?_eq_getElem hk, List.getD_eq_getElem?_getD, List.getElem?_eq_getElem hk]
  simp

theorem sum_nonneg : ∀ zs : List Int, (∀ x ∈ zs, 0 ≤ x) → 0 ≤ zs.sum
  | [], _ => by simp
  | x :: l, h => by
    have h1 := h x (List.mem_cons_self)
    have h2 := sum_nonneg l (fun y hy => h y (List.mem_cons_of_mem _ hy))
    simp only [List.sum_cons]; omega
theorem sum_take_le (zs : List Int) (k : Nat) (h : ∀ x ∈ zs, 0 ≤ x) : 0 ≤ (zs.take k).sum ∧ (zs.take k).sum ≤ zs.sum := by
  have e : zs.sum = (zs.take k).sum + (zs.drop k).sum := by rw [← List.sum_append, List.take_append_drop]
  have h1 := sum_nonneg (zs.take k) (fun x hx => h x (List.mem_of_mem_take hx))
  have h2 := sum_nonneg (zs.drop k) (fun x hx => h x (List.mem_of_mem_drop hx))
  omega

set_option maxHeartbeats 1000000 in
theorem total_exact (A : Option Addr) (n c : Nat) (zs : List Int) (w : World) (hz : Ints w A n zs) (hn : n ≤ 9223372036854775807) (h0 : ∀ x ∈ zs, 0 ≤ x) (hs : zs.sum ≤ 9223372036854775807) (s : Int) (he : s = zs.sum) :
    Calls Try.prog 60 #[.slice A n c] w fun e w' => e = .returned (.int .i64 s) ∧ w = w' := by
  have Hz := Lib.hid hz
  have He := Lib.hid he
  have Hst := Lib.hid (fun k => sum_take_le zs k h0)
  have Hs := Lib.hid hs
  have Hnx := Lib.hid (fun k hk => sum_take zs k hk)
  clear hz h0 hs he
  go_enter Try.func60, Try.ntmps60
  go_wp2_with fail
  go_loopw [3, 8] (fun s3 s8 wr => ∃ (k : Nat) (t : Int), k ≤ n ∧ s8 = .int .i64 k ∧ s3 = .int .i64 t ∧ Hid (t = (zs.take k).sum) ∧ w = wr) (fun _ s8 _ => n - (intOf s8).toNat)
  case atStart => exact ⟨0, 0, Nat.zero_le _, rfl, rfl, Lib.hid (by simp), rfl⟩
  case round =>
    obtain ⟨k, t, hk, rfl, rfl, Ht, rfl⟩ := hrel
    by_cases hkn : k < n
    · obtain ⟨b, off, rfl, _, c0⟩ := Hz.out.at0 (Below.refl _ _) hkn
      have hb1 := Hst.out k
      have hb2 := Hst.out (k + 1)
      have hnx := Hnx.out k (by rw [Hz.out.1]; exact hkn)
      have Ht2 : Hid (t + zs.getD k 0 = (zs.take (k + 1)).sum) := Lib.hid (by rw [hnx, Ht.out])
      have hb3 := Hs.out
      have f1 : IntKind.i64.wrap (t + zs.getD k 0) = t + zs.getD k 0 := IntWalk.i64_in _ (by rw [Ht2.out]; omega)
      clear hb1 hb2 hb3 hnx Ht
      generalize zs.getD k 0 = x at *
      go_wp2_with fail
      go_roundw
      case rel => exact ⟨k + 1, t + x, by omega, by go_num, rfl, Ht2, by trivial⟩
      case measure => simp [intOf]; omega
    · obtain rfl : k = n := by omega
      have Hf : Hid (t = s) := Lib.hid (by rw [Ht.out, He.out, List.take_of_length_le (by rw [Hz.out.1]; exact Nat.le_refl _)])
      clear Ht
      go_wp2_with fail
      go_ret
      exact ⟨ret_int Hf.out, rfl⟩

theorem total_any (A : Option Addr) (n c : Nat) (zs : List Int) (w : World) (hz : Ints w A n zs) (hn : n ≤ 9223372036854775807) (h0 : ∀ x ∈ zs, 0 ≤ x) (hs : zs.sum ≤ 9223372036854775807) (s : Int) (he : s = zs.sum) :
    Calls Try.prog 60 #[.slice A n c] w fun e w' => e = .returned (.int .i64 s) ∧ Below w.heap.size w w' :=
  (total_exact A n c zs w hz hn h0 hs s he).mono fun _ _ ⟨h1, h2⟩ => ⟨h1, h2 ▸ Below.refl _ _⟩

set_option maxHeartbeats 1000000 in
theorem ratio_any (n d : Int) (w : World) (hn : 0 ≤ n) (hd : 1 ≤ d) (hN : n ≤ 9223372036854775807) (hD : d ≤ 9223372036854775807) :
    Calls Try.prog 57 #[.int .i64 n, .int .i64 d] w fun e w' => e = .returned (.agg #[.int .i64 (red n d).1, .int .i64 (red n d).2]) ∧ Below w.heap.size w w' := by
  have hg : 1 ≤ (Int.gcd n d : Int) := by
    have : 0 < Int.gcd n d := Int.gcd_pos_of_ne_zero_right _ (by omega)
    omega
  have k1 := fun W => divisor_any n d W (by omega) (by omega) hN hD
  unfold red
  dsimp only
  generalize (Int.gcd n d : Int) = g at *
  have l1 : 0 ≤ n / g := Int.ediv_nonneg (by omega) (by omega)
  have l2 : 0 ≤ d / g := Int.ediv_nonneg (by omega) (by omega)
  have l3 : n / g ≤ n := Int.ediv_le_self _ (by omega)
  have l4 : d / g ≤ d := Int.ediv_le_self _ (by omega)
  have f1 : n.tdiv g = n / g := Int.tdiv_eq_ediv_of_nonneg (by omega)
  have f2 : d.tdiv g = d / g := Int.tdiv_eq_ediv_of_nonneg (by omega)
  have e1 : IntKind.i64.wrap (n / g) = n / g := IntWalk.i64_in _ (by omega)
  have e2 : IntKind.i64.wrap (d / g) = d / g := IntWalk.i64_in _ (by omega)
  have g0 : (g == 0) = false := by simp; omega
  go_enter Try.func57, Try.ntmps57
  go_wp2_with fail
  refine (k1 _).mono ?_
  rintro e w1 ⟨rfl, hb1⟩
  replace B1 : Cs w1 (w.heap.size) #[.int .i64 0, .int .i64 0] := Cs.keep csA hb1
  replace hbw : Below w.heap.size w w1 := blA
  replace cB1 := B1.c
  replace fB1 := B1.f
  replace lB1 := B1.lt
  clear hb1
  go_wp2_with fail
  go_region
  go_wp2_with fail
  exact bodyPost_ret (v := .agg #[.int .i64 (n / g), .int .i64 (d / g)]) (by simp [results, Try.results57, go_sem, cB1, fB1, lB1]) rfl ⟨rfl, blA⟩

set_option maxHeartbeats 1000000 in
theorem isChance_any (n d m : Int) (w : World) (hm : m ≤ 1000000000) :
    Calls Try.prog 58 #[.agg #[.int .i64 n, .int .i64 d], .int .i64 m] w fun e w' => e = .returned (.bool (isCh n d m)) ∧ Below w.heap.size w w' := by
  have k1 := fun A c W hz => within_any 1 m A 1 c [d] W hz (by omega)
  have k2 := fun A c W hz => within_any 0 d A 1 c [n] W hz (by omega)
  have e1 : ([d].all fun x => !out 1 m x) = decide (1 ≤ d ∧ d ≤ m) := by simp [out]; rw [Bool.eq_iff_iff]; simp
  have e2 : ([n].all fun x => !out 0 d x) = decide (0 ≤ n ∧ n ≤ d) := by simp [out]; rw [Bool.eq_iff_iff]; simp
  rw [e1] at k1
  rw [e2] at k2
  clear e1 e2
  by_cases h1 : 1 ≤ d ∧ d ≤ m
  · rw [decide_eq_true h1] at k1
    by_cases h2 : 0 ≤ n ∧ n ≤ d
    · rw [decide_eq_true h2] at k2
      have k3 := fun W => divisor_any n d W (by omega) (by omega) (by omega) (by omega)
      have hfin : Hid (((Int.gcd n d : Int) == 1) = isCh n d m) := Lib.hid (by rw [Bool.eq_iff_iff]; simp [isCh, h1, h2]; omega)
      clear h1 h2
      generalize (Int.gcd n d : Int) = g at *
      go_enter Try.func58, Try.ntmps58
      go_wp2_with fail
      refine (k1 _ _ _ (Ints.new1 _ _ _ _ (by simp))).mono ?_
      rintro _ w1 ⟨rfl, hb1⟩
      replace B0 : Cs w1 (w.heap.size) #[.int .i64 n, .int .i64 d] := Cs.keep csA hb1
      replace hbw : Below w.heap.size w w1 := blA
      replace cB0 := B0.c
      replace fB0 := B0.f
      replace lB0 := B0.lt
      clear hb1
      go_wp2_with fail
      refine (k2 _ _ _ (Ints.new1 _ _ _ _ (by simp))).mono ?_
      rintro _ w2 ⟨rfl, hb2⟩
      replace B0 : Cs w2 (w.heap.size) #[.int .i64 n, .int .i64 d] := Cs.keep csA hb2
      replace hbw : Below w.heap.size w w2 := blA
      replace cB0 := B0.c
      replace fB0 := B0.f
      replace lB0 := B0.lt
      clear hb2
      go_wp2_with fail
      refine (k3 _).mono ?_
      rintro e w3 ⟨rfl, hb3⟩
      try clear cB0 fB0 lB0
      try clear B0
      replace hbw : Below w.heap.size w w3 := blA
      clear hb3
      go_wp2_with fail
      go_ret
      exact ⟨ret_bool hfin.out, blA⟩
    · rw [decide_eq_false h2] at k2
      have hfin : Hid (false = isCh n d m) := Lib.hid (by symm; simp [isCh]; omega)
      clear h1 h2
      go_enter Try.func58, Try.ntmps58
      go_wp2_with fail
      refine (k1 _ _ _ (Ints.new1 _ _ _ _ (by simp))).mono ?_
      rintro _ w1 ⟨rfl, hb1⟩
      replace B0 : Cs w1 (w.heap.size) #[.int .i64 n, .int .i64 d] := Cs.keep csA hb1
      replace hbw : Below w.heap.size w w1 := blA
      replace cB0 := B0.c
      replace fB0 := B0.f
      replace lB0 := B0.lt
      clear hb1
      go_wp2_with fail
      refine (k2 _ _ _ (Ints.new1 _ _ _ _ (by simp))).mono ?_
      rintro _ w2 ⟨rfl, hb2⟩
      try clear cB0 fB0 lB0
      try clear B0
      replace hbw : Below w.heap.size w w2 := blA
      clear hb2
      go_wp2_with fail
      go_ret
      exact ⟨ret_bool hfin.out, blA⟩
  · rw [decide_eq_false h1] at k1
    have hfin : Hid (false = isCh n d m) := Lib.hid (by symm; simp [isCh]; omega)
    clear h1 k2
    go_enter Try.func58, Try.ntmps58
    go_wp2_with fail
    refine (k1 _ _ _ (Ints.new1 _ _ _ _ (by simp))).mono ?_
    rintro _ w1 ⟨rfl, hb1⟩
    replace hbw : Below w.heap.size w w1 := blA
    clear hb1
    go_wp2_with fail
    go_ret
    exact ⟨ret_bool hfin.out, blA⟩

end Go.Proofs.Ytcmllkjgggcghaa
end

/- The walk of package eye's runs. -/
section
namespace Go.Proofs.Ytcmllkjgggcghaa
open Go.RowKit Go.Shelf
set_option linter.unusedSimpArgs false
set_option linter.unusedVariables false
open Em (isCh red cnt)

/-- thirteen numbers -/
def arr (f : Nat → Int) : Array Value := #[.int .i64 (f 0), .int .i64 (f 1), .int .i64 (f 2), .int .i64 (f 3), .int .i64 (f 4), .int .i64 (f 5), .int .i64 (f 6), .int .i64 (f 7), .int .i64 (f 8), .int .i64 (f 9), .int .i64 (f 10), .int .i64 (f 11), .int .i64 (f 12)]

theorem arr_get (f : Nat → Int) : ∀ k, k < 13 → (arr f)[k]? = some (.int .i64 (f k))
  | 0, _ => rfl | 1, _ => rfl | 2, _ => rfl | 3, _ => rfl | 4, _ => rfl | 5, _ => rfl | 6, _ => rfl | 7, _ => rfl | 8, _ => rfl | 9, _ => rfl | 10, _ => rfl | 11, _ => rfl | 12, _ => rfl
  | _ + 13, h => absurd h (by omega)
theorem arr_set (f : Nat → Int) (v : Int) : ∀ k, k < 13 → (arr f).setIfInBounds k (.int .i64 v) = arr (fun i => if i = k then v else f i)
  | 0, _ => rfl | 1, _ => rfl | 2, _ => rfl | 3, _ => rfl | 4, _ => rfl | 5, _ => rfl | 6, _ => rfl | 7, _ => rfl | 8, _ => rfl | 9, _ => rfl | 10, _ => rfl | 11, _ => rfl | 12, _ => rfl
  | _ + 13, h => absurd h (by omega)
theorem arr_ext {f g : Nat → Int} (h : ∀ k, k < 13 → f k = g k) : arr f = arr g := by
  unfold arr
  simp only [h 0 (by omega), h 1 (by omega), h 2 (by omega), h 3 (by omega), h 4 (by omega), h 5 (by omega), h 6 (by omega), h 7 (by omega), h 8 (by omega), h 9 (by omega), h 10 (by omega), h 11 (by omega), h 12 (by omega)]

theorem Cs.arrSet {w : World} {g : Nat} {f : Nat → Int} (h : Cs w g (arr f)) (k : Nat) (v : Int) (hk : k < 13) : Cs (w.setCell ⟨g, k, none⟩ (.int .i64 v)) g (arr (fun i => if i = k then v else f i)) := by
  rw [← arr_set f v k hk]
  exact h.set k _ (by simpa [arr] using hk)

/-- all thirteen cells of a block are set -/
def set13 (w : World) (g : Nat) (f : Nat → Int) : World := (((((((((((((w.setCell ⟨g, 0, none⟩ (.int .i64 (f 0))).setCell ⟨g, 1, none⟩ (.int .i64 (f 1))).setCell ⟨g, 2, none⟩ (.int .i64 (f 2))).setCell ⟨g, 3, none⟩ (.int .i64 (f 3))).setCell ⟨g, 4, none⟩ (.int .i64 (f 4))).setCell ⟨g, 5, none⟩ (.int .i64 (f 5))).setCell ⟨g, 6, none⟩ (.int .i64 (f 6))).setCell ⟨g, 7, none⟩ (.int .i64 (f 7))).setCell ⟨g, 8, none⟩ (.int .i64 (f 8))).setCell ⟨g, 9, none⟩ (.int .i64 (f 9))).setCell ⟨g, 10, none⟩ (.int .i64 (f 10))).setCell ⟨g, 11, none⟩ (.int .i64 (f 11))).setCell ⟨g, 12, none⟩ (.int .i64 (f 12)))
theorem Cs.set13 {w : World} {g : Nat} {e : Nat → Int} (h : Cs w g (arr e)) (f : Nat → Int) : Cs (Proofs.Ytcmllkjgggcghaa.set13 w g f) g (arr f) := by
  have k := (Cs.arrSet (Cs.arrSet (Cs.arrSet (Cs.arrSet (Cs.arrSet (Cs.arrSet (Cs.arrSet (Cs.arrSet (Cs.arrSet (Cs.arrSet (Cs.arrSet (Cs.arrSet (Cs.arrSet h 0 (f 0) (by decide)) 1 (f 1) (by decide)) 2 (f 2) (by decide)) 3 (f 3) (by decide)) 4 (f 4) (by decide)) 5 (f 5) (by decide)) 6 (f 6) (by decide)) 7 (f 7) (by decide)) 8 (f 8) (by decide)) 9 (f 9) (by decide)) 10 (f 10) (by decide)) 11 (f 11) (by decide)) 12 (f 12) (by decide))
  refine cast (congrArg (Cs _ g) (arr_ext ?_)) k
  intro x hx
  match x, hx with
  | 0, _ => rfl | 1, _ => rfl | 2, _ => rfl | 3, _ => rfl | 4, _ => rfl | 5, _ => rfl | 6, _ => rfl | 7, _ => rfl | 8, _ => rfl | 9, _ => rfl | 10, _ => rfl | 11, _ => rfl | 12, _ => rfl
  | _ + 13, h => exact absurd h (by omega)
theorem Cs.other13 {w : World} {g g' : Nat} {cs : Array Value} (h : Cs w g cs) (hg : g ≠ g') (f : Nat → Int) : Cs (Proofs.Ytcmllkjgggcghaa.set13 w g' f) g cs := (Cs.other (Cs.other (Cs.other (Cs.other (Cs.other (Cs.other (Cs.other (Cs.other (Cs.other (Cs.other (Cs.other (Cs.other (Cs.other h (p := ⟨g', 0, none⟩) hg (.int .i64 (f 0))) (p := ⟨g', 1, none⟩) hg (.int .i64 (f 1))) (p := ⟨g', 2, none⟩) hg (.int .i64 (f 2))) (p := ⟨g', 3, none⟩) hg (.int .i64 (f 3))) (p := ⟨g', 4, none⟩) hg (.int .i64 (f 4))) (p := ⟨g', 5, none⟩) hg (.int .i64 (f 5))) (p := ⟨g', 6, none⟩) hg (.int .i64 (f 6))) (p := ⟨g', 7, none⟩) hg (.int .i64 (f 7))) (p := ⟨g', 8, none⟩) hg (.int .i64 (f 8))) (p := ⟨g', 9, none⟩) hg (.int .i64 (f 9))) (p := ⟨g', 10, none⟩) hg (.int .i64 (f 10))) (p := ⟨g', 11, none⟩) hg (.int .i64 (f 11))) (p := ⟨g', 12, none⟩) hg (.int .i64 (f 12)))
theorem bset13 {w W : World} {g' : Nat} (h : Below w.heap.size w W) (hg : w.heap.size ≤ g') (f : Nat → Int) : Below w.heap.size w (Proofs.Ytcmllkjgggcghaa.set13 W g' f) := (bset (bset (bset (bset (bset (bset (bset (bset (bset (bset (bset (bset (bset h (p := ⟨g', 0, none⟩) hg (.int .i64 (f 0))) (p := ⟨g', 1, none⟩) hg (.int .i64 (f 1))) (p := ⟨g', 2, none⟩) hg (.int .i64 (f 2))) (p := ⟨g', 3, none⟩) hg (.int .i64 (f 3))) (p := ⟨g', 4, none⟩) hg (.int .i64 (f 4))) (p := ⟨g', 5, none⟩) hg (.int .i64 (f 5))) (p := ⟨g', 6, none⟩) hg (.int .i64 (f 6))) (p := ⟨g', 7, none⟩) hg (.int .i64 (f 7))) (p := ⟨g', 8, none⟩) hg (.int .i64 (f 8))) (p := ⟨g', 9, none⟩) hg (.int .i64 (f 9))) (p := ⟨g', 10, none⟩) hg (.int .i64 (f 10))) (p := ⟨g', 11, none⟩) hg (.int .i64 (f 11))) (p := ⟨g', 12, none⟩) hg (.int .i64 (f 12)))

theorem pow10 {D : Int} (h0 : 0 ≤ D) (h1 : D ≤ 10) : ∀ k : Nat, D ^ k ≤ (10 : Int) ^ k
  | 0 => by simp
  | k + 1 => by
    rw [Int.pow_succ, Int.pow_succ]
    exact Int.mul_le_mul (pow10 h0 h1 k) h1 h0 (Em.pow_nonneg (by omega) k)
theorem pow10_12 (k : Nat) (hk : k ≤ 12) : (10 : Int) ^ k ≤ 1000000000000 := by
  have : ∀ k, k < 13 → (10 : Int) ^ k ≤ 1000000000000 := by decide
  exact this k (by omega)
theorem pow_le {D : Int} (h0 : 0 ≤ D) (h1 : D ≤ 10) (k : Nat) (hk : k ≤ 12) : D ^ k ≤ 1000000000000 := Int.le_trans (pow10 h0 h1 k) (pow10_12 k hk)

/-- the next numbers, of which the first j are known -/
def nxRun (N M : Int) (k j i : Nat) : Int := if i < j then cnt N M (k + 1) i else if i = j then (if j = 0 then 0 else cnt N M k (j - 1) * N) else 0

theorem nxRun_one (N M : Int) (k j : Nat) : nxRun N M k j j + cnt N M k j * M = cnt N M (k + 1) j := by
  unfold nxRun
  rw [if_neg (by omega), if_pos rfl]
  cases j with
  | zero => rw [if_pos rfl, cnt]; omega
  | succ j => rw [if_neg (by omega), cnt]; simp only [Nat.add_sub_cancel]; omega
theorem nxRun_next (N M : Int) (k j : Nat) : nxRun N M k j (j + 1) = 0 := by
  unfold nxRun
  rw [if_neg (by omega), if_neg (by omega)]
theorem nxRun_step (N M : Int) (k j i : Nat) : (if i = j + 1 then cnt N M k j * N else (if i = j then cnt N M (k + 1) j else nxRun N M k j i)) = nxRun N M k (j + 1) i := by
  unfold nxRun
  by_cases h1 : i = j + 1
  · subst h1
    rw [if_pos rfl, if_neg (by omega), if_pos rfl, if_neg (by omega)]; rfl
  · rw [if_neg h1]
    by_cases h2 : i = j
    · subst h2; rw [if_pos rfl, if_pos (by omega)]
    · rw [if_neg h2]
      by_cases h3 : i < j
      · rw [if_pos h3, if_pos (by omega)]
      · rw [if_neg h3, if_neg h2, if_neg (by omega), if_neg h1]

theorem run_index_arr (f : Nat → Int) (j : Nat) (hj : j < 13) (w : World) : (Instr.index 93 (.agg (arr f)) (.int .i64 (j : Int))).run Try.prog w = .ok (.int .i64 (f j)) w := by
  have hu := Try.underlying93
  have h1 : 0 ≤ (j : Int) ∧ (j : Int) < 13 := by omega
  have hg := arr_get f j hj
  simp [Instr.index, run_underlying hu, asIntOf, h1, go_sem]
  rw [if_pos hj, hg]
  rfl

set_option maxRecDepth 10000 in
set_option maxHeartbeats 4000000 in
theorem runs_any (n : Nat) (N D : Int) (w : World) (hn : n ≤ 12) (hN : 0 ≤ N) (hND : N ≤ D) (hD : D ≤ 10) :
    Calls Try.prog 59 #[.int .i64 n, .agg #[.int .i64 N, .int .i64 D]] w fun e w' => e = .returned (.tuple #[.agg (arr (cnt N (D - N) n)), .int .i64 (D ^ n)]) ∧ Below w.heap.size w w' := by
  have f0 : IntKind.i64.wrap (D - N) = D - N := IntWalk.i64_in _ (by omega)
  have hM : 0 ≤ D - N := by omega
  go_enter Try.func59, Try.ntmps59
  go_wp2_with fail
  have e0 : arr (cnt N (D - N) 0) = #[.int .i64 1, .int .i64 0, .int .i64 0, .int .i64 0, .int .i64 0, .int .i64 0, .int .i64 0, .int .i64 0, .int .i64 0, .int .i64 0, .int .i64 0, .int .i64 0, .int .i64 0] := rfl
  have e1 : arr (fun _ => 0) = #[.int .i64 0, .int .i64 0, .int .i64 0, .int .i64 0, .int .i64 0, .int .i64 0, .int .i64 0, .int .i64 0, .int .i64 0, .int .i64 0, .int .i64 0, .int .i64 0, .int .i64 0] := rfl
  go_loopw [7, 13] (fun s7 s13 wr => ∃ k : Nat, k ≤ n ∧ s13 = .int .i64 k ∧ s7 = .int .i64 (D ^ k) ∧ Cs wr w.heap.size #[.int .i64 N, .int .i64 D] ∧ Cs wr (w.heap.size + 1) (arr (fun _ => 0)) ∧ Cs wr (w.heap.size + 1 + 1) (arr (cnt N (D - N) k)) ∧ Below w.heap.size w wr) (fun _ s13 _ => n - (intOf s13).toNat)
  case atStart =>
    refine ⟨0, Nat.zero_le _, rfl, by simp, csA, ?_, ?_, blA⟩
    · rw [e1]; exact csA
    · rw [e0]; exact csA
  case round =>
    obtain ⟨k, hk, rfl, rfl, B0, B1, B2, hbw⟩ := hrel
    by_cases hkn : k < n
    · have hkI : (k : Int) < (n : Int) := by omega
      have B2u : Cs wr (w.heap.size + 1 + 1) #[.int .i64 (cnt N (D - N) k 0), .int .i64 (cnt N (D - N) k 1), .int .i64 (cnt N (D - N) k 2), .int .i64 (cnt N (D - N) k 3), .int .i64 (cnt N (D - N) k 4), .int .i64 (cnt N (D - N) k 5), .int .i64 (cnt N (D - N) k 6), .int .i64 (cnt N (D - N) k 7), .int .i64 (cnt N (D - N) k 8), .int .i64 (cnt N (D - N) k 9), .int .i64 (cnt N (D - N) k 10), .int .i64 (cnt N (D - N) k 11), .int .i64 (cnt N (D - N) k 12)] := B2
      have cB2u := B2u.c
      have fB2u := B2u.f
      have lB2u := B2u.lt
      go_wp2_with fail
      rw [show (#[.int .i64 (cnt N (D - N) k 0), .int .i64 (cnt N (D - N) k 1), .int .i64 (cnt N (D - N) k 2), .int .i64 (cnt N (D - N) k 3), .int .i64 (cnt N (D - N) k 4), .int .i64 (cnt N (D - N) k 5), .int .i64 (cnt N (D - N) k 6), .int .i64 (cnt N (D - N) k 7), .int .i64 (cnt N (D - N) k 8), .int .i64 (cnt N (D - N) k 9), .int .i64 (cnt N (D - N) k 10), .int .i64 (cnt N (D - N) k 11), .int .i64 (cnt N (D - N) k 12)] : Array Value) = arr (cnt N (D - N) k) from rfl]
      have B8 : Cs (wr.alloc (.cells #[.int .i64 0, .int .i64 0, .int .i64 0, .int .i64 0, .int .i64 0, .int .i64 0, .int .i64 0, .int .i64 0, .int .i64 0, .int .i64 0, .int .i64 0, .int .i64 0, .int .i64 0] 93)) wr.heap.size (arr (fun _ => 0)) := by rw [e1]; exact csA
      have n0 : w.heap.size < wr.heap.size := B0.lt
      have n1 : w.heap.size + 1 < wr.heap.size := B1.lt
      have n2 : w.heap.size + 1 + 1 < wr.heap.size := B2.lt
      have Hb := Lib.hid (fun r => (⟨Em.cnt_nonneg hN hM k r, Int.le_trans (Em.cnt_bound hN hM k r) (by rw [show N + (D - N) = D by omega]; exact pow_le (by omega) hD k (by omega))⟩ : 0 ≤ cnt N (D - N) k r ∧ cnt N (D - N) k r ≤ 1000000000000))
      clear B2u cB2u fB2u lB2u
      replace B0 : Cs (wr.alloc (.cells #[.int .i64 0, .int .i64 0, .int .i64 0, .int .i64 0, .int .i64 0, .int .i64 0, .int .i64 0, .int .i64 0, .int .i64 0, .int .i64 0, .int .i64 0, .int .i64 0, .int .i64 0] 93)) w.heap.size #[.int .i64 N, .int .i64 D] := csA
      replace B1 := B1.alloc (.cells #[.int .i64 0, .int .i64 0, .int .i64 0, .int .i64 0, .int .i64 0, .int .i64 0, .int .i64 0, .int .i64 0, .int .i64 0, .int .i64 0, .int .i64 0, .int .i64 0, .int .i64 0] 93)
      replace B2 := B2.alloc (.cells #[.int .i64 0, .int .i64 0, .int .i64 0, .int .i64 0, .int .i64 0, .int .i64 0, .int .i64 0, .int .i64 0, .int .i64 0, .int .i64 0, .int .i64 0, .int .i64 0, .int .i64 0] 93)
      replace hbw := balloc hbw (.cells #[.int .i64 0, .int .i64 0, .int .i64 0, .int .i64 0, .int .i64 0, .int .i64 0, .int .i64 0, .int .i64 0, .int .i64 0, .int .i64 0, .int .i64 0, .int .i64 0, .int .i64 0] 93)
      generalize hg8 : wr.heap.size = g8 at *
      generalize wr.alloc (.cells #[.int .i64 0, .int .i64 0, .int .i64 0, .int .i64 0, .int .i64 0, .int .i64 0, .int .i64 0, .int .i64 0, .int .i64 0, .int .i64 0, .int .i64 0, .int .i64 0, .int .i64 0] 93) = w1 at *
      clear hg8
      go_loopw [16] (fun s16 wx => ∃ (j : Nat) (W : World), j ≤ 13 ∧ s16 = .int .i64 j ∧ Hid (W = wx) ∧ Cs wx w.heap.size #[.int .i64 N, .int .i64 D] ∧ Cs wx (w.heap.size + 1) (arr (fun _ => 0)) ∧ Cs wx (w.heap.size + 1 + 1) (arr (cnt N (D - N) k)) ∧ Cs wx g8 (arr (nxRun N (D - N) k j)) ∧ Below w.heap.size w wx) (fun s16 _ => 13 - (intOf s16).toNat)
      case atStart =>
        refine ⟨0, _, by omega, rfl, Lib.hid rfl, B0, B1, B2, ?_, hbw⟩
        rw [show arr (nxRun N (D - N) k 0) = arr (fun _ => 0) from arr_ext (fun i _ => by unfold nxRun; simp)]
        exact B8
      case round =>
        clear B0 B1 B2 B8 hbw
        obtain ⟨j, W, hj, rfl, HW, B0, B1, B2, B8, hbw⟩ := hrel
        obtain rfl := HW.out
        by_cases hj3 : j < 13
        · have hjI : (j : Int) < 13 := by omega
          have hix := fun W => run_index_arr (cnt N (D - N) k) j hj3 W
          have c8 : W.cell? ⟨g8, j, none⟩ = some (.int .i64 (nxRun N (D - N) k j j)) := by rw [B8.c, arr_get _ _ hj3]
          obtain ⟨y0, y1⟩ := Hb.out j
          have l8 := B8.lt
          have f8 := B8.f
          have cB0 := B0.c
          have fB0 := B0.f
          have lB0 := B0.lt
          have hone := nxRun_one N (D - N) k j
          have b1 := Em.cnt_nonneg hN hM (k + 1) j
          have b2 : cnt N (D - N) (k + 1) j ≤ 1000000000000 := Int.le_trans (Em.cnt_bound hN hM (k + 1) j) (by rw [show N + (D - N) = D by omega]; exact pow_le (by omega) hD (k + 1) (by omega))
          have m0 : 0 ≤ cnt N (D - N) k j * (D - N) := Int.mul_nonneg y0 hM
          have m1 : cnt N (D - N) k j * (D - N) ≤ 1000000000000 * 10 := Int.mul_le_mul y1 (by omega) hM (by omega)
          have m2 : 0 ≤ cnt N (D - N) k j * N := Int.mul_nonneg y0 hN
          have m3 : cnt N (D - N) k j * N ≤ 1000000000000 * 10 := Int.mul_le_mul y1 (by omega) hN (by omega)
          have f1 : IntKind.i64.wrap (cnt N (D - N) k j * (D - N)) = cnt N (D - N) k j * (D - N) := IntWalk.i64_in _ (by omega)
          have f2 : IntKind.i64.wrap (nxRun N (D - N) k j j + cnt N (D - N) k j * (D - N)) = cnt N (D - N) (k + 1) j := by rw [hone]; exact IntWalk.i64_in _ (by omega)
          have f3 : IntKind.i64.wrap (cnt N (D - N) k j * N) = cnt N (D - N) k j * N := IntWalk.i64_in _ (by omega)
          have hne : w.heap.size ≠ g8 := by omega
          clear m0 m1 m2 m3 b1 b2 hone
          go_wp2_with fail
          go_region
          have hne1 : w.heap.size + 1 ≠ g8 := by omega
          have hne2 : w.heap.size + 1 + 1 ≠ g8 := by omega
          have B8' := (B8.arrSet j (cnt N (D - N) (k + 1) j) hj3).drew
          have B0' := (B0.other (p := ⟨g8, j, none⟩) hne (.int .i64 (cnt N (D - N) (k + 1) j))).drew
          have B1' := (B1.other (p := ⟨g8, j, none⟩) hne1 (.int .i64 (cnt N (D - N) (k + 1) j))).drew
          have B2' := (B2.other (p := ⟨g8, j, none⟩) hne2 (.int .i64 (cnt N (D - N) (k + 1) j))).drew
          have hbw' := (bset hbw (p := ⟨g8, j, none⟩) (by show w.heap.size ≤ g8; omega) (.int .i64 (cnt N (D - N) (k + 1) j))).drew
          clear B0 B1 B2 B8 hbw cB0 fB0 lB0 c8 l8 f8 f1 f2 HW
          generalize (W.setCell ⟨g8, j, none⟩ (.int .i64 (cnt N (D - N) (k + 1) j))).drew = W1 at *
          by_cases hj4 : j + 1 < 13
          · have hjI1 : (j : Int) + 1 < 13 := by omega
            have i0 : (0 : Int) ≤ (j : Int) + 1 := by omega
            have i1 : IntKind.i64.wrap ((j : Int) + 1) = (j : Int) + 1 := IntWalk.i64_in _ (by omega)
            have i2 : ((j : Int) + 1).toNat = j + 1 := by omega
            have c9 : W1.cell? ⟨g8, j + 1, none⟩ = some (.int .i64 0) := by
              rw [B8'.c, arr_get _ _ hj4, if_neg (by omega), nxRun_next]
            have l8 := B8'.lt
            have f8 := B8'.f
            have cB0' := B0'.c
            have fB0' := B0'.f
            have lB0' := B0'.lt
            go_wp2_with fail
            go_region
            have B8'' := (B8'.arrSet (j + 1) (cnt N (D - N) k j * N) hj4).drew
            rw [arr_ext (fun i _ => nxRun_step N (D - N) k j i)] at B8''
            have B0'' := (B0'.other (p := ⟨g8, j + 1, none⟩) hne (.int .i64 (cnt N (D - N) k j * N))).drew
            have B1'' := (B1'.other (p := ⟨g8, j + 1, none⟩) hne1 (.int .i64 (cnt N (D - N) k j * N))).drew
            have B2'' := (B2'.other (p := ⟨g8, j + 1, none⟩) hne2 (.int .i64 (cnt N (D - N) k j * N))).drew
            have hbw'' := (bset hbw' (p := ⟨g8, j + 1, none⟩) (by show w.heap.size ≤ g8; omega) (.int .i64 (cnt N (D - N) k j * N))).drew
            go_wp2_with fail
            go_roundw
            case rel => exact ⟨j + 1, _, by omega, by go_num, Lib.hid rfl, B0'', B1'', B2'', B8'', hbw''⟩
            case measure => simp [intOf]; omega
          · have hjI1 : ¬ (j : Int) + 1 < 13 := by omega
            have B8'' : Cs W1 g8 (arr (nxRun N (D - N) k (j + 1))) := by
              have e : ∀ i, i < 13 → (if i = j then cnt N (D - N) (k + 1) j else nxRun N (D - N) k j i) = nxRun N (D - N) k (j + 1) i := fun i hi => by
                have h := nxRun_step N (D - N) k j i
                rw [if_neg (show ¬ i = j + 1 by omega)] at h
                exact h
              rw [← arr_ext e]
              exact B8'
            have i1 : IntKind.i64.wrap ((j : Int) + 1) = (j : Int) + 1 := IntWalk.i64_in _ (by omega)
            go_wp2_with fail
            go_roundw
            case rel => exact ⟨j + 1, _, by omega, by go_num, Lib.hid rfl, B0', B1', B2', B8'', hbw'⟩
            case measure => simp [intOf]; omega
        · obtain rfl : j = 13 := by omega
          have B8u : Cs W g8 #[.int .i64 (cnt N (D - N) (k + 1) 0), .int .i64 (cnt N (D - N) (k + 1) 1), .int .i64 (cnt N (D - N) (k + 1) 2), .int .i64 (cnt N (D - N) (k + 1) 3), .int .i64 (cnt N (D - N) (k + 1) 4), .int .i64 (cnt N (D - N) (k + 1) 5), .int .i64 (cnt N (D - N) (k + 1) 6), .int .i64 (cnt N (D - N) (k + 1) 7), .int .i64 (cnt N (D - N) (k + 1) 8), .int .i64 (cnt N (D - N) (k + 1) 9), .int .i64 (cnt N (D - N) (k + 1) 10), .int .i64 (cnt N (D - N) (k + 1) 11), .int .i64 (cnt N (D - N) (k + 1) 12)] := by
            have e : arr (nxRun N (D - N) k 13) = arr (cnt N (D - N) (k + 1)) := arr_ext (fun i hi => by unfold nxRun; rw [if_pos hi])
            rw [e] at B8
            exact B8
          have B2u : Cs W (w.heap.size + 1 + 1) #[.int .i64 (cnt N (D - N) k 0), .int .i64 (cnt N (D - N) k 1), .int .i64 (cnt N (D - N) k 2), .int .i64 (cnt N (D - N) k 3), .int .i64 (cnt N (D - N) k 4), .int .i64 (cnt N (D - N) k 5), .int .i64 (cnt N (D - N) k 6), .int .i64 (cnt N (D - N) k 7), .int .i64 (cnt N (D - N) k 8), .int .i64 (cnt N (D - N) k 9), .int .i64 (cnt N (D - N) k 10), .int .i64 (cnt N (D - N) k 11), .int .i64 (cnt N (D - N) k 12)] := B2
          have hpw := Em.pow_nonneg (show 0 ≤ D by omega) (k + 1)
          have hpw2 := pow_le (show 0 ≤ D by omega) hD (k + 1) (by omega)
          have fp : IntKind.i64.wrap (D ^ k * D) = D ^ (k + 1) := by rw [← Int.pow_succ]; exact IntWalk.i64_in _ ⟨Int.le_trans (by decide) hpw, Int.le_trans hpw2 (by decide)⟩
          clear hpw hpw2 Hb HW B8
          have cB8u := B8u.c
          have fB8u := B8u.f
          have lB8u := B8u.lt
          have cB2u := B2u.c
          have fB2u := B2u.f
          have lB2u := B2u.lt
          have cB0 := B0.c
          have fB0 := B0.f
          have lB0 := B0.lt
          have X2 := B2.set13 (cnt N (D - N) (k + 1))
          have X0 := B0.other13 (g' := w.heap.size + 1 + 1) (by omega) (cnt N (D - N) (k + 1))
          have X1 := B1.other13 (g' := w.heap.size + 1 + 1) (by omega) (cnt N (D - N) (k + 1))
          have hbX := bset13 hbw (g' := w.heap.size + 1 + 1) (by omega) (cnt N (D - N) (k + 1))
          unfold set13 at X2 X0 X1 hbX
          go_wp2_with fail
          go_roundw
          case rel => exact ⟨k + 1, by omega, by go_num, rfl, X0, X1, X2, hbX⟩
          case measure => simp [intOf]; omega
    · obtain rfl : k = n := by omega
      have B2u : Cs wr (w.heap.size + 1 + 1) #[.int .i64 (cnt N (D - N) k 0), .int .i64 (cnt N (D - N) k 1), .int .i64 (cnt N (D - N) k 2), .int .i64 (cnt N (D - N) k 3), .int .i64 (cnt N (D - N) k 4), .int .i64 (cnt N (D - N) k 5), .int .i64 (cnt N (D - N) k 6), .int .i64 (cnt N (D - N) k 7), .int .i64 (cnt N (D - N) k 8), .int .i64 (cnt N (D - N) k 9), .int .i64 (cnt N (D - N) k 10), .int .i64 (cnt N (D - N) k 11), .int .i64 (cnt N (D - N) k 12)] := B2
      have B1u : Cs wr (w.heap.size + 1) #[.int .i64 0, .int .i64 0, .int .i64 0, .int .i64 0, .int .i64 0, .int .i64 0, .int .i64 0, .int .i64 0, .int .i64 0, .int .i64 0, .int .i64 0, .int .i64 0, .int .i64 0] := B1
      have X1 := B1.set13 (cnt N (D - N) k)
      have hbX := bset13 hbw (g' := w.heap.size + 1) (by omega) (cnt N (D - N) k)
      unfold set13 at X1 hbX
      have X1u : Cs _ (w.heap.size + 1) #[.int .i64 (cnt N (D - N) k 0), .int .i64 (cnt N (D - N) k 1), .int .i64 (cnt N (D - N) k 2), .int .i64 (cnt N (D - N) k 3), .int .i64 (cnt N (D - N) k 4), .int .i64 (cnt N (D - N) k 5), .int .i64 (cnt N (D - N) k 6), .int .i64 (cnt N (D - N) k 7), .int .i64 (cnt N (D - N) k 8), .int .i64 (cnt N (D - N) k 9), .int .i64 (cnt N (D - N) k 10), .int .i64 (cnt N (D - N) k 11), .int .i64 (cnt N (D - N) k 12)] := X1
      have cB2u := B2u.c
      have fB2u := B2u.f
      have lB2u := B2u.lt
      have cB1u := B1u.c
      have fB1u := B1u.f
      have lB1u := B1u.lt
      clear e0 e1 B0 B1 B2 B1u B2u
      go_wp2_with fail
      have cX := X1u.c
      have fX := X1u.f
      have lX := X1u.lt
      exact bodyPost_ret (v := .tuple #[.agg (arr (cnt N (D - N) k)), .int .i64 (D ^ k)]) (by simp [results, Try.results59, go_sem, cX, fX, lX, arr]) rfl ⟨rfl, hbX⟩

end Go.Proofs.Ytcmllkjgggcghaa
end
