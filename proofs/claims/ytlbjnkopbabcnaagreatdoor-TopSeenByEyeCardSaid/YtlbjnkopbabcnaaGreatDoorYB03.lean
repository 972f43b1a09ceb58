/- BA1 BA2 BA3 -/
import Derived.Test.YtlbjnkopbabcnaaGreatDoorYB01
import Derived.Test.YtlbjnkopbabcnaaGreatDoorYB02
import Derived.Deep.RegionHeld3
/- Walks of the small functions of package bench: divisor, within, ratio. -/
section
namespace Go.Proofs.YtlbjnkopbabcnaaGreatDoor
open Go.RowKit Go.Shelf
set_option linter.unusedSimpArgs false
set_option linter.unusedVariables false

set_option maxHeartbeats 400000 in
theorem divisor_any (a b : Int) (w : World) (ha : 0 ≤ a) (hb : 0 ≤ b) (hA : a ≤ 9223372036854775807) (hB : b ≤ 9223372036854775807) :
    Calls Tryz.prog 349 #[.int .i64 a, .int .i64 b] w fun e w' => e = .returned (.int .i64 (Int.gcd a b)) ∧ Below w.heap.size w w' := by
  go_enter Tryz.func349, Tryz.ntmps349
  go_wp2
  go_loopw [0, 1] (fun x y wr => ∃ p q : Int, 0 ≤ p ∧ 0 ≤ q ∧ p ≤ 9223372036854775807 ∧ q ≤ 9223372036854775807 ∧ x = .int .i64 p ∧ y = .int .i64 q ∧ Hid (Int.gcd p q = Int.gcd a b) ∧ Below w.heap.size w wr) (fun _ y _ => (intOf y).toNat)
  case atStart => exact ⟨a, b, ha, hb, hA, hB, rfl, rfl, rfl, Below.refl _ _⟩
  case round =>
    obtain ⟨p, q, hp, hq, hP, hQ, rfl, rfl, hg, hbl⟩ := hrel
    by_cases h0 : q = 0
    · subst h0
      go_wp2
      go_ret
      refine ⟨?_, hbl⟩
      have := hg.out
      rw [← this]
      simp
      omega
    · have hm0 := Int.emod_nonneg p (b := q) h0
      have hm1 := Int.emod_lt_of_pos p (b := q) (by omega)
      have h1 : 1 ≤ q := by omega
      have hgc : Hid (Int.gcd q (p % q) = Int.gcd a b) := by
        rw [← hg.out]; show Int.gcd q (p % q) = Int.gcd p q
        exact Um.gcd_step p q hp (by omega)
      clear h0
      go_wp2
      go_quiet (fail)
      go_wp2
      go_roundw
      case rel => exact ⟨q, p % q, by omega, by omega, by omega, by omega, rfl, rfl, hgc, by first | exact hbl.drew | exact bdrewN hbl _⟩
      case measure => simp [intOf]; omega

/-- what a predicate on numbers that is handed on gives, whatever has been made since -/
def PredInts (P : Program) (g : Nat) (lb : Array Value) (p : Int → Bool) (zs : List Int) (w : World) : Prop :=
  ∀ x, x ∈ zs → ∀ W, Below w.heap.size w W → Calls P g (#[.int .i64 x] ++ lb) W fun e W' => e = .returned (.bool (p x)) ∧ Below w.heap.size w W'

set_option maxHeartbeats 400000 in
theorem indexInts_any (A : Option Addr) (n c g : Nat) (zs : List Int) (lb : Array Value) (p : Int → Bool) (w : World) (eg : ∀ args w, (callFunc g args).run Tryz.prog w = .ok (.enter g args) w)
    (hz : Ints w A n zs) (hn : n ≤ 9223372036854775807) (hp : PredInts Tryz.prog g lb p zs w) :
    Calls Tryz.prog 237 #[.slice A n c, .func (.func g) #[] lb] w fun e w' => e = .returned (.int .i64 (Um.idx p zs)) ∧ Below w.heap.size w w' := by
  obtain ⟨hl, hcell⟩ := hz
  have Hcell := Lib.hid hcell
  have Hp := Lib.hid hp
  have Hl := Lib.hid hl
  clear hcell hp hl
  go_enter Tryz.func237, Tryz.ntmps237
  go_wp2
  go_loopw [5, 8] (fun _ i wr => ∃ k : Nat, k ≤ n ∧ i = .int .i64 k ∧ Hid (∀ i y, i < k → zs[i]? = some y → p y = false) ∧ Below w.heap.size w wr) (fun _ i _ => n - (intOf i).toNat)
  case atStart => exact ⟨0, Nat.zero_le _, rfl, fun i y hi => by omega, Below.refl _ _⟩
  case round =>
    obtain ⟨k, hk, rfl, hpre, hbl⟩ := hrel
    by_cases hlt : k < n
    · obtain ⟨b, off, rfl, hb, hc⟩ := Hcell.out (by omega)
      have hx : wr.cell? ⟨b, off + k, none⟩ = some (.int .i64 (zs.getD k 0)) := (hbl.cell (p := ⟨b, off + k, none⟩) hb).trans (hc k hlt)
      have hget : zs[k]? = some (zs.getD k 0) := by
        rw [List.getD_eq_getElem?_getD, List.getElem?_eq_getElem (by have := Hl.out; omega)]; rfl
      have Hget := Lib.hid hget
      have hcall := Hp.out (zs.getD k 0) (List.mem_of_getElem? hget) wr hbl
      clear hc hget
      generalize zs.getD k 0 = x at *
      cases hq : p x with
      | true =>
        rw [hq] at hcall
        have Hq := Lib.hid hq
        clear hq
        go_wp2_with (go_at_fn g; refine hcall.mono ?_; rintro e w' ⟨rfl, hb'⟩)
        go_ret
        exact ⟨ret_int (Um.idx_at p k zs x hpre.out Hget.out Hq.out).symm, hb'⟩
      | false =>
        rw [hq] at hcall
        have Hq := Lib.hid hq
        clear hq
        go_wp2_with (go_at_fn g; refine hcall.mono ?_; rintro e w' ⟨rfl, hb'⟩)
        go_roundw
        case rel =>
          refine ⟨k + 1, by omega, by go_num, fun i y hi hy => ?_, hb'⟩
          by_cases hik : i < k
          · exact hpre.out i y hik hy
          · have : i = k := by omega
            subst this
            have := Hget.out
            rw [hy] at this
            injection this with this
            rw [this]; exact Hq.out
        case measure => simp [intOf]; omega
    · go_wp2
      go_ret
      refine ⟨ret_int (Um.idx_none p zs (fun y hy => ?_)).symm, hbl⟩
      obtain ⟨i, hi, hiy⟩ := List.mem_iff_getElem.1 hy
      exact hpre.out i y (by have := Hl.out; omega) (by rw [List.getElem?_eq_getElem hi, hiy])

set_option maxHeartbeats 400000 in
theorem containsInts_any (A : Option Addr) (n c g : Nat) (zs : List Int) (lb : Array Value) (p : Int → Bool) (w : World) (eg : ∀ args w, (callFunc g args).run Tryz.prog w = .ok (.enter g args) w)
    (hz : Ints w A n zs) (hn : n ≤ 9223372036854775807) (hp : PredInts Tryz.prog g lb p zs w) :
    Calls Tryz.prog 142 #[.slice A n c, .func (.func g) #[] lb] w fun e w' => e = .returned (.bool (zs.any p)) ∧ Below w.heap.size w w' := by
  have h1 := indexInts_any A n c g zs lb p w eg hz hn hp
  have h2 := Um.idx_any p zs
  have H2 := Lib.hid h2
  clear h2 hz hp eg
  generalize zs.any p = r at *
  generalize Um.idx p zs = ix at *
  go_enter Tryz.func142, Tryz.ntmps142
  go_wp2_with (go_at_call 237; refine h1.mono ?_; rintro e w' ⟨rfl, hb'⟩)
  go_ret
  exact ⟨ret_bool H2.out, hb'⟩

/-- a number is not from lo to hi -/
def out (lo hi n : Int) : Bool := decide (n < lo) || decide (hi < n)

set_option maxHeartbeats 400000 in
theorem withinC_any (lo hi n : Int) (b1 b2 : Nat) (w : World) (h1 : w.cell? ⟨b1, 0, none⟩ = some (.int .i64 lo)) (h2 : w.cell? ⟨b2, 0, none⟩ = some (.int .i64 hi)) :
    Calls Tryz.prog 143 #[.int .i64 n, .pointer (some ⟨b1, 0, none⟩), .pointer (some ⟨b2, 0, none⟩)] w fun e w' => e = .returned (.bool (out lo hi n)) ∧ Below w.heap.size w w' := by
  unfold out
  by_cases hn : n < lo
  · go_enter Tryz.func143, Tryz.ntmps143
    go_wp2
    go_ret
    exact ⟨ret_bool (by simp [hn]), Below.refl _ _⟩
  · have hn' : decide (n < lo) = false := by simp; omega
    have Hn := Lib.hid hn'
    clear hn'
    go_enter Tryz.func143, Tryz.ntmps143
    go_wp2
    go_ret
    exact ⟨ret_bool (by rw [Hn.out]; simp), Below.refl _ _⟩

set_option maxHeartbeats 400000 in
theorem within_any (lo hi : Int) (A : Option Addr) (n c : Nat) (zs : List Int) (w : World) (hz : Ints w A n zs) (hn : n ≤ 9223372036854775807) :
    Calls Tryz.prog 80 #[.int .i64 lo, .int .i64 hi, .slice A n c] w fun e w' => e = .returned (.bool (zs.all fun x => !out lo hi x)) ∧ Below w.heap.size w w' := by
  have hw2 : Below w.heap.size w ((w.alloc (.cells #[.int .i64 lo] 2)).alloc (.cells #[.int .i64 hi] 2)) := ((Below.refl _ _).alloc (Nat.le_refl _) _).alloc (by simp) _
  have hsz : ((w.alloc (.cells #[.int .i64 lo] 2)).alloc (.cells #[.int .i64 hi] 2)).heap.size = w.heap.size + 2 := by simp
  have h1 := containsInts_any A n c 143 zs #[.pointer (some ⟨w.heap.size, 0, none⟩), .pointer (some ⟨w.heap.size + 1, 0, none⟩)] (out lo hi) _
    (enters_of Tryz.func143 (by kernel_rfl) rfl) (hz.below hw2) hn (fun x _ W hW => (withinC_any lo hi x w.heap.size (w.heap.size + 1) W
      ((hW.cell (p := ⟨w.heap.size, 0, none⟩) (by rw [hsz]; simp)).trans (by simp)) ((hW.cell (p := ⟨w.heap.size + 1, 0, none⟩) (by rw [hsz]; simp)).trans (by simp))).mono fun e W' ⟨he, hb⟩ => ⟨he, hW.trans (hb.mono hW.size)⟩)
  have hany : Hid ((!zs.any (out lo hi)) = zs.all fun x => !out lo hi x) := by show _ = _; rw [List.not_any_eq_all_not]
  clear hz hsz
  generalize (zs.all fun x => !out lo hi x) = r at *
  generalize zs.any (out lo hi) = r' at *
  go_enter Tryz.func80, Tryz.ntmps80
  go_wp2_with (go_at_call 142; refine h1.mono ?_; rintro e w' ⟨rfl, hb'⟩)
  go_ret
  exact ⟨ret_bool (by first | rfl | exact hany.out), hw2.trans (hb'.mono (by simp; omega))⟩
theorem Ints.at0 {w wr : World} {A : Option Addr} {n k : Nat} {zs : List Int} (h : Ints w A n zs) (hb : Below w.heap.size w wr) (hk : k < n) :
    ∃ b off, A = some ⟨b, off, none⟩ ∧ b < w.heap.size ∧ wr.cell? ⟨b, off + k, none⟩ = some (.int .i64 (zs.getD k 0)) := by
  obtain ⟨b, off, rfl, hlt, hc⟩ := h.2 (by omega)
  exact ⟨b, off, rfl, hlt, (hb.cell (p := ⟨b, off + k, none⟩) hlt).trans (hc k hk)⟩

set_option maxHeartbeats 1000000 in
theorem ratio_any (n d : Int) (w : World) (hn : 0 ≤ n) (hd : 1 ≤ d) (hN : n ≤ 9223372036854775807) (hD : d ≤ 9223372036854775807) :
    Calls Tryz.prog 328 #[.int .i64 n, .int .i64 d] w fun e w' => e = .returned (.agg #[.int .i64 (Bm.red n d).1, .int .i64 (Bm.red n d).2]) ∧ Below w.heap.size w w' := by
  have hg : 1 ≤ (Int.gcd n d : Int) := by
    have : 0 < Int.gcd n d := Int.gcd_pos_of_ne_zero_right _ (by omega)
    omega
  have k1 := fun W => divisor_any n d W (by omega) (by omega) hN hD
  unfold Bm.red
  dsimp only
  generalize (Int.gcd n d : Int) = g at *
  have l1 : 0 ≤ n / g := Int.ediv_nonneg (by omega) (by omega)
  have l2 : 0 ≤ d / g := Int.ediv_nonneg (by omega) (by omega)
  have l3 : n / g ≤ n := Int.ediv_le_self _ (by omega)
  have l4 : d / g ≤ d := Int.ediv_le_self _ (by omega)
  have f1 : n.tdiv g = n / g := Int.tdiv_eq_ediv_of_nonneg (by omega)
  have f2 : d.tdiv g = d / g := Int.tdiv_eq_ediv_of_nonneg (by omega)
  have e1 : IntKind.i64.wrap (n / g) = n / g := IntWalk.i64_in _ (by omega)
  have e2 : IntKind.i64.wrap (d / g) = d / g := IntWalk.i64_in _ (by omega)
  have g0 : (g == 0) = false := by simp; omega
  go_enter Tryz.func328, Tryz.ntmps328
  go_wp2_with fail
  refine (k1 _).mono ?_
  rintro e w1 ⟨rfl, hb1⟩
  replace B1 : Cs w1 (w.heap.size) #[.int .i64 0, .int .i64 0] := Cs.keep csA hb1
  replace hbw : Below w.heap.size w w1 := blA
  replace cB1 := B1.c
  replace fB1 := B1.f
  replace lB1 := B1.lt
  clear hb1
  go_wp2_with fail
  go_region
  go_wp2_with fail
  exact bodyPost_ret (v := .agg #[.int .i64 (n / g), .int .i64 (d / g)]) (by simp [results, Tryz.results328, go_sem, cB1, fB1, lB1]) rfl ⟨rfl, blA⟩


end Go.Proofs.YtlbjnkopbabcnaaGreatDoor
end

/- Walks of package bench: pairs in slices; CheckProgramme. -/
section
namespace Go.Proofs.YtlbjnkopbabcnaaGreatDoor
open Go.RowKit Go.Shelf
set_option linter.unusedSimpArgs false
set_option linter.unusedVariables false

/-- a slice value that reads as a list of pairs of numbers -/
def Prs (w : World) (A : Option Addr) (n : Nat) (zs : List (Int × Int)) : Prop :=
  zs.length = n ∧ (0 < n → ∃ b off, A = some ⟨b, off, none⟩ ∧ b < w.heap.size ∧ ∀ i x y, zs[i]? = some (x, y) →
    w.cell? ⟨b, off + i * 2, none⟩ = some (.int .i64 x) ∧ w.cell? ⟨b, off + i * 2 + 1, none⟩ = some (.int .i64 y))

theorem Prs.below {w w' : World} {A : Option Addr} {n : Nat} {zs : List (Int × Int)} (h : Prs w A n zs) (hb : Below w.heap.size w w') : Prs w' A n zs := by
  refine ⟨h.1, fun hn => ?_⟩
  obtain ⟨b, off, rfl, hlt, hc⟩ := h.2 hn
  exact ⟨b, off, rfl, Nat.lt_of_lt_of_le hlt hb.size, fun i x y hp => ⟨(hb.cell (p := ⟨b, _, none⟩) hlt).trans (hc i x y hp).1, (hb.cell (p := ⟨b, _, none⟩) hlt).trans (hc i x y hp).2⟩⟩

/-- what is needed of one pair, in a later world -/
theorem Prs.at_ {w wr : World} {A : Option Addr} {n k : Nat} {zs : List (Int × Int)} (h : Prs w A n zs) (hb : Below w.heap.size w wr) (hk : k < n) :
    ∃ b off x y, A = some ⟨b, off, none⟩ ∧ zs[k]? = some (x, y) ∧ wr.cell? ⟨b, off + k * 2, none⟩ = some (.int .i64 x) ∧ wr.cell? ⟨b, off + k * 2 + 1, none⟩ = some (.int .i64 y) := by
  obtain ⟨b, off, rfl, hlt, hc⟩ := h.2 (by omega)
  have hl : k < zs.length := by rw [h.1]; exact hk
  obtain ⟨c0, c1⟩ := hc k zs[k].1 zs[k].2 (List.getElem?_eq_getElem hl)
  exact ⟨b, off, zs[k].1, zs[k].2, rfl, List.getElem?_eq_getElem hl, (hb.cell (p := ⟨b, _, none⟩) hlt).trans c0, (hb.cell (p := ⟨b, _, none⟩) hlt).trans c1⟩
theorem Prs.nil (w : World) (A : Option Addr) : Prs w A 0 [] := ⟨rfl, fun h => absurd h (by omega)⟩
theorem Prs.alloc {w : World} {A : Option Addr} {n : Nat} {zs : List (Int × Int)} (h : Prs w A n zs) (o : Obj) : Prs (w.alloc o) A n zs := h.below (balloc (Below.refl _ _) o)
theorem Prs.drewN {w : World} {A : Option Addr} {n : Nat} {zs : List (Int × Int)} (h : Prs w A n zs) (k : Nat) : Prs (w.drewN k) A n zs := h
theorem Prs.drew {w : World} {A : Option Addr} {n : Nat} {zs : List (Int × Int)} (h : Prs w A n zs) : Prs w.drew A n zs := h

/-- what a predicate on pairs that is handed on gives, whatever has been made since -/
def PredPrs (P : Program) (g : Nat) (lb : Array Value) (p : Int × Int → Bool) (zs : List (Int × Int)) (w : World) : Prop :=
  ∀ x, x ∈ zs → ∀ W, Below w.heap.size w W → Calls P g (#[.agg #[.int .i64 x.1, .int .i64 x.2]] ++ lb) W fun e W' => e = .returned (.bool (p x)) ∧ Below w.heap.size w W'

set_option maxHeartbeats 400000 in
theorem indexPrs_any (A : Option Addr) (n c g : Nat) (zs : List (Int × Int)) (lb : Array Value) (p : Int × Int → Bool) (w : World) (eg : ∀ args w, (callFunc g args).run Tryz.prog w = .ok (.enter g args) w)
    (hz : Prs w A n zs) (hn : n ≤ 9223372036854775807) (hp : PredPrs Tryz.prog g lb p zs w) :
    Calls Tryz.prog 238 #[.slice A n c, .func (.func g) #[] lb] w fun e w' => e = .returned (.int .i64 (Um.idx p zs)) ∧ Below w.heap.size w w' := by
  have Hz := Lib.hid hz
  have Hp := Lib.hid hp
  clear hp hz
  go_enter Tryz.func238, Tryz.ntmps238
  go_wp2
  go_loopw [5, 8] (fun _ i wr => ∃ k : Nat, k ≤ n ∧ i = .int .i64 k ∧ Hid (∀ i y, i < k → zs[i]? = some y → p y = false) ∧ Below w.heap.size w wr) (fun _ i _ => n - (intOf i).toNat)
  case atStart => exact ⟨0, Nat.zero_le _, rfl, fun i y hi => by omega, Below.refl _ _⟩
  case round =>
    obtain ⟨k, hk, rfl, hpre, hbl⟩ := hrel
    by_cases hlt : k < n
    · obtain ⟨b, off, x, y, rfl, hget, c0, c1⟩ := Hz.out.at_ hbl hlt
      have Hget := Lib.hid hget
      have hcall := Hp.out (x, y) (List.mem_of_getElem? hget) wr hbl
      dsimp only at hcall
      clear hget
      cases hq : p (x, y) with
      | true =>
        rw [hq] at hcall
        have Hq := Lib.hid hq
        clear hq
        go_wp2_with (go_at_fn g; refine hcall.mono ?_; rintro e w' ⟨rfl, hb'⟩)
        go_ret
        exact ⟨ret_int (Um.idx_at p k zs (x, y) hpre.out Hget.out Hq.out).symm, hb'⟩
      | false =>
        rw [hq] at hcall
        have Hq := Lib.hid hq
        clear hq
        go_wp2_with (go_at_fn g; refine hcall.mono ?_; rintro e w' ⟨rfl, hb'⟩)
        go_roundw
        case rel =>
          refine ⟨k + 1, by omega, by go_num, fun i v hi hy => ?_, hb'⟩
          by_cases hik : i < k
          · exact hpre.out i v hik hy
          · have : i = k := by omega
            subst this
            have := Hget.out
            rw [hy] at this
            injection this with this
            rw [this]; exact Hq.out
        case measure => simp [intOf]; omega
    · go_wp2
      go_ret
      refine ⟨ret_int (Um.idx_none p zs (fun y hy => ?_)).symm, hbl⟩
      obtain ⟨i, hi, hiy⟩ := List.mem_iff_getElem.1 hy
      exact hpre.out i y (by have := Hz.out.1; omega) (by rw [List.getElem?_eq_getElem hi, hiy])

set_option maxHeartbeats 400000 in
theorem containsPrs_any (A : Option Addr) (n c g : Nat) (zs : List (Int × Int)) (lb : Array Value) (p : Int × Int → Bool) (w : World) (eg : ∀ args w, (callFunc g args).run Tryz.prog w = .ok (.enter g args) w)
    (hz : Prs w A n zs) (hn : n ≤ 9223372036854775807) (hp : PredPrs Tryz.prog g lb p zs w) :
    Calls Tryz.prog 144 #[.slice A n c, .func (.func g) #[] lb] w fun e w' => e = .returned (.bool (zs.any p)) ∧ Below w.heap.size w w' := by
  have h1 := indexPrs_any A n c g zs lb p w eg hz hn hp
  have h2 := Um.idx_any p zs
  have H2 := Lib.hid h2
  clear h2 hz hp eg
  generalize zs.any p = r at *
  generalize Um.idx p zs = ix at *
  go_enter Tryz.func144, Tryz.ntmps144
  go_wp2_with (go_at_call 238; refine h1.mono ?_; rintro e w' ⟨rfl, hb'⟩)
  go_ret
  exact ⟨ret_bool H2.out, hb'⟩

/-- a pair can stand in a programme for so many lamps -/
def okI (n : Int) (x : Int × Int) : Bool := decide (0 ≤ x.1) && (decide (x.1 < x.2) && decide (x.2 < n))

set_option maxHeartbeats 1000000 in
theorem isPair_any (n x y : Int) (w : World) :
    Calls Tryz.prog 146 #[.int .i64 n, .agg #[.int .i64 x, .int .i64 y]] w fun e w' => e = .returned (.bool (okI n (x, y))) ∧ Below w.heap.size w w' := by
  by_cases h0 : x = 0 ∧ y = 0
  · obtain ⟨rfl, rfl⟩ := h0
    have hf : Hid (false = okI n (0, 0)) := Lib.hid (by simp [okI])
    go_enter Tryz.func146, Tryz.ntmps146
    go_wp2_with fail
    go_ret
    exact ⟨ret_bool hf.out, blA⟩
  have h00 : ¬ (x = 0 ∧ y = 0) := h0
  by_cases h1 : 0 ≤ x
  · by_cases h2 : x < y
    · have hf : Hid (decide (y < n) = okI n (x, y)) := Lib.hid (by simp [okI, h1, h2])
      by_cases hx : x = 0
      · subst hx
        clear h0 h00 h1
        go_enter Tryz.func146, Tryz.ntmps146
        go_wp2_with fail
        go_ret
        exact ⟨ret_bool hf.out, blA⟩
      · clear h0 h00
        go_enter Tryz.func146, Tryz.ntmps146
        go_wp2_with fail
        go_ret
        exact ⟨ret_bool hf.out, blA⟩
    · have hf : Hid (false = okI n (x, y)) := Lib.hid (by simp [okI, h2])
      by_cases hx : x = 0
      · have hy : ¬ y = 0 := fun h => h0 ⟨hx, h⟩
        subst hx
        clear h0 h00 h1
        go_enter Tryz.func146, Tryz.ntmps146
        go_wp2_with fail
        go_ret
        exact ⟨ret_bool hf.out, blA⟩
      · clear h0 h00
        go_enter Tryz.func146, Tryz.ntmps146
        go_wp2_with fail
        go_ret
        exact ⟨ret_bool hf.out, blA⟩
  · have hf : Hid (false = okI n (x, y)) := Lib.hid (by simp [okI, h1])
    have hx : ¬ x = 0 := by omega
    clear h0 h00
    go_enter Tryz.func146, Tryz.ntmps146
    go_wp2_with fail
    go_ret
    exact ⟨ret_bool hf.out, blA⟩

set_option maxHeartbeats 1000000 in
theorem checkC_any (n x y : Int) (b : Nat) (w : World) (hc : w.cell? ⟨b, 0, none⟩ = some (.int .i64 n)) :
    Calls Tryz.prog 145 #[.agg #[.int .i64 x, .int .i64 y], .pointer (some ⟨b, 0, none⟩)] w fun e w' => e = .returned (.bool (!okI n (x, y))) ∧ Below w.heap.size w w' := by
  have k1 := fun W => isPair_any n x y W
  have hlt := World.block_lt_of_cell? w _ hc
  dsimp only at hlt
  generalize okI n (x, y) = r at *
  go_enter Tryz.func145, Tryz.ntmps145
  go_wp2_with fail
  refine (k1 _).mono ?_
  rintro e w1 ⟨rfl, hb1⟩
  replace hbw : Below w.heap.size w w1 := blA
  clear hb1
  go_wp2_with fail
  go_ret
  exact ⟨rfl, blA⟩

/-- the error of a programme -/
def chkP (n : Int) (zs : List (Int × Int)) : Int := if n < 2 ∨ 12 < n then 2 else if 80 < zs.length then 6 else if zs.any (fun x => !okI n x) then 3 else 0

theorem chkP_else {l : Int} {zs : List (Int × Int)} (h : ¬ (l < 2 ∨ 12 < l)) (h2 : ¬ 80 < zs.length) : chkP l zs = if zs.any (fun x => !okI l x) then 3 else 0 := by
  unfold chkP; rw [if_neg h, if_neg h2]

set_option maxHeartbeats 1000000 in
theorem checkP_any (l : Int) (A : Option Addr) (n c : Nat) (zs : List (Int × Int)) (w : World) (hz : Prs w A n zs) (hn : n ≤ 9223372036854775807) :
    Calls Tryz.prog 81 #[.int .i64 l, .slice A n c] w fun e w' => e = .returned (.int .i64 (chkP l zs)) ∧ Below w.heap.size w w' := by
  by_cases h1 : l < 2
  · have Hf : Hid (2 = chkP l zs) := Lib.hid (by unfold chkP; rw [if_pos (.inl h1)])
    go_enter Tryz.func81, Tryz.ntmps81
    go_wp2_with fail
    go_ret
    exact ⟨ret_int Hf.out, blA⟩
  by_cases h2 : 12 < l
  · have Hf : Hid (2 = chkP l zs) := Lib.hid (by unfold chkP; rw [if_pos (.inr h2)])
    go_enter Tryz.func81, Tryz.ntmps81
    go_wp2_with fail
    go_ret
    exact ⟨ret_int Hf.out, blA⟩
  have h12 : ¬ (l < 2 ∨ 12 < l) := by omega
  by_cases h3 : 80 < n
  · have Hf : Hid (6 = chkP l zs) := Lib.hid (by unfold chkP; rw [if_neg h12, if_pos (by rw [hz.1]; exact h3)])
    have h3i : (80 : Int) < (n : Int) := by omega
    clear h12
    go_enter Tryz.func81, Tryz.ntmps81
    go_wp2_with fail
    go_ret
    exact ⟨ret_int Hf.out, blA⟩
  have hw1 : Below w.heap.size w (w.alloc (.cells #[.int .i64 l] 3)) := blA
  have k1 := containsPrs_any A n c 145 zs #[.pointer (some ⟨w.heap.size, 0, none⟩)] (fun x => !okI l x) _
    (enters_of Tryz.func145 (by kernel_rfl) rfl) (hz.below hw1) hn (fun x _ W hW => (checkC_any l x.1 x.2 w.heap.size W
      ((hW.cell (p := ⟨w.heap.size, 0, none⟩) (by simp)).trans (by simp))).mono fun e W' ⟨he, hb⟩ => ⟨he, hW.trans (hb.mono hW.size)⟩)
  have Hf : Hid ((if zs.any (fun x => !okI l x) then 3 else 0) = chkP l zs) := Lib.hid (chkP_else h12 (by have := hz.1; omega)).symm
  have h3i : ¬ (80 : Int) < (n : Int) := by omega
  clear h12 hz
  cases ha : zs.any (fun x => !okI l x) with
  | true =>
    rw [ha] at k1 Hf
    clear ha
    go_enter Tryz.func81, Tryz.ntmps81
    go_wp2_with fail
    refine k1.mono ?_
    rintro _ w2 ⟨rfl, hb2⟩
    go_wp2_with fail
    go_ret
    exact ⟨ret_int Hf.out, bstep hw1 hb2⟩
  | false =>
    rw [ha] at k1 Hf
    clear ha
    go_enter Tryz.func81, Tryz.ntmps81
    go_wp2_with fail
    refine k1.mono ?_
    rintro _ w2 ⟨rfl, hb2⟩
    go_wp2_with fail
    go_ret
    exact ⟨ret_int Hf.out, bstep hw1 hb2⟩

end Go.Proofs.YtlbjnkopbabcnaaGreatDoor
end

/- Walks: the reference's CheckProgramme; which programmes the law package looks at. -/
section
namespace Go.Proofs.YtlbjnkopbabcnaaGreatDoor
open Go.RowKit Go.Shelf
set_option linter.unusedSimpArgs false
set_option linter.unusedVariables false

set_option maxHeartbeats 1000000 in
theorem rcheckP_any (l : Int) (A : Option Addr) (n c : Nat) (zs : List (Int × Int)) (w : World) (hz : Prs w A n zs) (hn : n ≤ 9223372036854775807) :
    Calls Tryz.prog 293 #[.int .i64 l, .slice A n c] w fun e w' => e = .returned (.int .i64 (chkP l zs)) ∧ Below w.heap.size w w' := by
  by_cases h1 : l < 2
  · have Hf : Hid (2 = chkP l zs) := Lib.hid (by unfold chkP; rw [if_pos (.inl h1)])
    go_enter Tryz.func293, Tryz.ntmps293
    go_wp2_with fail
    go_ret
    exact ⟨ret_int Hf.out, blA⟩
  by_cases h2 : 12 < l
  · have Hf : Hid (2 = chkP l zs) := Lib.hid (by unfold chkP; rw [if_pos (.inr h2)])
    go_enter Tryz.func293, Tryz.ntmps293
    go_wp2_with fail
    go_ret
    exact ⟨ret_int Hf.out, blA⟩
  have h12 : ¬ (l < 2 ∨ 12 < l) := by omega
  by_cases h3 : 80 < n
  · have Hf : Hid (6 = chkP l zs) := Lib.hid (by unfold chkP; rw [if_neg h12, if_pos (by rw [hz.1]; exact h3)])
    have h3i : (80 : Int) < (n : Int) := by omega
    clear h12
    go_enter Tryz.func293, Tryz.ntmps293
    go_wp2_with fail
    go_ret
    exact ⟨ret_int Hf.out, blA⟩
  have H3 : Hid (∀ k x y, zs[k]? = some (x, y) → okI l (x, y) = false → 3 = chkP l zs) := Lib.hid (fun k x y hk ho => by
    rw [chkP_else h12 (by have := hz.1; omega), if_pos]
    exact List.any_eq_true.2 ⟨(x, y), List.mem_of_getElem? hk, by simp [ho]⟩)
  have H0 : Hid ((∀ i u, i < n → zs[i]? = some u → okI l u = true) → 0 = chkP l zs) := Lib.hid (fun h => by
    rw [chkP_else h12 (by have := hz.1; omega), if_neg]
    intro ha
    obtain ⟨u, hu, hb⟩ := List.any_eq_true.1 ha
    obtain ⟨i, hi, rfl⟩ := List.mem_iff_getElem.1 hu
    rw [h i _ (by have := hz.1; omega) (List.getElem?_eq_getElem hi)] at hb
    cases hb)
  have h3i : ¬ (80 : Int) < (n : Int) := by omega
  have Hz := Lib.hid hz
  clear h12 hz
  go_enter Tryz.func293, Tryz.ntmps293
  go_wp2_with fail
  go_loopw [5] (fun i wr => ∃ k : Nat, k ≤ n ∧ i = .int .i64 k ∧ Hid (∀ i u, i < k → zs[i]? = some u → okI l u = true) ∧ Below w.heap.size w wr) (fun i _ => n - (intOf i).toNat)
  case atStart => exact ⟨0, Nat.zero_le _, rfl, Lib.hid (fun i u hi => by omega), blA⟩
  case round =>
    obtain ⟨k, hk, rfl, hpre, hbl⟩ := hrel
    by_cases hlt : k < n
    · obtain ⟨b, off, x, y, rfl, hget, c0, c1⟩ := Hz.out.at_ hbl hlt
      have Hget := Lib.hid hget
      clear hget
      by_cases x1 : x < 0
      · have Hf : Hid (3 = chkP l zs) := Lib.hid (H3.out k x y Hget.out (by simp [okI]; omega))
        go_wp2_with fail
        go_quiet (fail)
        go_wp2_with fail
        go_ret
        exact ⟨ret_int Hf.out, blA⟩
      have d1 : decide (x < 0) = false := by simpa using x1
      by_cases x2 : y ≤ x
      · have Hf : Hid (3 = chkP l zs) := Lib.hid (H3.out k x y Hget.out (by simp [okI]; omega))
        go_wp2_with fail
        go_quiet (fail)
        go_wp2_with fail
        go_ret
        exact ⟨ret_int Hf.out, blA⟩
      have d2 : decide (y ≤ x) = false := by simpa using x2
      by_cases x3 : l ≤ y
      · have Hf : Hid (3 = chkP l zs) := Lib.hid (H3.out k x y Hget.out (by simp [okI]; omega))
        go_wp2_with fail
        go_quiet (fail)
        go_wp2_with fail
        go_ret
        exact ⟨ret_int Hf.out, blA⟩
      have d3 : decide (l ≤ y) = false := by simpa using x3
      have Hok : Hid (okI l (x, y) = true) := Lib.hid (by simp [okI]; omega)
      go_wp2_with fail
      go_quiet (fail)
      go_wp2_with fail
      go_roundw
      case rel =>
        refine ⟨k + 1, by omega, by go_num, Lib.hid (fun i u hi hy => ?_), by first | exact hbl.drew | exact bdrewN hbl _⟩
        by_cases hik : i < k
        · exact hpre.out i u hik hy
        · have : i = k := by omega
          subst this
          have := Hget.out
          rw [hy] at this
          injection this with this
          rw [this]; exact Hok.out
      case measure => simp [intOf]; omega
    · obtain rfl : k = n := by omega
      have Hf : Hid (0 = chkP l zs) := Lib.hid (H0.out hpre.out)
      go_wp2_with fail
      go_ret
      exact ⟨ret_int Hf.out, blA⟩

/-- a programme that statements look at -/
def fineP (l : Int) (zs : List (Int × Int)) : Bool := decide (chkP l zs = 0)

/-- a programme that is too large to try all rows of -/
def largeP (l : Int) (n : Nat) : Bool := (decide (7 < l) && decide (l ≤ 12)) || decide (90 < n)
end Go.Proofs.YtlbjnkopbabcnaaGreatDoor
end
