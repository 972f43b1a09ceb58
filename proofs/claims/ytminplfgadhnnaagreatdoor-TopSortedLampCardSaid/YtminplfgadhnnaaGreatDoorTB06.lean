/- BR4 BR5 BR6 -/
import Derived.Test.YtminplfgadhnnaaGreatDoorTB05
/- Walks of the reference of layer 2: Test. -/
section
namespace Go.Proofs.YtminplfgadhnnaaGreatDoor
open Go.RowKit Go.Shelf
set_option linter.unusedSimpArgs false
set_option linter.unusedVariables false
open Bm (Pr cex runL OkP rowL tab b2i ordB pickB unord bfP fstBad runB)

theorem chk_range {l : Int} {zs : List (Int × Int)} : 0 ≤ chkP l zs ∧ chkP l zs ≤ 6 := by
  unfold chkP; split
  · omega
  · split
    · omega
    · split <;> omega

/-- a programme goes wrong on a row of dark and bright lamps, as it has become -/
def badT (n m : Nat) (r : Nat → Bool) : Bool := if m = n then unord n (fun _ _ => true) r else unord n (bfP m) r
/-- the first row of dark and bright lamps on which a programme goes wrong -/
def firstS (n : Nat) (bad : Nat → Bool) : List Int × Int := match fstBad n bad with
  | some k => (rowL n k, 0)
  | none => ([], 5)
theorem firstS_some {n k : Nat} {bad : Nat → Bool} (hk : k < 2 ^ n) (hb : bad k = true) (hj : ∀ j, j < k → bad j = false) : firstS n bad = (rowL n k, 0) := by
  unfold firstS; rw [Bm.fstBad_some.2 ⟨hk, hb, hj⟩]
theorem firstS_none {n : Nat} {bad : Nat → Bool} (hj : ∀ j, j < 2 ^ n → bad j = false) : firstS n bad = ([], 5) := by
  unfold firstS; rw [Bm.fstBad_none.2 hj]
/-- the row that Test names, or the error -/
def testE (l : Int) (zs : List (Int × Int)) (best : Int) : List Int × Int :=
  if chkP l zs ≠ 0 then ([], chkP l zs) else if best < 1 ∨ l < best then ([], 3) else firstS l.toNat (fun k => badT l.toNat best.toNat (runB (natP zs) (tab l.toNat k)))

theorem ord_bad {n k : Nat} {p : List Pr} (hp : OkP n p) : (!ordB (runL p (rowL n k))) = unord n (fun _ _ => true) (runB p (tab n k)) := by
  have hl : (runL p (rowL n k)).length = n := by rw [Bm.runL_len, Bm.rowL_len]
  have h1 : ordB (runL p (rowL n k)) = false ↔ unord n (fun _ _ => true) (runB p (tab n k)) = true := by
    rw [Bm.ordB_un, hl, ← Bm.unF_b2i]
    constructor
    · rintro ⟨a, b, h1, h2, h3, h4⟩; exact ⟨a, b, h1, h2, h3, by show b2i (runB p (tab n k) b) < b2i (runB p (tab n k) a); rw [← Bm.runL_row hp h1, ← Bm.runL_row hp (show b < n by omega)]; exact h4⟩
    · rintro ⟨a, b, h1, h2, h3, h4⟩; exact ⟨a, b, h1, h2, h3, by show (runL p (rowL n k)).getD b 0 < (runL p (rowL n k)).getD a 0; rw [Bm.runL_row hp h1, Bm.runL_row hp (show b < n by omega)]; exact h4⟩
  revert h1
  cases ordB (runL p (rowL n k)) <;> cases unord n (fun _ _ => true) (runB p (tab n k)) <;> simp
theorem pick_bad {n k m : Nat} {p : List Pr} (hp : OkP n p) (hm : m ≤ n) : (!pickB (runL p (rowL n k)) m) = unord n (bfP m) (runB p (tab n k)) := by
  have hl : (runL p (rowL n k)).length = n := by rw [Bm.runL_len, Bm.rowL_len]
  have h1 : pickB (runL p (rowL n k)) m = false ↔ unord n (bfP m) (runB p (tab n k)) = true := by
    rw [Bm.pickB_un (by rw [hl]; exact hm), hl, ← Bm.unF_b2i]
    constructor
    · rintro ⟨a, b, h1, h2, h3, h4⟩; exact ⟨a, b, h1, h2, h3, by show b2i (runB p (tab n k) b) < b2i (runB p (tab n k) a); rw [← Bm.runL_row hp h1, ← Bm.runL_row hp (show b < n by omega)]; exact h4⟩
    · rintro ⟨a, b, h1, h2, h3, h4⟩; exact ⟨a, b, h1, h2, h3, by show (runL p (rowL n k)).getD b 0 < (runL p (rowL n k)).getD a 0; rw [Bm.runL_row hp h1, Bm.runL_row hp (show b < n by omega)]; exact h4⟩
  revert h1
  cases pickB (runL p (rowL n k)) m <;> cases unord n (bfP m) (runB p (tab n k)) <;> simp
theorem pow_le12 {n : Nat} (h : n ≤ 12) : 2 ^ n ≤ 4096 := Nat.pow_le_pow_right (by omega) h

theorem shl_one {n N : Nat} (h : 2 ^ n = N) (hN : N ≤ 4096) : wrap64 ((2 : Int) ^ n) = (N : Int) := by
  have e : ((2 : Int) ^ n) = ((2 ^ n : Nat) : Int) := by simp
  rw [e, h]
  exact IntWalk.wrap64_in _ ⟨by omega, by omega⟩

set_option maxRecDepth 100000 in
set_option maxHeartbeats 4000000 in
theorem rtest_ok (A : Option Addr) (n c m C : Nat) (p : List Pr) (w : World) (hz : Prs w A c (cst p)) (hc : c ≤ 80) (h2 : 2 ≤ n) (h12 : n ≤ 12) (hp : OkP n p) (hm1 : 1 ≤ m) (hm : m ≤ n) :
    Calls Tryz.prog 77 #[.int .i64 (n : Nat), .slice A c C, .int .i64 (m : Nat)] w (RetLE (firstS n (fun k => badT n m (runB p (tab n k)))).1 (firstS n (fun k => badT n m (runB p (tab n k)))).2 w) := by
  have hpl : p.length = c := by have := hz.1; rwa [cst_len] at this
  have k1 := fun (W : World) (hb' : Below w.heap.size w W) => rcheckP_any (n : Int) A c C (cst p) W (hz.below hb') (by omega)
  rw [chk_of h2 h12 hp (by omega)] at k1
  have hN := pow_le12 h12
  have kr := fun (W : World) (k : Nat) (hk : k < 2 ^ n) => rrow_any n k W h2 h12 (by omega)
  have ku := fun (W : World) (hb' : Below w.heap.size w W) (B : Option Addr) (C' : Nat) (ys : List Int) (hy : Ints W B n ys) => rrun_any A B n C' c C p ys W (hz.below hb') hc hy h2 h12 hp
  have Hno := Lib.hid (fun (h : ∀ j, j < 2 ^ n → badT n m (runB p (tab n j)) = false) => firstS_none h)
  have Hso := Lib.hid (fun k (hk : k < 2 ^ n) (hb : badT n m (runB p (tab n k)) = true) (h : ∀ j, j < k → badT n m (runB p (tab n j)) = false) => firstS_some (bad := fun k => badT n m (runB p (tab n k))) hk hb h)
  have Ho := Lib.hid (fun k => ord_bad (n := n) (k := k) hp)
  have Hpk := Lib.hid (fun k => pick_bad (n := n) (k := k) hp hm)
  generalize firstS n (fun k => badT n m (runB p (tab n k))) = R at *
  have d1 : decide ((m : Int) < 1) = false := by simp; omega
  have d2 : decide (n < m) = false := by simp; omega
  obtain ⟨N, hNN⟩ : ∃ N, 2 ^ n = N := ⟨_, rfl⟩
  rw [hNN] at hN kr Hno Hso
  have hsh := shl_one hNN hN
  clear hpl hNN
  go_enter Tryz.func77, Tryz.ntmps77
  go_wp2_with fail
  refine (k1 _ blA).mono ?_
  rintro _ w1 ⟨rfl, hb1⟩
  replace hbw : Below w.heap.size w w1 := blA
  clear hb1
  clear k1
  go_wp2_with fail
  go_loopw [8] (fun s8 wx => ∃ (k : Nat) (W : World), k ≤ N ∧ s8 = .int .i64 (k : Nat) ∧ Hid (W = wx) ∧ Hid (∀ j, j < k → badT n m (runB p (tab n j)) = false) ∧ Below w.heap.size w W) (fun s8 _ => N - (intOf s8).toNat)
  case atStart => exact ⟨0, _, Nat.zero_le _, rfl, Lib.hid rfl, Lib.hid (fun j hj => absurd hj (by omega)), blA⟩
  case round =>
    clear hbw
    obtain ⟨k, W, hk, rfl, HW, HK, hbw⟩ := hrel
    obtain rfl := HW.out
    clear HW
    by_cases hkn : k < N
    · go_wp2_with fail
      refine (kr _ k hkn).mono ?_
      rintro _ w2 ⟨B2, n2, c2, rfl, h2i, -, hb2⟩
      obtain rfl : n = n2 := by have := h2i.1; rw [Bm.rowL_len] at this; exact this
      replace hbw : Below w.heap.size w w2 := blA
      clear hb2
      go_wp2_with fail
      refine (ku _ hbw _ _ _ h2i).mono ?_
      rintro _ w3 ⟨B3, n3, c3, rfl, h3i, -, hb3⟩
      obtain rfl : n = n3 := by have := h3i.1; rw [Bm.runL_len, Bm.rowL_len] at this; exact this
      replace hbw : Below w.heap.size w w3 := blA
      clear hb3
      clear h2i
      by_cases hmn : m < n
      · have k5 := fun (W : World) (hb : Below w3.heap.size w3 W) => rpicked_any B3 n c3 m (runL p (rowL n k)) W (h3i.below hb) (by omega) hm
        have hbad : Hid ((!pickB (runL p (rowL n k)) m) = badT n m (runB p (tab n k))) := Lib.hid (by rw [Hpk.out, badT, if_neg (by omega)])
        have x1 : decide (m < n) = true := by simpa using hmn
        have x2 : ((m : Int) == (n : Int)) = false := by simp; omega
        have x3 : ¬ (m : Int) = (n : Int) := by omega
        have x4 : ¬ m = n := by omega
        generalize pickB (runL p (rowL n k)) m = b at *
        go_wp2_with fail
        refine (k5 _ (Below.refl _ _)).mono ?_
        rintro _ w4 ⟨rfl, hb4⟩
        replace hbw : Below w.heap.size w w4 := blA
        clear hb4
        clear k5 h3i
        cases b with
        | true =>
          have hb0 : Hid (badT n m (runB p (tab n k)) = false) := Lib.hid hbad.out.symm
          go_wp2_with fail
          go_roundw
          case rel =>
            refine ⟨k + 1, _, by omega, by go_num, Lib.hid rfl, Lib.hid (fun j hj => ?_), blA⟩
            by_cases e : j = k
            · subst e; exact hb0.out
            · exact HK.out j (by omega)
          case measure => simp [intOf]; omega
        | false =>
          have hR := Hso.out k hkn hbad.out.symm HK.out
          subst hR
          clear hbad HK
          go_wp2_with fail
          refine (kr _ k hkn).mono ?_
          rintro _ w5 ⟨B5, n5, c5, rfl, h5i, hn5, hb5⟩
          replace hbw : Below w.heap.size w w5 := blA
          clear hb5
          go_wp2_with fail
          go_ret2
          exact ⟨_, _, _, rfl, h5i, hn5, hbw⟩
      · obtain rfl : m = n := by omega
        have k5 := fun (W : World) (hb : Below w3.heap.size w3 W) => rordered_any B3 m c3 (runL p (rowL m k)) W (h3i.below hb) (by omega)
        have hbad : Hid ((!ordB (runL p (rowL m k))) = badT m m (runB p (tab m k))) := Lib.hid (by rw [Ho.out, badT, if_pos rfl])
        have x1 : decide (m < m) = false := by simp
        have x2 : ((m : Int) == (m : Int)) = true := by simp
        generalize ordB (runL p (rowL m k)) = b at *
        go_wp2_with fail
        refine (k5 _ (Below.refl _ _)).mono ?_
        rintro _ w4 ⟨rfl, hb4⟩
        replace hbw : Below w.heap.size w w4 := blA
        clear hb4
        clear k5 h3i
        cases b with
        | true =>
          have hb0 : Hid (badT m m (runB p (tab m k)) = false) := Lib.hid hbad.out.symm
          go_wp2_with fail
          go_roundw
          case rel =>
            refine ⟨k + 1, _, by omega, by go_num, Lib.hid rfl, Lib.hid (fun j hj => ?_), blA⟩
            by_cases e : j = k
            · subst e; exact hb0.out
            · exact HK.out j (by omega)
          case measure => simp [intOf]; omega
        | false =>
          have hR := Hso.out k hkn hbad.out.symm HK.out
          subst hR
          clear hbad HK
          go_wp2_with fail
          refine (kr _ k hkn).mono ?_
          rintro _ w5 ⟨B5, n5, c5, rfl, h5i, hn5, hb5⟩
          replace hbw : Below w.heap.size w w5 := blA
          clear hb5
          go_wp2_with fail
          go_ret2
          exact ⟨_, _, _, rfl, h5i, hn5, hbw⟩
    · obtain rfl : k = N := by omega
      have hR := Hno.out HK.out
      subst hR
      clear HK
      go_wp2_with fail
      go_ret2
      exact RetLE.no hbw rfl

end Go.Proofs.YtminplfgadhnnaaGreatDoor
end

/- Walks of the reference of layer 2: Test, with its errors; Merge. -/
section
namespace Go.Proofs.YtminplfgadhnnaaGreatDoor
open Go.RowKit Go.Shelf
set_option linter.unusedSimpArgs false
set_option linter.unusedVariables false
open Bm (Pr cex runL OkP rowL tab b2i ordB pickB unord bfP fstBad runB)

set_option maxHeartbeats 4000000 in
theorem rtest_any (l : Int) (A : Option Addr) (c C : Nat) (zs : List (Int × Int)) (best : Int) (w : World) (hz : Prs w A c zs) (hc : c ≤ 9223372036854775807) :
    Calls Tryz.prog 77 #[.int .i64 l, .slice A c C, .int .i64 best] w (RetLE (testE l zs best).1 (testE l zs best).2 w) := by
  have k1 := fun (W : World) (hb' : Below w.heap.size w W) => rcheckP_any l A c C zs W (hz.below hb') hc
  by_cases h0 : chkP l zs = 0
  · obtain ⟨n, p, rfl, h2, h12, rfl, hp, hl⟩ := chk_ok h0
    by_cases hb : best < 1 ∨ (n : Int) < best
    · have e : testE n (cst p) best = ([], 3) := by unfold testE; rw [if_neg (by simpa using h0), if_pos hb]
      rw [e]
      rw [h0] at k1
      clear e hz h0
      by_cases b1 : best < 1
      · clear hb
        go_enter Tryz.func77, Tryz.ntmps77
        go_wp2_with fail
        refine (k1 _ blA).mono ?_
        rintro _ w1 ⟨rfl, hb1⟩
        clear k1
        go_wp2_with fail
        go_ret2
        exact RetLE.no blA rfl
      · have b2 : (n : Int) < best := by omega
        have b3 : decide (best < 1) = false := by simpa using b1
        clear hb
        go_enter Tryz.func77, Tryz.ntmps77
        go_wp2_with fail
        refine (k1 _ blA).mono ?_
        rintro _ w1 ⟨rfl, hb1⟩
        clear k1
        go_wp2_with fail
        go_ret2
        exact RetLE.no blA rfl
    · obtain ⟨m, rfl⟩ : ∃ m : Nat, best = (m : Int) := ⟨best.toNat, by omega⟩
      have e : testE n (cst p) m = firstS n (fun k => badT n m (runB p (tab n k))) := by
        unfold testE; rw [if_neg (by simpa using h0), if_neg hb, natP_cst, Int.toNat_natCast, Int.toNat_natCast]
      rw [e]
      exact rtest_ok A n c m C p w hz (by have := hz.1; rw [cst_len] at this; omega) h2 h12 hp (by omega) (by omega)
  · have e : testE l zs best = ([], chkP l zs) := by unfold testE; rw [if_pos h0]
    rw [e]
    generalize chkP l zs = q at *
    have x1 : (q != 0) = true := by simpa using h0
    have x2 : (q == 0) = false := by simpa using h0
    clear e hz
    go_enter Tryz.func77, Tryz.ntmps77
    go_wp2_with fail
    refine (k1 _ blA).mono ?_
    rintro _ w1 ⟨rfl, hb1⟩
    replace hbw : Below w.heap.size w w1 := blA
    clear hb1
    go_wp2_with fail
    refine (k1 _ hbw).mono ?_
    rintro _ w2 ⟨rfl, hb2⟩
    clear k1
    go_wp2_with fail
    go_ret2
    exact RetLE.no blA rfl

/-- two places are in one part -/
def ins (f : Nat) (i k : Nat) : Bool := decide (i < f) == decide (k < f)
/-- a row of two parts in order is not put in order -/
def badM (n f : Nat) (p : List Pr) (k : Nat) : Bool := !unord n (ins f) (tab n k) && unord n (fun _ _ => true) (runB p (tab n k))
/-- the row that Merge names, or the error -/
def mergeE (l : Int) (zs : List (Int × Int)) (first : Int) : List Int × Int :=
  if chkP l zs ≠ 0 then ([], chkP l zs) else if first < 1 ∨ l - 1 < first then ([], 3) else firstS l.toNat (badM l.toNat first.toNat (natP zs))

theorem ins_ord {n k f : Nat} (hf : f ≤ n) : (ordB ((rowL n k).take f) && ordB ((rowL n k).drop f)) = !unord n (ins f) (tab n k) := by
  have hl := Bm.rowL_len n k
  have h1 : (ordB ((rowL n k).take f) && ordB ((rowL n k).drop f)) = false ↔ unord n (ins f) (tab n k) = true := by
    rw [Bool.and_eq_false_iff, Bm.ordB_un, Bm.ordB_un, Bm.unord_iff]
    have e1 : ((rowL n k).take f).length = f := by rw [List.length_take]; omega
    have e2 : ((rowL n k).drop f).length = n - f := by rw [List.length_drop]; omega
    rw [e1, e2]
    have g1 : ∀ i, i < f → ((rowL n k).take f).getD i 0 = b2i (tab n k i) := fun i hi => by
      rw [List.getD_eq_getElem?_getD, List.getElem?_take_of_lt hi, ← List.getD_eq_getElem?_getD, Bm.rowL_get (by omega)]
    have g2 : ∀ i, i < n - f → ((rowL n k).drop f).getD i 0 = b2i (tab n k (f + i)) := fun i hi => by
      rw [List.getD_eq_getElem?_getD, List.getElem?_drop, ← List.getD_eq_getElem?_getD, Bm.rowL_get (by omega)]
    have g3 : ∀ i j, b2i (tab n k i) < b2i (tab n k j) → tab n k j = true ∧ tab n k i = false := fun i j h => by
      revert h; cases tab n k i <;> cases tab n k j <;> simp [b2i]
    constructor
    · rintro (⟨a, b, h1, h2, -, h4⟩ | ⟨a, b, h1, h2, -, h4⟩)
      · have h4 : ((rowL n k).take f).getD b 0 < ((rowL n k).take f).getD a 0 := h4
        rw [g1 a h1, g1 b (by omega)] at h4
        obtain ⟨q1, q2⟩ := g3 _ _ h4
        exact ⟨a, b, by omega, h2, by simp [ins, h1, show b < f by omega], q1, q2⟩
      · have h4 : ((rowL n k).drop f).getD b 0 < ((rowL n k).drop f).getD a 0 := h4
        rw [g2 a h1, g2 b (by omega)] at h4
        obtain ⟨q1, q2⟩ := g3 _ _ h4
        exact ⟨f + a, f + b, by omega, by omega, by simp [ins]; omega, q1, q2⟩
    · rintro ⟨a, b, h1, h2, h3, q1, q2⟩
      by_cases ha : a < f
      · refine .inl ⟨a, b, ha, h2, rfl, ?_⟩
        show ((rowL n k).take f).getD b 0 < ((rowL n k).take f).getD a 0
        rw [g1 a ha, g1 b (by omega), q1, q2]; decide
      · have hb : ¬ b < f := by
          intro hb
          simp [ins, ha, hb] at h3
        refine .inr ⟨a - f, b - f, by omega, by omega, rfl, ?_⟩
        show ((rowL n k).drop f).getD (b - f) 0 < ((rowL n k).drop f).getD (a - f) 0
        rw [g2 _ (by omega), g2 _ (by omega), show f + (a - f) = a by omega, show f + (b - f) = b by omega, q1, q2]; decide
  revert h1
  cases (ordB ((rowL n k).take f) && ordB ((rowL n k).drop f)) <;> cases unord n (ins f) (tab n k) <;> simp

theorem Ints.pre {w : World} {b o n : Nat} {zs : List Int} (h : Ints w (some ⟨b, o, none⟩) n zs) (f : Nat) (hf : f ≤ n) : Ints w (some ⟨b, o, none⟩) f (zs.take f) := by
  refine ⟨by rw [List.length_take]; have := h.1; omega, fun hp => ?_⟩
  obtain ⟨b', o', e, hlt, hc⟩ := h.2 (by omega)
  injection e with e
  injection e with e1 e2
  subst e1 e2
  refine ⟨b, o, rfl, hlt, fun i hi => ?_⟩
  rw [hc i (by omega), List.getD_eq_getElem?_getD, List.getD_eq_getElem?_getD, List.getElem?_take_of_lt hi]
theorem Ints.suf {w : World} {b o n : Nat} {zs : List Int} (h : Ints w (some ⟨b, o, none⟩) n zs) (f : Nat) (hf : f ≤ n) : Ints w (some ⟨b, o + f, none⟩) (n - f) (zs.drop f) := by
  refine ⟨by rw [List.length_drop]; have := h.1; omega, fun hp => ?_⟩
  obtain ⟨b', o', e, hlt, hc⟩ := h.2 (by omega)
  injection e with e
  injection e with e1 e2
  subst e1 e2
  refine ⟨b, o + f, rfl, hlt, fun i hi => ?_⟩
  rw [Nat.add_assoc, hc (f + i) (by omega), List.getD_eq_getElem?_getD, List.getD_eq_getElem?_getD, List.getElem?_drop]

end Go.Proofs.YtminplfgadhnnaaGreatDoor
end

/- Walks of the reference of layer 2: Exchanges, Useless, Trim. -/
section
namespace Go.Proofs.YtminplfgadhnnaaGreatDoor
open Go.RowKit Go.Shelf
set_option linter.unusedSimpArgs false
set_option linter.unusedVariables false
open Bm (Pr cex runL OkP rowL tab b2i runB usd exch uslL trmL stp)

theorem Prs.pre {w : World} {b o n : Nat} {zs : List (Int × Int)} (h : Prs w (some ⟨b, o, none⟩) n zs) (f : Nat) (hf : f ≤ n) : Prs w (some ⟨b, o, none⟩) f (zs.take f) := by
  refine ⟨by rw [List.length_take]; have := h.1; omega, fun hp => ?_⟩
  obtain ⟨b', o', e, hlt, hc⟩ := h.2 (by omega)
  injection e with e
  injection e with e1 e2
  subst e1 e2
  refine ⟨b, o, rfl, hlt, fun i x y hi => ?_⟩
  have hif : i < f := by
    have := (List.getElem?_eq_some_iff.1 hi).1
    rw [List.length_take] at this; omega
  exact hc i x y (by rwa [List.getElem?_take_of_lt hif] at hi)
theorem cst_take (p : List Pr) (f : Nat) : (cst p).take f = cst (p.take f) := by simp [cst]
theorem exch_row {n k : Nat} {pre : List Pr} {x : Pr} (hp : OkP n pre) (hx : x.1 < x.2 ∧ x.2 < n) : decide ((runL pre (rowL n k)).getD x.1 0 < (runL pre (rowL n k)).getD x.2 0) = exch pre x n k := by
  rw [Bm.runL_row hp hx.2, Bm.runL_row hp (show x.1 < n by omega)]
  unfold exch b2i
  cases runB pre (tab n k) x.1 <;> cases runB pre (tab n k) x.2 <;> rfl
theorem usd_true {n k : Nat} {pre : List Pr} {x : Pr} (hk : k < 2 ^ n) (h : exch pre x n k = true) : usd n pre x = true := by
  unfold usd; exact List.any_eq_true.2 ⟨k, by simpa using hk, h⟩
theorem usd_none {n : Nat} {pre : List Pr} {x : Pr} (h : ∀ k, k < 2 ^ n → exch pre x n k = false) : usd n pre x = false := by
  unfold usd; rw [List.any_eq_false]
  intro k hk
  simp [h k (by simpa using hk)]

/-- a list of pairs and an error are returned -/
def RetPE (l : List (Int × Int)) (er : Int) (w : World) (e : Ending) (w' : World) : Prop :=
  ∃ A n c, e = .returned (.tuple #[.slice A n c, .int .i64 er]) ∧ Prs w' A n l ∧ (n ≤ 1000 ∧ n ≤ c) ∧ Below w.heap.size w w'
theorem RetPE.no {er : Int} {w w' : World} (hb : Below w.heap.size w w') {er' : Int} (h : er' = er) : RetPE [] er w (.returned (.tuple #[.slice none 0 0, .int .i64 er'])) w' :=
  ⟨none, 0, 0, by rw [h], Prs.nil _ _, ⟨by omega, by omega⟩, hb⟩
def useE (l : Int) (zs : List (Int × Int)) : List Int × Int := if chkP l zs ≠ 0 then ([], chkP l zs) else ((uslL l.toNat [] 0 (natP zs)).map fun x => ((x : Nat) : Int), 0)
def trimE (l : Int) (zs : List (Int × Int)) : List (Int × Int) × Int := if chkP l zs ≠ 0 then ([], chkP l zs) else (cst (trmL l.toNat [] (natP zs)), 0)

/-- the first pairs' useless ones, and the others -/
theorem usl_snoc (n : Nat) : ∀ (p pre : List Pr) (i : Nat) (x : Pr), uslL n pre i (p ++ [x]) = uslL n pre i p ++ if usd n (pre ++ p) x then [] else [i + p.length]
  | [], pre, i, x => by
    unfold uslL
    rw [List.nil_append, stp, stp, stp, List.append_nil]
    cases usd n pre x <;> rfl
  | y :: p, pre, i, x => by
    have ih := usl_snoc n p (pre ++ [y]) (i + 1) x
    unfold uslL at ih ⊢
    rw [List.cons_append, stp, stp, List.filter_cons, List.filter_cons]
    rw [show pre ++ y :: p = pre ++ [y] ++ p by simp, show i + (y :: p).length = i + 1 + p.length by simp; omega]
    cases usd n pre y with
    | true => simpa using ih
    | false => simpa using ih
theorem trm_snoc (n : Nat) : ∀ (p pre : List Pr) (x : Pr), trmL n pre (p ++ [x]) = trmL n pre p ++ if usd n (pre ++ p) x then [x] else []
  | [], pre, x => by
    rw [List.nil_append, trmL, trmL, trmL, List.append_nil]
    cases usd n pre x <;> rfl
  | y :: p, pre, x => by
    have ih := trm_snoc n p (pre ++ [y]) x
    rw [List.cons_append, trmL, trmL, ih]
    rw [show pre ++ y :: p = pre ++ [y] ++ p by simp]
    cases usd n pre y <;> simp

theorem take_get {p : List Pr} {i : Nat} {x : Pr} (h : p[i]? = some x) : p.take i ++ [x] = p.take (i + 1) := by
  rw [List.take_add_one, h]; rfl
theorem usl_step {n i : Nat} {p : List Pr} {x : Pr} (h : p[i]? = some x) : uslL n [] 0 (p.take (i + 1)) = uslL n [] 0 (p.take i) ++ if usd n (p.take i) x then [] else [i] := by
  have h1 := usl_snoc n (p.take i) [] 0 x
  have h2 : (p.take i).length = i := by have := (List.getElem?_eq_some_iff.1 h).1; rw [List.length_take]; omega
  rw [take_get h, h2, Nat.zero_add, List.nil_append] at h1
  exact h1
theorem trm_step {n i : Nat} {p : List Pr} {x : Pr} (h : p[i]? = some x) : trmL n [] (p.take (i + 1)) = trmL n [] (p.take i) ++ if usd n (p.take i) x then [x] else [] := by
  have h1 := trm_snoc n (p.take i) [] x
  rw [take_get h, List.nil_append] at h1
  exact h1

end Go.Proofs.YtminplfgadhnnaaGreatDoor
end
