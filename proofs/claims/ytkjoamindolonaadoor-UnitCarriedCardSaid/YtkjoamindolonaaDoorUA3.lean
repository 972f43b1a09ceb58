/- Walks of package unit: product. -/
import Derived.Test.YtkjoamindolonaaDoorUA2
import Derived.RegionTactic
import Derived.BigRegion
import Derived.Laws.Rows
namespace Go.Proofs.YtkjoamindolonaaDoor
open Go.RowKit Go.Shelf
set_option linter.unusedSimpArgs false
set_option linter.unusedVariables false
open Um (frac S4 spanB spanE prodR mulR)

/-- a slice value that reads as a list of fractions -/
def Rats (w : World) (A : Option Addr) (n : Nat) (zs : List (Int × Int)) : Prop :=
  zs.length = n ∧ (0 < n → ∃ b off, A = some ⟨b, off, none⟩ ∧ b < w.heap.size ∧ ∀ i, i < n → w.cell? ⟨b, off + i * 2, none⟩ = some (.int .i64 (zs.getD i (0, 0)).1) ∧ w.cell? ⟨b, off + i * 2 + 1, none⟩ = some (.int .i64 (zs.getD i (0, 0)).2))

theorem Rats.below {w w' : World} {A : Option Addr} {n : Nat} {zs : List (Int × Int)} (h : Rats w A n zs) (hb : Below w.heap.size w w') : Rats w' A n zs := by
  refine ⟨h.1, fun hn => ?_⟩
  obtain ⟨b, off, rfl, hlt, hc⟩ := h.2 hn
  exact ⟨b, off, rfl, Nat.lt_of_lt_of_le hlt hb.size, fun i hi => ⟨(hb.cell (p := ⟨b, _, none⟩) hlt).trans (hc i hi).1, (hb.cell (p := ⟨b, _, none⟩) hlt).trans (hc i hi).2⟩⟩

/-- a fraction, or none -/
def RetR (r : Option (Int × Int)) : Ending := .returned (.tuple #[.agg #[.int .i64 (r.getD (0, 0)).1, .int .i64 (r.getD (0, 0)).2], .bool r.isSome])

set_option maxHeartbeats 2000000 in
theorem product_any (A : Option Addr) (n c : Nat) (zs : List (Int × Int)) (w : World) (hz : Rats w A n zs) (hn : n ≤ 9223372036854775807) (hr : ∀ x ∈ zs, 1 ≤ x.1 ∧ x.1 ≤ 1000000000 ∧ 1 ≤ x.2 ∧ x.2 ≤ 1000000000) :
    Calls Tryd.prog 74 #[.slice A n c] w fun e w' => e = RetR (prodR 1 1 zs) ∧ Below w.heap.size w w' := by
  have Hz := Lib.hid hz
  have Hr := Lib.hid hr
  clear hz hr
  go_enter Tryd.func74, Tryd.ntmps74
  go_wp2_with fail
  go_loopw [13] (fun i wr => ∃ (k : Nat) (p q : Int), k ≤ n ∧ i = .int .i64 k ∧ 1 ≤ p ∧ p ≤ 1000000000 ∧ 1 ≤ q ∧ q ≤ 1000000000 ∧ Hid (prodR 1 1 zs = prodR p q (zs.drop k)) ∧ Cs wr w.heap.size #[.int .i64 0, .int .i64 0] ∧ Cs wr (w.heap.size + 1) #[.int .i64 p, .int .i64 q] ∧ Below w.heap.size w wr) (fun i _ => n - (intOf i).toNat)
  case atStart => exact ⟨0, 1, 1, Nat.zero_le _, rfl, by omega, by omega, by omega, by omega, rfl, (Cs.new w _ _ _ rfl).alloc _, Cs.new (w.alloc _) _ _ _ (by simp), balloc (balloc (Below.refl _ _) _) _⟩
  case round =>
    obtain ⟨k, p, q, hk, rfl, p1, p2, q1, q2, hprod, B0, B1, hbl⟩ := hrel
    by_cases hlt : k < n
    · obtain ⟨b, off, rfl, hb, hc⟩ := Hz.out.2 (by omega)
      have hx := ((hbl.cell (p := ⟨b, off + k * 2, none⟩) hb).trans (hc k hlt).1)
      have hy := ((hbl.cell (p := ⟨b, off + k * 2 + 1, none⟩) hb).trans (hc k hlt).2)
      have hget : zs[k]? = some (zs.getD k (0, 0)) := by
        rw [List.getD_eq_getElem?_getD, List.getElem?_eq_getElem (by have := Hz.out.1; omega)]; rfl
      have hdrop : Hid (zs.drop k = zs.getD k (0, 0) :: zs.drop (k + 1)) := by
        show _ = _
        rw [List.drop_eq_getElem_cons (by have := Hz.out.1; omega)]
        congr 1
        rw [List.getElem?_eq_getElem (by have := Hz.out.1; omega)] at hget
        injection hget
      obtain ⟨x1, x2, y1, y2⟩ := Hr.out _ (List.mem_of_getElem? hget)
      clear hc hget
      generalize zs.getD k (0, 0) = z at *
      obtain ⟨x, y⟩ := z
      simp only at hx hy x1 x2 y1 y2
      obtain ⟨n1, n2⟩ := Um.mul_bd p1 p2 x1 x2
      obtain ⟨d1, d2⟩ := Um.mul_bd q1 q2 y1 y2
      have hzz := hbl.size
      have e1 : IntKind.i64.wrap (p * x) = p * x := IntWalk.i64_in _ (by omega)
      have e2 : IntKind.i64.wrap (q * y) = q * y := IntWalk.i64_in _ (by omega)
      go_wp2_with fail
      have B1a := B1.alloc (.cells #[.int .i64 x, .int .i64 y] 23)
      have Bx := Cs.new wr _ #[.int .i64 x, .int .i64 y] 23 rfl
      have c1 := B1a.c
      have c2 := Bx.c
      go_quiet (fail)
      clear e1 e2
      go_wp2_with fail
      refine (common_any _ _ _ (by omega) (by omega) (by omega) (by omega)).mono ?_
      rintro e w1 ⟨rfl, hb1⟩
      obtain ⟨g1, g2⟩ := Um.mulR_bd p1 q1 x1 y1
      have hm1 : Hid ((mulR p q x y).1 = p * x / (Int.gcd (p * x) (q * y) : Int)) := rfl
      have hm2 : Hid ((mulR p q x y).2 = q * y / (Int.gcd (p * x) (q * y) : Int)) := rfl
      generalize (Int.gcd (p * x) (q * y) : Int) = g at *
      have B1b := (B1a.drewN _).keep hb1
      have f1 : (p * x).tdiv g = p * x / g := Int.tdiv_eq_ediv_of_nonneg (by omega)
      have f2 : (q * y).tdiv g = q * y / g := Int.tdiv_eq_ediv_of_nonneg (by omega)
      have l1 : 0 ≤ p * x / g := Int.ediv_nonneg (by omega) (by omega)
      have l2 : 0 ≤ q * y / g := Int.ediv_nonneg (by omega) (by omega)
      have l3 : p * x / g ≤ p * x := Int.ediv_le_self _ (by omega)
      have l4 : q * y / g ≤ q * y := Int.ediv_le_self _ (by omega)
      have e1 : IntKind.i64.wrap (p * x / g) = p * x / g := IntWalk.i64_in _ (by omega)
      have e2 : IntKind.i64.wrap (q * y / g) = q * y / g := IntWalk.i64_in _ (by omega)
      have g0 : (g == 0) = false := by simp; omega
      have c1 := B1b.c
      have c2 := B1b.f
      go_wp2_with fail
      go_region
      go_wp2_with fail
      clear e1 e2 f1 f2 g0 c1 c2 l3 l4
      generalize p * x / g = p' at *
      generalize q * y / g = q' at *
      refine (isFraction_any _ _ _).mono ?_
      rintro e w2 ⟨rfl, hb2⟩
      have B1c : Cs w2 (w.heap.size + 1) #[.int .i64 p', .int .i64 q'] := (((B1b.set 0 (.int .i64 p') (by simp)).set 1 (.int .i64 q') (by simp)).drew).keep hb2
      have B0c := (((((B0.alloc (.cells #[.int .i64 x, .int .i64 y] 23)).drewN _).keep hb1).other (p := ⟨w.heap.size + 1, 0, none⟩) (by simp) (.int .i64 p')).other (p := ⟨w.heap.size + 1, 1, none⟩) (by simp) (.int .i64 q')).drew.keep hb2
      have hbw : Below w.heap.size w w2 := bstep (bset (bset (bstep (bdrewN (balloc hbl _) _) hb1) (by simp) _) (by simp) _).drew hb2
      have hpr : Hid (prodR 1 1 zs = if frac p' q' = true then prodR p' q' (zs.drop (k + 1)) else none) := by
        show _ = _
        rw [hprod.out, hdrop.out, prodR, hm1.out, hm2.out]
      cases hf : frac p' q' with
      | true =>
        obtain ⟨f1, f2, f3, f4⟩ := Um.frac_bd hf
        have Hf := Lib.hid hf
        clear hf
        go_wp2_with fail
        go_roundw
        case rel => exact ⟨k + 1, p', q', by omega, by go_num, f1, f2, f3, f4, by have := hpr.out; rw [if_pos Hf.out] at this; exact this, B0c, B1c, hbw⟩
        case measure => simp [intOf]; omega
      | false =>
        have Hf := Lib.hid hf
        clear hf
        have c1 := B0c.c
        have c2 := B0c.f
        go_wp2_with fail
        have hpn : prodR 1 1 zs = none := by have := hpr.out; rw [if_neg (by rw [Hf.out]; decide)] at this; exact this
        rw [hpn]
        exact bodyPost_ret (v := .tuple #[.agg #[.int .i64 0, .int .i64 0], .bool false]) (by simp [results, Tryd.results74, go_sem, c1, c2]) rfl ⟨rfl, bset (bset hbw (by simp) _) (by simp) _⟩
    · have : k = n := by omega
      subst this
      have c1 := B0.c
      have c2 := B0.f
      have c3 := B1.c
      have c4 := B1.f
      have hpr : Hid (prodR 1 1 zs = some (p, q)) := by
        show _ = _
        rw [hprod.out, List.drop_of_length_le (by have := Hz.out.1; omega)]; rfl
      go_wp2_with fail
      rw [hpr.out]
      exact bodyPost_ret (v := .tuple #[.agg #[.int .i64 p, .int .i64 q], .bool true]) (by simp [results, Tryd.results74, go_sem, c1, c2]) rfl ⟨rfl, bset (bset hbl (by simp) _) (by simp) _⟩

end Go.Proofs.YtkjoamindolonaaDoor
