/- The walk of package unit's simplest. -/
import Derived.Test.YtkjoamindolonaaDoorUApp
import Derived.Test.YtkjoamindolonaaDoorUA7
import Derived.Deep.DeepCutAuto
namespace Go.Proofs.YtkjoamindolonaaDoor
open Go.RowKit Go.Shelf
set_option linter.unusedSimpArgs false
set_option linter.unusedVariables false
open Um (frac S4 spanB spanE sp)

/-- a slice of numbers is handed back -/
def RetInts (zs : List Int) (w : World) (e : Ending) (w' : World) : Prop := ∃ g c, e = .returned (.slice (some ⟨g, 0, none⟩) zs.length c) ∧ Ints w' (some ⟨g, 0, none⟩) zs.length zs ∧ zs.length ≤ c ∧ Below w.heap.size w w'

theorem RetInts.app {w wR : World} {x0 : Int} {L : List Int} {gr cr : Nat} (hI : Ints wR (some ⟨gr, 0, none⟩) (1 + L.length) ([x0] ++ L)) (hc : 1 + L.length ≤ cr) (hb : Below w.heap.size w wR) :
    RetInts (x0 :: L) w (.returned (.slice (some ⟨gr, 0, none⟩) (1 + L.length) cr)) wR := by
  rw [Nat.add_comm] at hI hc ⊢
  exact ⟨gr, cr, rfl, hI, hc, hb⟩

theorem sp_len (k : Nat) : ∀ (a b c d : Int), (sp k a b c d).length ≤ k := by
  induction k with
  | zero => intro a b c d; simp [sp]
  | succ k ih =>
    intro a b c d
    rw [sp]
    split
    · simp
    · split
      · simp
      · have := ih d (c - a / b * d) b (a % b); simp; omega

set_option maxHeartbeats 2000000 in
theorem simplest_any (k : Nat) : ∀ (a b c d : Int) (w : World), 1 ≤ a → a ≤ 1000000000 → 1 ≤ b → b ≤ 1000000000 → 1 ≤ c → c ≤ 1000000000 → 1 ≤ d → d ≤ 1000000000 → a * d ≤ c * b → b + d ≤ k → (sp k a b c d).length ≤ 70 →
    Calls Tryd.prog 54 #[.agg #[.int .i64 a, .int .i64 b], .agg #[.int .i64 c, .int .i64 d]] w (RetInts (sp k a b c d) w) := by
  induction k with
  | zero => intro a b c d w _ _ hb _ _ _ hd _ _ hk; omega
  | succ k ih =>
    intro a b c d w a1 a2 b1 b2 c1 c2 d1 d2 hle hk hlen
    have hdm := Int.mul_ediv_add_emod a b
    have hr0 := Int.emod_nonneg a (b := b) (by omega)
    have hr1 := Int.emod_lt_of_pos a (by omega : 0 < b)
    have hw0 : 0 ≤ a / b := Int.ediv_nonneg (by omega) (by omega)
    have hw1 : a / b ≤ a := Int.ediv_le_self _ (by omega)
    by_cases h0 : a % b = 0
    · have hsp : sp (k + 1) a b c d = [a / b] := by rw [sp, if_pos h0]
      rw [hsp]
      have e0 : (a % b == 0) = true := by simp [h0]
      clear hsp h0 ih hdm hlen hle
      go_enter Tryd.func54, Tryd.ntmps54
      go_wp2_with fail
      go_ret
      exact ⟨_, _, rfl, Ints.new1 _ _ _ _ (by simp), Nat.le_refl _, (by repeat (first | with_reducible exact Below.refl _ _ | with_reducible assumption | with_reducible refine balloc ?_ _ | with_reducible refine bdrewN ?_ _ | with_reducible refine Below.drew ?_ | (with_reducible refine bset ?_ ?_ _; rotate_left; focus (first | assumption | omega | (simp; done) | (simp; omega))) | with_reducible refine bstep ?_ (by assumption) | assumption))⟩
    · have e0 : (a % b == 0) = false := by simp [h0]
      have hm0 : 0 ≤ (a / b + 1) * d := Int.mul_nonneg (by omega) (by omega)
      have hm1 : (a / b + 1) * d ≤ (1000000000 + 1) * 1000000000 := Int.mul_le_mul (by omega) d2 (by omega) (by omega)
      by_cases h1 : (a / b + 1) * d ≤ c
      · have hsp : sp (k + 1) a b c d = [a / b + 1] := by rw [sp, if_neg h0, if_pos h1]
        rw [hsp]
        clear hsp h0 ih hdm hlen hle
        go_enter Tryd.func54, Tryd.ntmps54
        go_wp2_with fail
        go_ret
        exact ⟨_, _, rfl, Ints.new1 _ _ _ _ (by simp), Nat.le_refl _, (by repeat (first | with_reducible exact Below.refl _ _ | with_reducible assumption | with_reducible refine balloc ?_ _ | with_reducible refine bdrewN ?_ _ | with_reducible refine Below.drew ?_ | (with_reducible refine bset ?_ ?_ _; rotate_left; focus (first | assumption | omega | (simp; done) | (simp; omega))) | with_reducible refine bstep ?_ (by assumption) | assumption))⟩
      · have hsp : sp (k + 1) a b c d = a / b :: sp k d (c - a / b * d) b (a % b) := by rw [sp, if_neg h0, if_neg h1]
        rw [hsp] at hlen ⊢
        clear hsp
        have hac : a = a / b * b + a % b := by rw [Int.mul_comm]; omega
        have hrp : 1 ≤ a % b := by omega
        have hq0 : 0 ≤ a / b * d := Int.mul_nonneg hw0 (by omega)
        have hqc : a / b * d < c := by
          apply Um.lt_of_mul_lt (by omega : 0 < b)
          have e : a * d = a / b * d * b + a % b * d := by
            conv => lhs; rw [hac]
            simp only [Int.add_mul, Int.mul_add, Int.mul_assoc, Int.mul_comm, Int.mul_left_comm]
          have : 0 < a % b * d := Int.mul_pos (by omega) (by omega)
          omega
        have hcq : c < a / b * d + d := by rw [Int.add_mul] at h1; omega
        have key : d * (a % b) ≤ b * (c - a / b * d) := by
          have e : a * d = b * (a / b * d) + d * (a % b) := by
            conv => lhs; rw [hac]
            simp only [Int.add_mul, Int.mul_add, Int.mul_assoc, Int.mul_comm, Int.mul_left_comm]
          rw [Int.mul_sub]; rw [Int.mul_comm c b] at hle; omega
        have e1 : ¬ (a / b + 1) * d ≤ c := h1
        have hlt1 : c < (a / b + 1) * d := by omega
        have Hlen := Lib.hid hlen
        have Hkey := Lib.hid key
        have f1 : IntKind.i64.wrap (a / b * d) = a / b * d := IntWalk.i64_in _ (by omega)
        have f2 : IntKind.i64.wrap (c - a / b * d) = c - a / b * d := IntWalk.i64_in _ (by omega)
        have f3 : a.tmod b = a % b := Int.tmod_eq_emod_of_nonneg (by omega)
        have f4 : (b == 0) = false := by simp; omega
        have f5 : (b = 0) = False := by simp; omega
        clear h0 hlen hle hac hdm key h1 e1
        go_enter Tryd.func54, Tryd.ntmps54
        go_upto_region 6 with fail
        go_cut [6, 7] (fun s6 s7 wx => ∃ g6 g7 : Nat, s6 = .pointer (some ⟨g6, 0, none⟩) ∧ s7 = .pointer (some ⟨g7, 0, none⟩) ∧ Cs wx g6 #[.int .i64 (a % b), .int .i64 b] ∧ Cs wx g7 #[.int .i64 (c - a / b * d), .int .i64 d] ∧ Below w.heap.size w wx)
        case first =>
          obtain ⟨W, hW⟩ : ∃ W, ((w.alloc (.cells #[.int .i64 a, .int .i64 b] 23)).alloc (.cells #[.int .i64 c, .int .i64 d] 23)) = W := ⟨_, rfl⟩
          have A0 : Cs W w.heap.size #[.int .i64 a, .int .i64 b] := by rw [← hW]; exact (by repeat (first | with_reducible assumption | (with_reducible refine Cs.new _ _ _ _ ?_; first | rfl | (simp; done)) | with_reducible refine Cs.alloc ?_ _ | with_reducible refine Cs.drewN ?_ _ | with_reducible refine Cs.drew ?_ | with_reducible refine Cs.set4 ?_ _ _ _ _ | (with_reducible refine Cs.other4 ?_ ?_ _ _ _ _; rotate_left; focus (first | assumption | omega | (simp; done) | (simp; omega))) | with_reducible refine Cs.set2 ?_ _ _ | (with_reducible refine Cs.other2 ?_ ?_ _ _; rotate_left; focus (first | assumption | omega | (simp; done) | (simp; omega))) | (with_reducible refine Cs.other ?_ ?_ _; rotate_left; focus (first | assumption | omega | (simp; done) | (simp; omega))) | with_reducible refine Cs.keep ?_ (by assumption) | assumption))
          have A1 : Cs W (w.heap.size + 1) #[.int .i64 c, .int .i64 d] := by rw [← hW]; exact (by repeat (first | with_reducible assumption | (with_reducible refine Cs.new _ _ _ _ ?_; first | rfl | (simp; done)) | with_reducible refine Cs.alloc ?_ _ | with_reducible refine Cs.drewN ?_ _ | with_reducible refine Cs.drew ?_ | with_reducible refine Cs.set4 ?_ _ _ _ _ | (with_reducible refine Cs.other4 ?_ ?_ _ _ _ _; rotate_left; focus (first | assumption | omega | (simp; done) | (simp; omega))) | with_reducible refine Cs.set2 ?_ _ _ | (with_reducible refine Cs.other2 ?_ ?_ _ _; rotate_left; focus (first | assumption | omega | (simp; done) | (simp; omega))) | (with_reducible refine Cs.other ?_ ?_ _; rotate_left; focus (first | assumption | omega | (simp; done) | (simp; omega))) | with_reducible refine Cs.keep ?_ (by assumption) | assumption))
          have hbW : Below w.heap.size w W := by rw [← hW]; exact (by repeat (first | with_reducible exact Below.refl _ _ | with_reducible assumption | with_reducible refine balloc ?_ _ | with_reducible refine bdrewN ?_ _ | with_reducible refine Below.drew ?_ | (with_reducible refine bset ?_ ?_ _; rotate_left; focus (first | assumption | omega | (simp; done) | (simp; omega))) | with_reducible refine bstep ?_ (by assumption) | assumption))
          rw [hW]
          clear hW
          have cA0 := A0.c
          have fA0 := A0.f
          have lA0 := A0.lt
          have cA1 := A1.c
          have fA1 := A1.f
          have lA1 := A1.lt
          go_region_held3 (fun w' => w'.cell? ⟨w.heap.size, 0, none⟩ = some (.int .i64 a) ∧ w'.cell? ⟨w.heap.size, 1, none⟩ = some (.int .i64 b) ∧ w'.cell? ⟨w.heap.size + 1, 0, none⟩ = some (.int .i64 c) ∧ w'.cell? ⟨w.heap.size + 1, 1, none⟩ = some (.int .i64 d))
            (go_keep) (fail)
          all_goals (go_wp2_with fail; go_meet; exact ⟨_, _, rfl, rfl, (by repeat (first | with_reducible assumption | (with_reducible refine Cs.new _ _ _ _ ?_; first | rfl | (simp; done)) | with_reducible refine Cs.alloc ?_ _ | with_reducible refine Cs.drewN ?_ _ | with_reducible refine Cs.drew ?_ | with_reducible refine Cs.set4 ?_ _ _ _ _ | (with_reducible refine Cs.other4 ?_ ?_ _ _ _ _; rotate_left; focus (first | assumption | omega | (simp; done) | (simp; omega))) | with_reducible refine Cs.set2 ?_ _ _ | (with_reducible refine Cs.other2 ?_ ?_ _ _; rotate_left; focus (first | assumption | omega | (simp; done) | (simp; omega))) | (with_reducible refine Cs.other ?_ ?_ _; rotate_left; focus (first | assumption | omega | (simp; done) | (simp; omega))) | with_reducible refine Cs.keep ?_ (by assumption) | assumption)), (by repeat (first | with_reducible assumption | (with_reducible refine Cs.new _ _ _ _ ?_; first | rfl | (simp; done)) | with_reducible refine Cs.alloc ?_ _ | with_reducible refine Cs.drewN ?_ _ | with_reducible refine Cs.drew ?_ | with_reducible refine Cs.set4 ?_ _ _ _ _ | (with_reducible refine Cs.other4 ?_ ?_ _ _ _ _; rotate_left; focus (first | assumption | omega | (simp; done) | (simp; omega))) | with_reducible refine Cs.set2 ?_ _ _ | (with_reducible refine Cs.other2 ?_ ?_ _ _; rotate_left; focus (first | assumption | omega | (simp; done) | (simp; omega))) | (with_reducible refine Cs.other ?_ ?_ _; rotate_left; focus (first | assumption | omega | (simp; done) | (simp; omega))) | with_reducible refine Cs.keep ?_ (by assumption) | assumption)), (by repeat (first | with_reducible exact Below.refl _ _ | with_reducible assumption | with_reducible refine balloc ?_ _ | with_reducible refine bdrewN ?_ _ | with_reducible refine Below.drew ?_ | (with_reducible refine bset ?_ ?_ _; rotate_left; focus (first | assumption | omega | (simp; done) | (simp; omega))) | with_reducible refine bstep ?_ (by assumption) | assumption))⟩)
        case rest =>
          obtain ⟨g6, g7, rfl, rfl, Bn6, Bn7, hbx⟩ := hcut
          clear f1 f2 f3 f4 f5 e0 hlt1
          have kt7 := fun W => turned_any (c - a / b * d) d W
          have kt6 := fun W => turned_any (a % b) b W
          have ks := fun W => ih d (c - a / b * d) b (a % b) W d1 d2 (by omega) (by omega) b1 b2 hrp (by omega) Hkey.out (by omega) (by have := Hlen.out; simp at this; omega)
          have hl := Hlen.out
          simp only [List.length_cons] at hl
          have hpos : 0 < (sp k d (c - a / b * d) b (a % b)).length := by
            have h := Um.sp_canon k d (c - a / b * d) b (a % b) (by omega) (by omega) (by omega) Hkey.out (by omega)
            cases hsp : sp k d (c - a / b * d) b (a % b) with
            | nil => rw [hsp] at h; exact h.elim
            | cons x l => simp
          clear Hkey Hlen ih
          generalize sp k d (c - a / b * d) b (a % b) = L at *
          unfold RetInts at ks
          generalize hx0 : a / b = x0 at *
          generalize hq0' : c - x0 * d = y0 at *
          generalize hr0' : a % b = r0 at *
          clear hx0 hq0' hr0' hm0 hm1 hq0 hqc hcq hw0 hw1 hr0 hr1 hrp hk
          have cBn6 := Bn6.c
          have fBn6 := Bn6.f
          have lBn6 := Bn6.lt
          have cBn7 := Bn7.c
          have fBn7 := Bn7.f
          have lBn7 := Bn7.lt
          go_wp2_with fail
          go_region_held3 (fun w' => w'.cell? ⟨g6, 0, none⟩ = some (.int .i64 r0) ∧ w'.cell? ⟨g6, 1, none⟩ = some (.int .i64 b) ∧ w'.cell? ⟨g7, 0, none⟩ = some (.int .i64 y0) ∧ w'.cell? ⟨g7, 1, none⟩ = some (.int .i64 d))
            (first | exact ⟨Bn6.c 0, Bn6.c 1, Bn7.c 0, Bn7.c 1⟩ | exact ⟨(Bn6.alloc _).c 0, (Bn6.alloc _).c 1, (Bn7.alloc _).c 0, (Bn7.alloc _).c 1⟩ | go_keep)
            (first
              | (go_at_call_of 50 (Value.agg #[.int .i64 y0, .int .i64 d]); refine (kt7 _).mono ?_; rintro e w1 ⟨rfl, hb1⟩; have Bn6 : Cs w1 g6 #[.int .i64 r0, .int .i64 b] := (by repeat (first | with_reducible assumption | (with_reducible refine Cs.new _ _ _ _ ?_; first | rfl | (simp; done)) | with_reducible refine Cs.alloc ?_ _ | with_reducible refine Cs.drewN ?_ _ | with_reducible refine Cs.drew ?_ | with_reducible refine Cs.set4 ?_ _ _ _ _ | (with_reducible refine Cs.other4 ?_ ?_ _ _ _ _; rotate_left; focus (first | assumption | omega | (simp; done) | (simp; omega))) | with_reducible refine Cs.set2 ?_ _ _ | (with_reducible refine Cs.other2 ?_ ?_ _ _; rotate_left; focus (first | assumption | omega | (simp; done) | (simp; omega))) | (with_reducible refine Cs.other ?_ ?_ _; rotate_left; focus (first | assumption | omega | (simp; done) | (simp; omega))) | with_reducible refine Cs.keep ?_ (by assumption) | assumption)); have Bn7 : Cs w1 g7 #[.int .i64 y0, .int .i64 d] := (by repeat (first | with_reducible assumption | (with_reducible refine Cs.new _ _ _ _ ?_; first | rfl | (simp; done)) | with_reducible refine Cs.alloc ?_ _ | with_reducible refine Cs.drewN ?_ _ | with_reducible refine Cs.drew ?_ | with_reducible refine Cs.set4 ?_ _ _ _ _ | (with_reducible refine Cs.other4 ?_ ?_ _ _ _ _; rotate_left; focus (first | assumption | omega | (simp; done) | (simp; omega))) | with_reducible refine Cs.set2 ?_ _ _ | (with_reducible refine Cs.other2 ?_ ?_ _ _; rotate_left; focus (first | assumption | omega | (simp; done) | (simp; omega))) | (with_reducible refine Cs.other ?_ ?_ _; rotate_left; focus (first | assumption | omega | (simp; done) | (simp; omega))) | with_reducible refine Cs.keep ?_ (by assumption) | assumption)))
              | (go_at_call_of 50 (Value.agg #[.int .i64 r0, .int .i64 b]); refine (kt6 _).mono ?_; rintro e w1 ⟨rfl, hb1⟩; have Bn6 : Cs w1 g6 #[.int .i64 r0, .int .i64 b] := (by repeat (first | with_reducible assumption | (with_reducible refine Cs.new _ _ _ _ ?_; first | rfl | (simp; done)) | with_reducible refine Cs.alloc ?_ _ | with_reducible refine Cs.drewN ?_ _ | with_reducible refine Cs.drew ?_ | with_reducible refine Cs.set4 ?_ _ _ _ _ | (with_reducible refine Cs.other4 ?_ ?_ _ _ _ _; rotate_left; focus (first | assumption | omega | (simp; done) | (simp; omega))) | with_reducible refine Cs.set2 ?_ _ _ | (with_reducible refine Cs.other2 ?_ ?_ _ _; rotate_left; focus (first | assumption | omega | (simp; done) | (simp; omega))) | (with_reducible refine Cs.other ?_ ?_ _; rotate_left; focus (first | assumption | omega | (simp; done) | (simp; omega))) | with_reducible refine Cs.keep ?_ (by assumption) | assumption)); have Bn7 : Cs w1 g7 #[.int .i64 y0, .int .i64 d] := (by repeat (first | with_reducible assumption | (with_reducible refine Cs.new _ _ _ _ ?_; first | rfl | (simp; done)) | with_reducible refine Cs.alloc ?_ _ | with_reducible refine Cs.drewN ?_ _ | with_reducible refine Cs.drew ?_ | with_reducible refine Cs.set4 ?_ _ _ _ _ | (with_reducible refine Cs.other4 ?_ ?_ _ _ _ _; rotate_left; focus (first | assumption | omega | (simp; done) | (simp; omega))) | with_reducible refine Cs.set2 ?_ _ _ | (with_reducible refine Cs.other2 ?_ ?_ _ _; rotate_left; focus (first | assumption | omega | (simp; done) | (simp; omega))) | (with_reducible refine Cs.other ?_ ?_ _; rotate_left; focus (first | assumption | omega | (simp; done) | (simp; omega))) | with_reducible refine Cs.keep ?_ (by assumption) | assumption)))
              | (go_at_call 54; refine (ks _).mono ?_; rintro e w1 ⟨g, cc, rfl, hI, hcc, hb1⟩; have Bn6 : Cs w1 g6 #[.int .i64 r0, .int .i64 b] := (by repeat (first | with_reducible assumption | (with_reducible refine Cs.new _ _ _ _ ?_; first | rfl | (simp; done)) | with_reducible refine Cs.alloc ?_ _ | with_reducible refine Cs.drewN ?_ _ | with_reducible refine Cs.drew ?_ | with_reducible refine Cs.set4 ?_ _ _ _ _ | (with_reducible refine Cs.other4 ?_ ?_ _ _ _ _; rotate_left; focus (first | assumption | omega | (simp; done) | (simp; omega))) | with_reducible refine Cs.set2 ?_ _ _ | (with_reducible refine Cs.other2 ?_ ?_ _ _; rotate_left; focus (first | assumption | omega | (simp; done) | (simp; omega))) | (with_reducible refine Cs.other ?_ ?_ _; rotate_left; focus (first | assumption | omega | (simp; done) | (simp; omega))) | with_reducible refine Cs.keep ?_ (by assumption) | assumption)); have Bn7 : Cs w1 g7 #[.int .i64 y0, .int .i64 d] := (by repeat (first | with_reducible assumption | (with_reducible refine Cs.new _ _ _ _ ?_; first | rfl | (simp; done)) | with_reducible refine Cs.alloc ?_ _ | with_reducible refine Cs.drewN ?_ _ | with_reducible refine Cs.drew ?_ | with_reducible refine Cs.set4 ?_ _ _ _ _ | (with_reducible refine Cs.other4 ?_ ?_ _ _ _ _; rotate_left; focus (first | assumption | omega | (simp; done) | (simp; omega))) | with_reducible refine Cs.set2 ?_ _ _ | (with_reducible refine Cs.other2 ?_ ?_ _ _; rotate_left; focus (first | assumption | omega | (simp; done) | (simp; omega))) | (with_reducible refine Cs.other ?_ ?_ _; rotate_left; focus (first | assumption | omega | (simp; done) | (simp; omega))) | with_reducible refine Cs.keep ?_ (by assumption) | assumption)))
              | (refine step_appI (by rfl) _ _ (by rfl) _ 1 1 [x0] (by rfl) (by repeat (first | with_reducible assumption | (with_reducible refine Ints.new1 _ _ _ _ ?_; first | rfl | (simp; done)) | (with_reducible refine Ints.new2 _ _ _ _ _ ?_; first | rfl | (simp; done)) | with_reducible refine Ints.alloc ?_ _ | with_reducible refine Ints.drewN ?_ _ | with_reducible refine Ints.drew ?_ | with_reducible refine Ints.below ?_ (by assumption) | assumption)) (by simp) _ L.length _ L (by rfl) (by repeat (first | with_reducible assumption | (with_reducible refine Ints.new1 _ _ _ _ ?_; first | rfl | (simp; done)) | (with_reducible refine Ints.new2 _ _ _ _ _ ?_; first | rfl | (simp; done)) | with_reducible refine Ints.alloc ?_ _ | with_reducible refine Ints.drewN ?_ _ | with_reducible refine Ints.drew ?_ | with_reducible refine Ints.below ?_ (by assumption) | assumption)) hpos (by omega) (by omega) ?_; intro gr cr wR hIR hcR hbR; have Bn6 : Cs wR g6 #[.int .i64 r0, .int .i64 b] := (by repeat (first | with_reducible assumption | (with_reducible refine Cs.new _ _ _ _ ?_; first | rfl | (simp; done)) | with_reducible refine Cs.alloc ?_ _ | with_reducible refine Cs.drewN ?_ _ | with_reducible refine Cs.drew ?_ | with_reducible refine Cs.set4 ?_ _ _ _ _ | (with_reducible refine Cs.other4 ?_ ?_ _ _ _ _; rotate_left; focus (first | assumption | omega | (simp; done) | (simp; omega))) | with_reducible refine Cs.set2 ?_ _ _ | (with_reducible refine Cs.other2 ?_ ?_ _ _; rotate_left; focus (first | assumption | omega | (simp; done) | (simp; omega))) | (with_reducible refine Cs.other ?_ ?_ _; rotate_left; focus (first | assumption | omega | (simp; done) | (simp; omega))) | with_reducible refine Cs.keep ?_ (by assumption) | assumption)); have Bn7 : Cs wR g7 #[.int .i64 y0, .int .i64 d] := (by repeat (first | with_reducible assumption | (with_reducible refine Cs.new _ _ _ _ ?_; first | rfl | (simp; done)) | with_reducible refine Cs.alloc ?_ _ | with_reducible refine Cs.drewN ?_ _ | with_reducible refine Cs.drew ?_ | with_reducible refine Cs.set4 ?_ _ _ _ _ | (with_reducible refine Cs.other4 ?_ ?_ _ _ _ _; rotate_left; focus (first | assumption | omega | (simp; done) | (simp; omega))) | with_reducible refine Cs.set2 ?_ _ _ | (with_reducible refine Cs.other2 ?_ ?_ _ _; rotate_left; focus (first | assumption | omega | (simp; done) | (simp; omega))) | (with_reducible refine Cs.other ?_ ?_ _; rotate_left; focus (first | assumption | omega | (simp; done) | (simp; omega))) | with_reducible refine Cs.keep ?_ (by assumption) | assumption))))
          all_goals (go_wp2_with fail; go_ret; exact RetInts.app hIR hcR (by repeat (first | with_reducible exact Below.refl _ _ | with_reducible assumption | with_reducible refine balloc ?_ _ | with_reducible refine bdrewN ?_ _ | with_reducible refine Below.drew ?_ | (with_reducible refine bset ?_ ?_ _; rotate_left; focus (first | assumption | omega | (simp; done) | (simp; omega))) | with_reducible refine bstep ?_ (by assumption) | assumption)))

end Go.Proofs.YtkjoamindolonaaDoor
