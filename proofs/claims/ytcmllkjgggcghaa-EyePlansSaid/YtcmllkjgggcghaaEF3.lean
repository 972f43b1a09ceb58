/- Walks of package eye: sets of outcomes; a list that is copied. -/
import Derived.Test.YtcmllkjgggcghaaEF2
import Derived.Test.YtcmllkjgggcghaaED6
namespace Go.Proofs.Ytcmllkjgggcghaa
open Go.RowKit Go.Shelf
set_option linter.unusedSimpArgs false
set_option linter.unusedVariables false

theorem riseB_lt : ∀ (l : Int) (ks : List Int), riseB l ks = true → ∀ i, i < ks.length → l < ks.getD i 0
  | _, [], _, i, h => by simp at h
  | l, x :: xs, h, 0, _ => by simp [riseB] at h; simpa using h.1
  | l, x :: xs, h, i + 1, hi => by
    simp [riseB] at h
    have := riseB_lt x xs h.2 i (by simpa using hi)
    simp at this ⊢; omega
theorem riseB_inc : ∀ (l : Int) (ks : List Int), riseB l ks = true → ∀ i j, i < j → j < ks.length → ks.getD i 0 < ks.getD j 0
  | _, [], _, i, j, _, h => by simp at h
  | l, x :: xs, h, 0, j + 1, _, hj => by
    simp [riseB] at h
    have := riseB_lt x xs h.2 j (by simpa using hj)
    simpa using this
  | l, x :: xs, h, i + 1, j + 1, hij, hj => by
    simp [riseB] at h
    have := riseB_inc x xs h.2 i j (by omega) (by simpa using hj)
    simpa using this
theorem riseB_of : ∀ (l : Int) (ks : List Int), (∀ i, i < ks.length → l < ks.getD i 0) → (∀ i, i + 1 < ks.length → ks.getD i 0 < ks.getD (i + 1) 0) → riseB l ks = true
  | _, [], _, _ => rfl
  | l, x :: xs, h, h2 => by
    simp only [riseB, Bool.and_eq_true, decide_eq_true_eq]
    refine ⟨by simpa using h 0 (by simp), riseB_of x xs (fun i hi => ?_) (fun i hi => by simpa using h2 (i + 1) (by simpa using hi))⟩
    induction i with
    | zero => simpa using h2 0 (by simpa using hi)
    | succ i ih =>
      have a := ih (by omega)
      have b := h2 (i + 1) (by simpa using hi)
      simp at a b ⊢; omega

/-- a valid set -/
structure SetOk (m : Nat) (ks : List Int) : Prop where
  len : ks.length ≤ m
  rng : ∀ i, i < ks.length → 0 ≤ ks.getD i 0 ∧ ks.getD i 0 < (m : Int)
  inc : ∀ i j, i < j → j < ks.length → ks.getD i 0 < ks.getD j 0

theorem setE_ok {m : Nat} {ks : List Int} (h : setE m ks = 0) : SetOk m ks := by
  unfold setE at h
  by_cases h1 : m < ks.length
  · rw [if_pos h1] at h; omega
  · rw [if_neg h1] at h
    by_cases h2 : ks.any (outK m) = true
    · rw [if_pos h2] at h; omega
    · rw [if_neg h2] at h
      by_cases h3 : riseB (-1) ks = true
      · refine ⟨by omega, fun i hi => ?_, riseB_inc _ _ h3⟩
        have h4 : outK m (ks.getD i 0) = false := by
          cases h5 : outK m (ks.getD i 0) with
          | false => rfl
          | true =>
            exfalso
            apply h2
            refine List.any_eq_true.2 ⟨ks.getD i 0, ?_, h5⟩
            rw [List.getD_eq_getElem?_getD, List.getElem?_eq_getElem hi]
            exact List.getElem_mem hi
        unfold outK at h4
        simp only [Bool.or_eq_false_iff, decide_eq_false_iff_not] at h4
        omega
      · rw [if_neg h3] at h; omega

/-- where one stands in a set that rises: what is ahead is less than k, what is left is not -/
structure StandsAt (ks : List Int) (j k : Nat) : Prop where
  le : j ≤ ks.length
  lo : ∀ i, i < j → ks.getD i 0 < (k : Int)
  hi : ∀ i, j ≤ i → i < ks.length → (k : Int) ≤ ks.getD i 0

theorem StandsAt.start {m : Nat} {ks : List Int} (h : SetOk m ks) : StandsAt ks 0 0 := ⟨Nat.zero_le _, fun i hi => by omega, fun i _ hi => (h.rng i hi).1⟩
theorem StandsAt.hit {m : Nat} {ks : List Int} {j k : Nat} (hs : SetOk m ks) (h : StandsAt ks j k) (hj : j < ks.length) (he : ks.getD j 0 = (k : Int)) : StandsAt ks (j + 1) (k + 1) := by
  refine ⟨hj, fun i hi => ?_, fun i hi hl => ?_⟩
  · by_cases e : i = j
    · subst e; omega
    · have := h.lo i (by omega); omega
  · have := hs.inc j i (by omega) hl; omega
theorem StandsAt.miss {m : Nat} {ks : List Int} {j k : Nat} (hs : SetOk m ks) (h : StandsAt ks j k) (he : j < ks.length → ks.getD j 0 ≠ (k : Int)) : StandsAt ks j (k + 1) := by
  refine ⟨h.le, fun i hi => by have := h.lo i hi; omega, fun i hi hl => ?_⟩
  have h1 := h.hi i hi hl
  by_cases e : i = j
  · subst e; have := he hl; omega
  · have := hs.inc j i (by omega) hl
    have := h.hi j (Nat.le_refl _) (by omega)
    omega
theorem StandsAt.mem {m : Nat} {ks : List Int} {j k : Nat} (hs : SetOk m ks) (h : StandsAt ks j k) : ks.contains (k : Int) = true ↔ j < ks.length ∧ ks.getD j 0 = (k : Int) := by
  rw [List.contains_iff_mem]
  constructor
  · intro hm
    obtain ⟨i, hi, he⟩ := List.mem_iff_getElem.1 hm
    have hg : ks.getD i 0 = (k : Int) := by rw [List.getD_eq_getElem?_getD, List.getElem?_eq_getElem hi]; exact he
    rcases Nat.lt_trichotomy i j with h1 | h1 | h1
    · have := h.lo i h1; omega
    · subst h1; exact ⟨hi, hg⟩
    · have h2 := h.hi j (Nat.le_refl _) (by omega)
      have := hs.inc j i h1 hi
      omega
  · rintro ⟨h1, h2⟩
    rw [← h2, List.getD_eq_getElem?_getD, List.getElem?_eq_getElem h1]
    exact List.getElem_mem h1

theorem make_ints2 (n : Nat) (hn : n ≤ 5000) (w : World) :
    (Instr.makeSlice 23 (.int .i64 (n : Int)) (.int .i64 (n : Int))).run Try.prog w = .ok (.slice (some ⟨w.heap.size, 0, none⟩) n n) (w.alloc (.cells (madeCells #[.int .i64 0] (n * 1)) 3)) := by
  obtain ⟨i, hi, hzz⟩ := Option.map_eq_some_iff.1 intT_info
  simp only [Prod.mk.injEq] at hzz
  obtain ⟨hz, hs, hb⟩ := hzz
  have hr := run_make (P := Try.prog) w 23 3 i (.int .i64 0) (by kernel_rfl) hi hz .i64 .i64 n n (by omega) (Int.le_refl _) (by rw [hb]; omega) (by omega)
  simp only [Int.toNat_natCast, hs] at hr
  exact hr

/-- a list copied into a row of its length -/
theorem copyI {W : World} {B : Option Addr} {N C : Nat} {ks : List Int} (hk : Ints W B N ks) {g : Nat} {f : Nat → Nat} (hr : Row W g N f) :
    ∃ W', (∀ ty, (Builtin.copy_ #[23, 23] ty #[.slice (some ⟨g, 0, none⟩) N N, .slice B N C]).run Try.prog W = .ok (.int .i64 (N : Nat)) W') ∧ Ints W' (some ⟨g, 0, none⟩) N ks ∧ Turns (fun i => i = g) W W' := by
  have hl := hk.1
  by_cases h0 : N = 0
  · subst h0
    refine ⟨W, fun ty => ?_, ⟨hl, fun h => absurd h (by omega)⟩, Turns.refl _ _⟩
    have := run_copy_none (P := Try.prog) W 23 23 ty 3 (some ⟨g, 0, none⟩) B 0 0 0 C (by kernel_rfl) (by kernel_rfl) rfl
    rw [this]; rfl
  · obtain ⟨bb, oo, rfl, hbb, hcc⟩ := hk.2 (by omega)
    refine ⟨W.setCells g 0 (ks.map (Value.int .i64)), fun ty => ?_, ⟨hl, fun _ => ⟨g, 0, rfl, by rw [size_setCells]; exact hr.lt, fun i hi => ?_⟩⟩, turns_setCells (O := fun i => i = g) rfl _ _ _⟩
    · have := run_copy_cells (P := Try.prog) W 23 23 ty 3 g 0 N N ⟨bb, oo, none⟩ N C (ks.map (Value.int .i64)) (by kernel_rfl) (by kernel_rfl) (by rw [List.length_map, hl]; exact (Nat.min_self N).symm) (by
        intro j v hj
        rw [List.getElem?_map] at hj
        obtain ⟨x, hx, rfl⟩ := Option.map_eq_some_iff.1 hj
        have hjn : j < N := by rw [← hl]; exact (List.getElem?_eq_some_iff.1 hx).1
        have h1 := hcc j hjn
        rw [List.getD_eq_getElem?_getD, hx] at h1
        rw [show (⟨bb, oo, none⟩ : Addr).add j = ⟨bb, oo + j, none⟩ by unfold Addr.add; split <;> simp_all]
        exact h1) (by
        intro j hj
        rw [Nat.zero_add, hr.c j (by simpa [hl] using hj)]; rfl) (fun j hj => hr.free _) (by
        intro v hv
        obtain ⟨x, _, rfl⟩ := List.mem_map.1 hv
        rfl)
      rw [this]
      simp [hl, goInt]
    · have := World.cell?_setCells_in g (ks.map (Value.int .i64)) 0 W (fun j hj => by
        rw [Nat.zero_add, hr.c j (by simpa [hl] using hj)]; rfl) i (by simp [hl]; exact hi)
      rw [this, List.getElem_map, List.getD_eq_getElem?_getD, List.getElem?_eq_getElem (by omega)]
      rfl

end Go.Proofs.Ytcmllkjgggcghaa
