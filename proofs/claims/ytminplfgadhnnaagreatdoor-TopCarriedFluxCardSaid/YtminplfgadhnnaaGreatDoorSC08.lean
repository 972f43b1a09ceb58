/- L05 ZM1 ZM2 ZM3 ZC0 ZR -/
import Derived.Test.YtminplfgadhnnaaGreatDoorSC07
import Derived.Deep.DeepCutAuto
import Derived.BigQuiet
import Derived.Test.YtminplfgadhnnaaGreatDoorSC01
import Derived.Test.YtminplfgadhnnaaGreatDoorSC04
import Derived.OrdersIn
import Derived.OrdersHeld
/- The walk of UnitCarried: it answers true. -/
section
namespace Go.Proofs.YtminplfgadhnnaaGreatDoor
open Go.RowKit Go.Shelf
set_option linter.unusedSimpArgs false
set_option linter.unusedVariables false
open Um (frac S4 spanB spanE turn4 pt inS)

/-- the true number of a decree -/
def trueAt (zs : List S4) (bs : List Int) (j : Nat) : Int × Int :=
  if j + 1 < bs.length then Um.inside (zs.getD j (0, 0, 0, 0)) (bs.getD (j + 1) 0) else ((zs.getD j (0, 0, 0, 0)).1, (zs.getD j (0, 0, 0, 0)).2.1)
/-- the true numbers of the first decrees, as spans -/
def trues (zs : List S4) (bs : List Int) (k : Nat) : List S4 := (List.range k).map fun j => pt (trueAt zs bs j)
theorem trues_succ (zs : List S4) (bs : List Int) (k : Nat) : trues zs bs (k + 1) = trues zs bs k ++ [pt (trueAt zs bs k)] := by unfold trues; rw [List.range_succ, List.map_append]; rfl
theorem trues_len (zs : List S4) (bs : List Int) (k : Nat) : (trues zs bs k).length = k := by simp [trues]

/-- what is needed of spans that are carried over -/
structure CL (s : S4) (zs : List S4) (x : Int × Int) (ts : List S4) (t v u : S4) (e f g : Int) : Prop where
  kt : ∀ A n cap w, Spans w A n zs → n ≤ 9223372036854775807 → Calls Tryz.prog 13 #[.agg #[.int .i64 s.1, .int .i64 s.2.1, .int .i64 s.2.2.1, .int .i64 s.2.2.2], .slice A n cap] w fun x w' => x = .returned (.tuple #[.agg #[.int .i64 t.1, .int .i64 t.2.1, .int .i64 t.2.2.1, .int .i64 t.2.2.2], .int .i64 e]) ∧ Below w.heap.size w w'
  kv : ∀ A n cap w, Spans w A n ts → n ≤ 9223372036854775807 → Calls Tryz.prog 13 #[.agg #[.int .i64 x.1, .int .i64 x.2, .int .i64 x.1, .int .i64 x.2], .slice A n cap] w fun y w' => y = .returned (.tuple #[.agg #[.int .i64 v.1, .int .i64 v.2.1, .int .i64 v.2.2.1, .int .i64 v.2.2.2], .int .i64 f]) ∧ Below w.heap.size w w'
  ku : e = 0 → ∀ A n cap w, Spans w A n zs → n ≤ 1000 → Calls Tryz.prog 62 #[.agg #[.int .i64 t.1, .int .i64 t.2.1, .int .i64 t.2.2.1, .int .i64 t.2.2.2], .slice A n cap] w fun x w' => x = .returned (.tuple #[.agg #[.int .i64 u.1, .int .i64 u.2.1, .int .i64 u.2.2.1, .int .i64 u.2.2.2], .int .i64 g]) ∧ Below w.heap.size w w'
  e04 : e = 0 ∨ e = 4
  f04 : f = 0 ∨ f = 4
  g04 : e = 0 → g = 0 ∨ g = 4
  st : e = 0 → spanB t = true
  sv : f = 0 → spanB v = true ∧ v.1 = v.2.2.1 ∧ v.2.1 = v.2.2.2
  vt : e = 0 → f = 0 → inB v.1 v.2.1 t = true
  su : e = 0 → g = 0 → spanB u = true
  lo : e = 0 → g = 0 → inB s.1 s.2.1 u = true
  hi : e = 0 → g = 0 → inB s.2.2.1 s.2.2.2 u = true
  ex : e = 0 → g = 0 → (∀ z ∈ zs, z.1 = z.2.2.1 ∧ z.2.1 = z.2.2.2) → u = s

theorem cl_of {s : S4} {zs : List S4} {x : Int × Int} {bs : List Int} (hs : spanB s = true) (hlen : zs.length ≤ 8) (hzs : ∀ z ∈ zs, spanB z = true) (hx : frac x.1 x.2 = true) (hin : inS x s) :
    ∃ t v u e f g, CL s zs x (trues zs bs zs.length) t v u e f g := by
  have ht : trues zs bs zs.length = ((List.range zs.length).map (trueAt zs bs)).map pt := by simp [trues]
  have hT : ∀ j, (h : j < zs.length) → frac (trueAt zs bs j).1 (trueAt zs bs j).2 = true ∧ inS (trueAt zs bs j) zs[j] := by
    intro j hj
    have hz := hzs _ (List.getElem_mem hj)
    have e : zs.getD j (0, 0, 0, 0) = zs[j] := by rw [List.getD_eq_getElem?_getD, List.getElem?_eq_getElem hj]; rfl
    unfold trueAt
    rw [e]
    split
    · exact Um.inside_in _ hz
    · obtain ⟨s1, s2, s3⟩ := (Um.spanB_iff _).1 hz
      exact ⟨s1, Int.le_refl _, s3⟩
  have L := Um.carried_laws (s := s) (zs := zs) (x := x) (xs := (List.range zs.length).map (trueAt zs bs)) hs hlen hzs hx hin (by simp)
    (fun y hy => by obtain ⟨j, hj, rfl⟩ := List.mem_map.1 hy; exact (hT j (List.mem_range.1 hj)).1) (fun i hi => by rw [List.getElem_map, List.getElem_range]; exact (hT i hi).2)
  rw [← ht] at L
  obtain ⟨L1, L2, L3, L4, L5⟩ := L
  refine ⟨_, _, _, _, _, _, ⟨fun A n cap w hz hn => Carry_any _ _ _ _ A n cap zs w hz hn, fun A n cap w hz hn => Carry_any _ _ _ _ A n cap _ w hz hn, fun _ A n cap w hz hn => Back_any _ _ _ _ A n cap zs w hz hn, L1, L3, fun h => (L5 h).1, L2, fun h => ⟨(L4 h).1, (L4 h).2.1, (L4 h).2.2.1⟩, fun h1 h2 => (inB_iff _ _ _).2 ((L4 h2).2.2.2 h1), fun h1 h2 => ((L5 h1).2 h2).1,
    fun h1 h2 => (inB_iff _ _ _).2 ((L5 h1).2 h2).2.1, fun h1 h2 => (inB_iff _ _ _).2 ((L5 h1).2 h2).2.2.1, fun h1 h2 => ((L5 h1).2 h2).2.2.2⟩⟩


end Go.Proofs.YtminplfgadhnnaaGreatDoor
end

/- Plain laws of zones: numbers that flow from place to place, round by round, until none changes. -/
section
namespace Go.Proofs.YtminplfgadhnnaaGreatDoor
namespace Zm
set_option linter.unusedSimpArgs false
set_option linter.unusedVariables false

/-- between place k - 1 and place k numbers flow down (from k to k - 1), or up -/
def stp (d : Nat → Bool) (k : Nat) (f : Nat → Int) : Nat → Int :=
  if d k then fun i => if i = k - 1 then max (f (k - 1)) (f k) else f i else fun i => if i = k then max (f k) (f (k - 1)) else f i
/-- the steps 1 to k -/
def swp (d : Nat → Bool) : Nat → (Nat → Int) → Nat → Int
  | 0, f => f
  | k + 1, f => stp d (k + 1) (swp d k f)
/-- rounds of all steps of n places -/
def rnd (d : Nat → Bool) (n : Nat) : Nat → (Nat → Int) → Nat → Int
  | 0, f => f
  | r + 1, f => swp d (n - 1) (rnd d n r f)

theorem stp_ge (d : Nat → Bool) (k : Nat) (f : Nat → Int) (i : Nat) : f i ≤ stp d k f i := by
  unfold stp
  split
  · by_cases h : i = k - 1
    · simp only [h, if_true]; omega
    · simp only [h, if_false]; omega
  · by_cases h : i = k
    · simp only [h, if_true]; omega
    · simp only [h, if_false]; omega
theorem swp_ge (d : Nat → Bool) : ∀ (k : Nat) (f : Nat → Int) (i : Nat), f i ≤ swp d k f i
  | 0, f, i => Int.le_refl _
  | k + 1, f, i => Int.le_trans (swp_ge d k f i) (stp_ge d (k + 1) _ i)
theorem rnd_ge (d : Nat → Bool) (n : Nat) : ∀ (r : Nat) (f : Nat → Int) (i : Nat), f i ≤ rnd d n r f i
  | 0, f, i => Int.le_refl _
  | r + 1, f, i => Int.le_trans (rnd_ge d n r f i) (swp_ge d _ _ i)
/-- numbers flow from one place to another one -/
def flow (d : Nat → Bool) (i k : Nat) : Prop := (k = i + 1 ∧ d k = false) ∨ (i = k + 1 ∧ d i = true)
theorem stp_flow {d : Nat → Bool} {i k e : Nat} (h : flow d i k) (he : e = max i k) (f : Nat → Int) : f i ≤ stp d e f k := by
  subst he
  unfold stp
  rcases h with ⟨rfl, h⟩ | ⟨rfl, h⟩
  · rw [show max i (i + 1) = i + 1 by omega, h]
    simp; omega
  · rw [show max (k + 1) k = k + 1 by omega, h]
    simp; omega
theorem swp_flow {d : Nat → Bool} {i k : Nat} (h : flow d i k) : ∀ (e : Nat) (f : Nat → Int), max i k ≤ e → f i ≤ swp d e f k
  | 0, f, he => by rcases h with ⟨h, _⟩ | ⟨h, _⟩ <;> omega
  | e + 1, f, he => by
    by_cases h1 : max i k ≤ e
    · exact Int.le_trans (swp_flow h e f h1) (stp_ge d _ _ _)
    · exact Int.le_trans (swp_ge d e f i) (stp_flow h (by omega) _)
/-- a way on which numbers flow, one way all along -/
def way (d : Nat → Bool) (j k : Nat) : Prop := (j ≤ k ∧ ∀ i, j < i → i ≤ k → d i = false) ∨ (k ≤ j ∧ ∀ i, k < i → i ≤ j → d i = true)
theorem way_self (d : Nat → Bool) (j : Nat) : way d j j := .inl ⟨Nat.le_refl _, fun i h1 h2 => by omega⟩
theorem way_flow {d : Nat → Bool} {j i k : Nat} (h : way d j i) (hf : flow d i k) : way d j k := by
  rcases hf with ⟨rfl, hd⟩ | ⟨rfl, hd⟩
  · rcases h with ⟨hj, h⟩ | ⟨hj, h⟩
    · exact .inl ⟨by omega, fun q h1 h2 => by
        by_cases e : q = i + 1
        · rw [e]; exact hd
        · exact h q h1 (by omega)⟩
    · by_cases e : j = i
      · subst e
        exact .inl ⟨by omega, fun q h1 h2 => by rw [show q = j + 1 by omega]; exact hd⟩
      · rw [h (i + 1) (by omega) (by omega)] at hd; cases hd
  · rcases h with ⟨hj, h⟩ | ⟨hj, h⟩
    · by_cases e : j = k + 1
      · subst e
        exact .inr ⟨by omega, fun q h1 h2 => by rw [show q = k + 1 by omega]; exact hd⟩
      · rw [h (k + 1) (by omega) (by omega)] at hd; cases hd
    · exact .inr ⟨by omega, fun q h1 h2 => by
        by_cases e : q = k + 1
        · rw [e]; exact hd
        · exact h q (by omega) h2⟩
/-- each number is one of the first ones, from where it flowed -/
def From (d : Nat → Bool) (n : Nat) (f g : Nat → Int) : Prop := ∀ k, k < n → ∃ j, j < n ∧ way d j k ∧ g k = f j
theorem from_stp {d : Nat → Bool} {n : Nat} {f g : Nat → Int} (h : From d n f g) {k : Nat} (h1 : 1 ≤ k) (hk : k < n) : From d n f (stp d k g) := by
  intro i hi
  unfold stp
  cases hd : d k with
  | true =>
    rw [if_pos rfl]
    by_cases e : i = k - 1
    · simp only [e, if_true]
      rcases (show max (g (k - 1)) (g k) = g (k - 1) ∨ max (g (k - 1)) (g k) = g k by omega) with h2 | h2
      · rw [h2]; exact h (k - 1) (by omega)
      · rw [h2]
        obtain ⟨j, hj, hw, hg⟩ := h k hk
        exact ⟨j, hj, way_flow hw (.inr ⟨by omega, hd⟩), hg⟩
    · simp only [e, if_false]; exact h i hi
  | false =>
    rw [if_neg (by decide)]
    by_cases e : i = k
    · simp only [e, if_true]
      rcases (show max (g k) (g (k - 1)) = g k ∨ max (g k) (g (k - 1)) = g (k - 1) by omega) with h2 | h2
      · rw [h2]; exact h k hk
      · rw [h2]
        obtain ⟨j, hj, hw, hg⟩ := h (k - 1) (by omega)
        exact ⟨j, hj, way_flow hw (.inl ⟨by omega, hd⟩), hg⟩
    · simp only [e, if_false]; exact h i hi
theorem from_swp {d : Nat → Bool} {n : Nat} {f g : Nat → Int} (h : From d n f g) : ∀ k, k < n → From d n f (swp d k g)
  | 0, _ => h
  | k + 1, hk => from_stp (from_swp h k (by omega)) (by omega) hk
theorem from_rnd {d : Nat → Bool} {n : Nat} {f : Nat → Int} (hn : 0 < n) : ∀ r, From d n f (rnd d n r f)
  | 0 => fun k hk => ⟨k, hk, way_self d k, rfl⟩
  | r + 1 => from_swp (from_rnd hn r) (n - 1) (by omega)
/-- after r rounds each number has come r places far -/
theorem rnd_way {d : Nat → Bool} {n : Nat} {f : Nat → Int} : ∀ (r j k : Nat), j < n → k < n → way d j k → j ≤ k + r → k ≤ j + r → f j ≤ rnd d n r f k
  | 0, j, k, hj, hk, hw, h1, h2 => by
    obtain rfl : j = k := by omega
    exact Int.le_refl _
  | r + 1, j, k, hj, hk, hw, h1, h2 => by
    by_cases e : j = k
    · subst e; exact rnd_ge d n _ f j
    · rcases hw with ⟨hl, hw⟩ | ⟨hl, hw⟩
      · have ih := rnd_way (d := d) (n := n) (f := f) r j (k - 1) hj (by omega) (.inl ⟨by omega, fun q a b => hw q a (by omega)⟩) (by omega) (by omega)
        exact Int.le_trans ih (swp_flow (.inl ⟨by omega, hw k (by omega) (Nat.le_refl _)⟩) (n - 1) _ (by omega))
      · have ih := rnd_way (d := d) (n := n) (f := f) r j (k + 1) hj (by omega) (.inr ⟨by omega, fun q a b => hw q (by omega) b⟩) (by omega) (by omega)
        exact Int.le_trans ih (swp_flow (.inr ⟨rfl, hw (k + 1) (by omega) (by omega)⟩) (n - 1) _ (by omega))
/-- after as many rounds as there are places no number flows any more -/
theorem rnd_fix {d : Nat → Bool} {n : Nat} {f : Nat → Int} {i k : Nat} (hi : i < n) (hk : k < n) (h : flow d i k) : rnd d n n f i ≤ rnd d n n f k := by
  obtain ⟨j, hj, hw, hg⟩ := from_rnd (d := d) (f := f) (show 0 < n by omega) n i hi
  rw [hg]
  exact rnd_way n j k hj hk (way_flow hw h) (by omega) (by omega)

end Zm
end Go.Proofs.YtminplfgadhnnaaGreatDoor
end

/- Plain laws of zones: lamps, lanterns, the reference's bounds, the bounds that are drawn in. -/
section
namespace Go.Proofs.YtminplfgadhnnaaGreatDoor
namespace Zm
set_option linter.unusedSimpArgs false
set_option linter.unusedVariables false

/-- where an angle lies, counted from the first one -/
def aN (an : List Int) (i : Nat) : Nat := (an.getD i 0 - an.getD 0 0).toNat
/-- angles that only grow, up to 90 -/
def incB : Int → List Int → Bool
  | _, [] => true
  | p, a :: l => decide (p < a) && (decide (a ≤ 90) && incB a l)
def rgZ (m : Int) (x : Int × Int) : Bool := decide (0 ≤ x.1) && (decide (x.1 ≤ x.2) && decide (x.2 ≤ m))
def wtZ (x : Int) : Bool := decide (0 ≤ x) && decide (x ≤ 1000)
/-- which lamps are valid -/
def chkZ (an : List Int) (ls : List (Int × Int)) (fs : List Bool) (ws : List Int) : Int :=
  if an.length < 2 ∨ 10 < an.length then 6 else if incB (-1) an = false then 2
  else if ls.length ≠ an.length ∨ fs.length + 1 ≠ an.length ∨ (ws.length : Int) ≠ an.getD (an.length - 1) 0 - an.getD 0 0 + 1 then 15
  else if ls.all (rgZ 200) = false ∨ ws.all wtZ = false then 2 else 0

structure LampOk (an : List Int) (ls : List (Int × Int)) (fs : List Bool) (ws : List Int) : Prop where
  n2 : 2 ≤ an.length
  n10 : an.length ≤ 10
  bd : ∀ i, i < an.length → 0 ≤ an.getD i 0 ∧ an.getD i 0 ≤ 90
  inc : ∀ i, i + 1 < an.length → an.getD i 0 < an.getD (i + 1) 0
  lsl : ls.length = an.length
  fsl : fs.length + 1 = an.length
  wsl : ws.length = aN an (an.length - 1) + 1
  lsb : ∀ i, i < an.length → 0 ≤ (ls.getD i (0, 0)).1 ∧ (ls.getD i (0, 0)).1 ≤ (ls.getD i (0, 0)).2 ∧ (ls.getD i (0, 0)).2 ≤ 200
  wsb : ∀ k, k < ws.length → 0 ≤ ws.getD k 0 ∧ ws.getD k 0 ≤ 1000

theorem inc_ok : ∀ (p : Int) (l : List Int), incB p l = true → ∀ i, i < l.length → p < l.getD i 0 ∧ l.getD i 0 ≤ 90 ∧ (i + 1 < l.length → l.getD i 0 < l.getD (i + 1) 0)
  | p, [], h, i, hi => by simp at hi
  | p, a :: l, h, 0, hi => by
    simp only [incB, Bool.and_eq_true, decide_eq_true_eq] at h
    refine ⟨by simpa using h.1, by simpa using h.2.1, fun h1 => ?_⟩
    have := (inc_ok a l h.2.2 0 (by simpa using h1)).1
    simpa using this
  | p, a :: l, h, i + 1, hi => by
    simp only [incB, Bool.and_eq_true, decide_eq_true_eq] at h
    obtain ⟨h1, h2, h3⟩ := inc_ok a l h.2.2 i (by simpa using hi)
    refine ⟨by have : a < l.getD i 0 := h1; show p < (a :: l).getD (i + 1) 0; rw [List.getD_cons_succ]; omega, by rw [List.getD_cons_succ]; exact h2, fun h4 => ?_⟩
    rw [List.getD_cons_succ, List.getD_cons_succ]
    exact h3 (by simpa using h4)
theorem inc_mono {an : List Int} (h : ∀ i, i + 1 < an.length → an.getD i 0 < an.getD (i + 1) 0) : ∀ (k i : Nat), i ≤ k → k < an.length → an.getD i 0 + ((k - i : Nat) : Int) ≤ an.getD k 0
  | 0, i, hi, hk => by obtain rfl : i = 0 := by omega
                       simp
  | k + 1, i, hi, hk => by
    by_cases e : i = k + 1
    · subst e; simp
    · have h1 := inc_mono h k i (by omega) (by omega)
      have h2 := h k hk
      omega
section
variable {an : List Int} {ls : List (Int × Int)} {fs : List Bool} {ws : List Int}
theorem chk_lamp (h : chkZ an ls fs ws = 0) : LampOk an ls fs ws := by
  unfold chkZ at h
  split at h
  · cases h
  rename_i h1
  split at h
  · cases h
  rename_i h2
  split at h
  · cases h
  rename_i h3
  split at h
  · cases h
  rename_i h4
  have hi : incB (-1) an = true := by simpa using h2
  have hk := inc_ok (-1) an hi
  have hinc : ∀ i, i + 1 < an.length → an.getD i 0 < an.getD (i + 1) 0 := fun i hi => (hk i (by omega)).2.2 hi
  have hm := inc_mono hinc (an.length - 1) 0 (by omega) (by omega)
  refine ⟨by omega, by omega, fun i hi => ⟨by have := (hk i hi).1; omega, (hk i hi).2.1⟩, hinc, by omega, by omega, by unfold aN; omega, fun i hi => ?_, fun k hk => ?_⟩
  · have hall : ls.all (rgZ 200) = true := by
      cases e : ls.all (rgZ 200) with
      | true => rfl
      | false => exact absurd (.inl e) h4
    have hi' : i < ls.length := by omega
    have := List.all_eq_true.1 hall ls[i] (List.getElem_mem _)
    rw [List.getD_eq_getElem?_getD, List.getElem?_eq_getElem hi', Option.getD_some]
    simp [rgZ] at this
    omega
  · have hall : ws.all wtZ = true := by
      cases e : ws.all wtZ with
      | true => rfl
      | false => exact absurd (.inr e) h4
    have := List.all_eq_true.1 hall ws[k] (List.getElem_mem _)
    rw [List.getD_eq_getElem?_getD, List.getElem?_eq_getElem hk, Option.getD_some]
    simp [wtZ] at this
    omega

theorem LampOk.aN_lt (h : LampOk an ls fs ws) {i k : Nat} (hi : i < k) (hk : k < an.length) : aN an i < aN an k := by
  have h1 := inc_mono h.inc k i (by omega) hk
  have h2 := inc_mono h.inc i 0 (by omega) (by omega)
  unfold aN
  omega
theorem LampOk.aN_le (h : LampOk an ls fs ws) {i k : Nat} (hi : i ≤ k) (hk : k < an.length) : aN an i ≤ aN an k := by
  rcases Nat.lt_or_ge i k with h1 | h1
  · exact Nat.le_of_lt (h.aN_lt h1 hk)
  · obtain rfl : i = k := by omega
    exact Nat.le_refl _
theorem aN_zero (an : List Int) : aN an 0 = 0 := by unfold aN; omega
theorem LampOk.aN_int (h : LampOk an ls fs ws) {i : Nat} (hi : i < an.length) : an.getD i 0 = an.getD 0 0 + (aN an i : Nat) := by
  have := inc_mono h.inc i 0 (by omega) hi
  unfold aN; omega
theorem LampOk.aN_ws (h : LampOk an ls fs ws) {i : Nat} (hi : i < an.length) : aN an i < ws.length := by
  have := h.aN_le (show i ≤ an.length - 1 by omega) (by have := h.n2; omega)
  have := h.wsl
  omega
theorem LampOk.ws91 (h : LampOk an ls fs ws) : ws.length ≤ 91 ∧ 2 ≤ ws.length := by
  have h1 := h.wsl
  have h2 := h.bd (an.length - 1) (by have := h.n2; omega)
  have h3 := h.bd 0 (by have := h.n2; omega)
  have h4 := h.aN_lt (show 0 < an.length - 1 by have := h.n2; omega) (by have := h.n2; omega)
  unfold aN at h1 h4
  omega

/-- the gap in which a place lies: gaps are tried one after the other -/
def gapF (an : List Int) (k : Nat) : Nat → Nat → Nat
  | 0, i => i
  | f + 1, i => if aN an (i + 1) < k then gapF an k f (i + 1) else i
def gapN (an : List Int) (k : Nat) : Nat := gapF an k an.length 0
/-- whether the light falls to a place from the one before -/
def dF (an : List Int) (fs : List Bool) (k : Nat) : Bool := fs.getD (gapN an k) false
theorem gapF_eq (h : LampOk an ls fs ws) {i k : Nat} (hi : i + 1 < an.length) (h1 : aN an i < k) (h2 : k ≤ aN an (i + 1)) : ∀ f j, j ≤ i → i ≤ j + f → gapF an k f j = i
  | 0, j, hj, hf => by rw [gapF]; omega
  | f + 1, j, hj, hf => by
    rw [gapF]
    by_cases e : j = i
    · subst e; rw [if_neg (by omega)]
    · have := h.aN_le (show j + 1 ≤ i by omega) (by omega)
      rw [if_pos (by omega)]
      exact gapF_eq h hi h1 h2 f (j + 1) (by omega) (by omega)
theorem gapN_eq (h : LampOk an ls fs ws) {i k : Nat} (hi : i + 1 < an.length) (h1 : aN an i < k) (h2 : k ≤ aN an (i + 1)) : gapN an k = i :=
  gapF_eq h hi h1 h2 _ 0 (by omega) (by omega)
/-- each place but the first one lies in a gap -/
theorem gap_ex (h : LampOk an ls fs ws) {k : Nat} (h1 : 1 ≤ k) : ∀ m, m < an.length → k ≤ aN an m → ∃ i, i + 1 ≤ m ∧ aN an i < k ∧ k ≤ aN an (i + 1)
  | 0, hm, hk => by rw [aN_zero] at hk; omega
  | m + 1, hm, hk => by
    by_cases e : aN an m < k
    · exact ⟨m, by omega, e, hk⟩
    · obtain ⟨i, a, b⟩ := gap_ex h h1 m (by omega) (by omega)
      exact ⟨i, by omega, b⟩

/-- a lantern that is true for a lamp -/
def TrueL (an : List Int) (ls : List (Int × Int)) (fs : List Bool) (N : Nat) (x : Nat → Int) : Prop :=
  (∀ i, i < an.length → (ls.getD i (0, 0)).1 ≤ x (aN an i) ∧ x (aN an i) ≤ (ls.getD i (0, 0)).2) ∧ ∀ k, 1 ≤ k → k < N → if dF an fs k = true then x k ≤ x (k - 1) else x (k - 1) ≤ x k
/-- within a gap the light goes one way -/
theorem TrueL.gap (h : LampOk an ls fs ws) {x : Nat → Int} (hx : TrueL an ls fs ws.length x) {i : Nat} (hi : i + 1 < an.length) : ∀ (k j : Nat), aN an i ≤ j → j ≤ k → k ≤ aN an (i + 1) → if fs.getD i false = true then x k ≤ x j else x j ≤ x k
  | 0, j, h1, h2, h3 => by obtain rfl : j = 0 := by omega
                           split <;> exact Int.le_refl _
  | k + 1, j, h1, h2, h3 => by
    by_cases e : j = k + 1
    · subst e; split <;> exact Int.le_refl _
    · have ih := TrueL.gap h hx hi k j h1 (by omega) (by omega)
      have hs := hx.2 (k + 1) (by omega) (by have := h.aN_ws hi; omega)
      unfold dF at hs
      rw [gapN_eq h hi (by omega) h3] at hs
      cases hf : fs.getD i false with
      | true => rw [hf] at ih hs; simp at ih hs ⊢; omega
      | false => rw [hf] at ih hs; simp at ih hs ⊢; omega

/-- the reference's bounds -/
def ini (an : List Int) (g : Nat → Int) (o : Int) : Nat → Nat → Int
  | 0 => fun _ => o
  | m + 1 => fun k => if k = aN an m then g m else ini an g o m k
def loZ (an : List Int) (ls : List (Int × Int)) (fs : List Bool) (N : Nat) : Nat → Int := rnd (dF an fs) N N (ini an (fun i => (ls.getD i (0, 0)).1) 0 an.length)
def hiN (an : List Int) (ls : List (Int × Int)) (fs : List Bool) (N : Nat) : Nat → Int := rnd (fun k => !dF an fs k) N N (fun k => - ini an (fun i => (ls.getD i (0, 0)).2) 200 an.length k)
def hiZ (an : List Int) (ls : List (Int × Int)) (fs : List Bool) (N : Nat) (k : Nat) : Int := - hiN an ls fs N k
theorem ini_at (h : LampOk an ls fs ws) (g : Nat → Int) (o : Int) {i : Nat} : ∀ m, i < m → m ≤ an.length → ini an g o m (aN an i) = g i
  | m + 1, hi, hm => by
    rw [ini]
    by_cases e : i = m
    · subst e; simp
    · have := h.aN_lt (show i < m by omega) (by omega)
      simp only [show aN an i ≠ aN an m by omega, if_false]
      exact ini_at h g o m (by omega) (by omega)
theorem loZ_at (h : LampOk an ls fs ws) {i : Nat} (hi : i < an.length) : (ls.getD i (0, 0)).1 ≤ loZ an ls fs ws.length (aN an i) := by
  have := rnd_ge (dF an fs) ws.length ws.length (ini an (fun i => (ls.getD i (0, 0)).1) 0 an.length) (aN an i)
  rwa [ini_at h _ _ _ hi (Nat.le_refl _)] at this
theorem hiZ_at (h : LampOk an ls fs ws) {i : Nat} (hi : i < an.length) : hiZ an ls fs ws.length (aN an i) ≤ (ls.getD i (0, 0)).2 := by
  have := rnd_ge (fun k => !dF an fs k) ws.length ws.length (fun k => - ini an (fun i => (ls.getD i (0, 0)).2) 200 an.length k) (aN an i)
  rw [ini_at h _ _ _ hi (Nat.le_refl _)] at this
  unfold hiZ hiN
  omega
theorem loZ_fix {N k : Nat} (h1 : 1 ≤ k) (hk : k < N) : if dF an fs k = true then loZ an ls fs N k ≤ loZ an ls fs N (k - 1) else loZ an ls fs N (k - 1) ≤ loZ an ls fs N k := by
  unfold loZ
  cases hd : dF an fs k with
  | true => rw [if_pos rfl]; exact rnd_fix hk (by omega) (.inr ⟨by omega, hd⟩)
  | false => rw [if_neg (by decide)]; exact rnd_fix (by omega) hk (.inl ⟨by omega, hd⟩)
theorem hiZ_fix {N k : Nat} (h1 : 1 ≤ k) (hk : k < N) : if dF an fs k = true then hiZ an ls fs N k ≤ hiZ an ls fs N (k - 1) else hiZ an ls fs N (k - 1) ≤ hiZ an ls fs N k := by
  unfold hiZ hiN
  cases hd : dF an fs k with
  | true =>
    rw [if_pos rfl]
    have := rnd_fix (d := fun k => !dF an fs k) (f := fun k => - ini an (fun i => (ls.getD i (0, 0)).2) 200 an.length k) (show k - 1 < N by omega) hk (.inl ⟨by omega, by simp [hd]⟩)
    omega
  | false =>
    rw [if_neg (by decide)]
    have := rnd_fix (d := fun k => !dF an fs k) (f := fun k => - ini an (fun i => (ls.getD i (0, 0)).2) 200 an.length k) hk (show k - 1 < N by omega) (.inr ⟨by omega, by simp [hd]⟩)
    omega
/-- the reference finds a contradiction -/
def dbtZ (an : List Int) (ls : List (Int × Int)) (fs : List Bool) (N : Nat) : Bool := (List.range N).any fun k => decide (hiZ an ls fs N k < loZ an ls fs N k)
theorem dbt_no {N : Nat} (h : dbtZ an ls fs N = false) : ∀ k, k < N → loZ an ls fs N k ≤ hiZ an ls fs N k := by
  intro k hk
  unfold dbtZ at h
  rw [List.any_eq_false] at h
  have := h k (List.mem_range.2 hk)
  simp at this
  omega

/-- a number between two, by numbers -/
def pkZ (us : List Int) (k : Nat) (a b : Int) : Int := if us.length = 0 then a else a + us.getD (k % us.length) 0 % (b - a + 1)
theorem pkZ_in {us : List Int} {k : Nat} {a b : Int} (h : a ≤ b) : a ≤ pkZ us k a b ∧ pkZ us k a b ≤ b := by
  unfold pkZ
  split
  · omega
  · have h1 := Int.emod_nonneg (us.getD (k % us.length) 0) (show b - a + 1 ≠ 0 by omega)
    have h2 := Int.emod_lt_of_pos (us.getD (k % us.length) 0) (show 0 < b - a + 1 by omega)
    omega
/-- the lantern, by numbers -/
def lntZ (an : List Int) (ls : List (Int × Int)) (fs : List Bool) (us : List Int) (N : Nat) : Nat → Int
  | 0 => pkZ us 0 (loZ an ls fs N 0) (hiZ an ls fs N 0)
  | k + 1 => if dF an fs (k + 1) = true then pkZ us (k + 1) (loZ an ls fs N (k + 1)) (min (hiZ an ls fs N (k + 1)) (lntZ an ls fs us N k)) else pkZ us (k + 1) (max (loZ an ls fs N (k + 1)) (lntZ an ls fs us N k)) (hiZ an ls fs N (k + 1))
theorem lnt_in {us : List Int} {N : Nat} (h : dbtZ an ls fs N = false) : ∀ k, k < N → loZ an ls fs N k ≤ lntZ an ls fs us N k ∧ lntZ an ls fs us N k ≤ hiZ an ls fs N k ∧ (1 ≤ k → if dF an fs k = true then lntZ an ls fs us N k ≤ lntZ an ls fs us N (k - 1) else lntZ an ls fs us N (k - 1) ≤ lntZ an ls fs us N k)
  | 0, hk => by
    have := pkZ_in (us := us) (k := 0) (dbt_no h 0 hk)
    rw [lntZ]
    exact ⟨this.1, this.2, fun h => by omega⟩
  | k + 1, hk => by
    obtain ⟨i1, i2, -⟩ := lnt_in (us := us) h k (by omega)
    have f1 := loZ_fix (an := an) (ls := ls) (fs := fs) (show 1 ≤ k + 1 by omega) hk
    have f2 := hiZ_fix (an := an) (ls := ls) (fs := fs) (show 1 ≤ k + 1 by omega) hk
    have f3 := dbt_no h (k + 1) hk
    rw [Nat.add_sub_cancel] at *
    rw [lntZ]
    cases hd : dF an fs (k + 1) with
    | true =>
      rw [hd] at f1 f2
      simp only [if_true] at f1 f2 ⊢
      have := pkZ_in (us := us) (k := k + 1) (a := loZ an ls fs N (k + 1)) (b := min (hiZ an ls fs N (k + 1)) (lntZ an ls fs us N k)) (by omega)
      exact ⟨this.1, by omega, fun _ => by omega⟩
    | false =>
      rw [hd] at f1 f2
      simp only [Bool.false_eq_true, if_false] at f1 f2 ⊢
      have := pkZ_in (us := us) (k := k + 1) (a := max (loZ an ls fs N (k + 1)) (lntZ an ls fs us N k)) (b := hiZ an ls fs N (k + 1)) (by omega)
      exact ⟨by omega, this.2, fun _ => by omega⟩
/-- the lantern is true -/
theorem lnt_true {us : List Int} (h : LampOk an ls fs ws) (hd : dbtZ an ls fs ws.length = false) : TrueL an ls fs ws.length (lntZ an ls fs us ws.length) := by
  refine ⟨fun i hi => ?_, fun k h1 hk => (lnt_in hd k hk).2.2 h1⟩
  obtain ⟨a, b, -⟩ := lnt_in (us := us) hd _ (h.aN_ws hi)
  exact ⟨Int.le_trans (loZ_at h hi) a, Int.le_trans b (hiZ_at h hi)⟩

/-- a contradiction of two angles -/
def ctrB (ls : List (Int × Int)) (fs : List Bool) (i k : Nat) : Bool :=
  ((List.range (k - i)).all fun j => fs.getD (i + j) false == fs.getD i false) && (if fs.getD i false then decide ((ls.getD i (0, 0)).2 < (ls.getD k (0, 0)).1) else decide ((ls.getD k (0, 0)).2 < (ls.getD i (0, 0)).1))
theorem TrueL.chain (h : LampOk an ls fs ws) {x : Nat → Int} (hx : TrueL an ls fs ws.length x) {i : Nat} : ∀ m, i + m < an.length → (∀ j, j < m → fs.getD (i + j) false = fs.getD i false) → if fs.getD i false = true then x (aN an (i + m)) ≤ x (aN an i) else x (aN an i) ≤ x (aN an (i + m))
  | 0, _, _ => by split <;> exact Int.le_refl _
  | m + 1, hm, hs => by
    have ih := TrueL.chain h hx m (by omega) (fun j hj => hs j (by omega))
    have hg := TrueL.gap h hx (show i + m + 1 < an.length by omega) (aN an (i + m + 1)) (aN an (i + m)) (Nat.le_refl _) (h.aN_le (by omega) (by omega)) (Nat.le_refl _)
    rw [hs m (by omega)] at hg
    rw [← Nat.add_assoc]
    cases hf : fs.getD i false with
    | true => rw [hf] at ih hg; simp at ih hg ⊢; omega
    | false => rw [hf] at ih hg; simp at ih hg ⊢; omega
/-- where a lantern is true no angles contradict each other -/
theorem TrueL.no (h : LampOk an ls fs ws) {x : Nat → Int} (hx : TrueL an ls fs ws.length x) {i k : Nat} (hi : i < k) (hk : k < an.length) : ctrB ls fs i k = false := by
  cases hc : ctrB ls fs i k with
  | false => rfl
  | true =>
    unfold ctrB at hc
    rw [Bool.and_eq_true, List.all_eq_true] at hc
    have hch := TrueL.chain h hx (i := i) (k - i) (by omega) (fun j hj => by have := hc.1 j (List.mem_range.2 hj); simpa using this)
    rw [show i + (k - i) = k by omega] at hch
    have h1 := hx.1 i (by omega)
    have h2 := hx.1 k hk
    have h3 := hc.2
    generalize ls.getD i (0, 0) = u at h1 h3
    generalize ls.getD k (0, 0) = v at h2 h3
    cases hf : fs.getD i false with
    | true => rw [hf] at hch h3; simp at hch h3; omega
    | false => rw [hf] at hch h3; simp at hch h3; omega

/-- one gap draws the bounds of its angles in -/
def rlx (fs : List Bool) (i : Nat) (B : Nat → Int × Int) : Nat → Int × Int :=
  let h := if fs.getD i false then i else i + 1
  let l := if fs.getD i false then i + 1 else i
  fun j => if j = l then ((B l).1, min (B l).2 (B h).2) else if j = h then (max (B h).1 (B l).1, (B h).2) else B j
def psZ (fs : List Bool) : Nat → (Nat → Int × Int) → Nat → Int × Int
  | 0, B => B
  | m + 1, B => rlx fs m (psZ fs m B)
def Cont (n : Nat) (v : Nat → Int) (B : Nat → Int × Int) : Prop := ∀ i, i < n → (B i).1 ≤ v i ∧ v i ≤ (B i).2
theorem rlx_cont {n : Nat} {v : Nat → Int} {B : Nat → Int × Int} (hB : Cont n v B) {i : Nat} (hi : i + 1 < n) (hv : if fs.getD i false = true then v (i + 1) ≤ v i else v i ≤ v (i + 1)) : Cont n v (rlx fs i B) := by
  intro j hj
  have h1 := hB i (by omega)
  have h2 := hB (i + 1) hi
  have h3 := hB j hj
  unfold rlx
  cases hf : fs.getD i false with
  | true =>
    rw [hf] at hv
    simp only [if_true] at hv ⊢
    by_cases e1 : j = i + 1
    · subst e1; simp only [if_true]; constructor <;> omega
    · by_cases e2 : j = i
      · subst e2; simp only [e1, if_true, if_false]; constructor <;> omega
      · simp only [e1, e2, if_false]; exact h3
  | false =>
    rw [hf] at hv
    simp only [Bool.false_eq_true, if_false] at hv ⊢
    by_cases e1 : j = i
    · subst e1; simp only [if_true]; constructor <;> omega
    · by_cases e2 : j = i + 1
      · subst e2; simp only [e1, if_true, if_false]; constructor <;> omega
      · simp only [e1, e2, if_false]; exact h3
theorem ps_cont {n : Nat} {v : Nat → Int} {B : Nat → Int × Int} (hB : Cont n v B) (hv : ∀ i, i + 1 < n → if fs.getD i false = true then v (i + 1) ≤ v i else v i ≤ v (i + 1)) : ∀ m, m < n → Cont n v (psZ fs m B)
  | 0, _ => hB
  | m + 1, hm => rlx_cont (ps_cont hB hv m (by omega)) hm (hv m hm)
end

end Zm
end Go.Proofs.YtminplfgadhnnaaGreatDoor
end

/- Plain laws of zones: what the bounds and a lantern's lights can be; a lantern light by light. -/
section
namespace Go.Proofs.YtminplfgadhnnaaGreatDoor
namespace Zm
set_option linter.unusedSimpArgs false
set_option linter.unusedVariables false
variable {an : List Int} {ls : List (Int × Int)} {fs : List Bool} {ws us : List Int}

theorem ini_bd {g : Nat → Int} {o : Int} {n k : Nat} (hg : ∀ i, i < n → 0 ≤ g i ∧ g i ≤ 200) (ho : 0 ≤ o ∧ o ≤ 200) : ∀ m, m ≤ n → 0 ≤ ini an g o m k ∧ ini an g o m k ≤ 200
  | 0, _ => ho
  | m + 1, hm => by
    have ih := ini_bd hg ho (k := k) m (by omega)
    simp only [ini]
    split
    · exact hg m hm
    · exact ih
theorem loZ_bd (h : LampOk an ls fs ws) {k : Nat} (hk : k < ws.length) : 0 ≤ loZ an ls fs ws.length k ∧ loZ an ls fs ws.length k ≤ 200 := by
  obtain ⟨j, hj, -, e⟩ := from_rnd (d := dF an fs) (f := ini an (fun i => (ls.getD i (0, 0)).1) 0 an.length) (show 0 < ws.length by omega) ws.length k hk
  unfold loZ
  rw [e]
  exact ini_bd (fun i hi => by have := h.lsb i hi; omega) (by omega) _ (Nat.le_refl _)
theorem hiZ_bd (h : LampOk an ls fs ws) {k : Nat} (hk : k < ws.length) : 0 ≤ hiZ an ls fs ws.length k ∧ hiZ an ls fs ws.length k ≤ 200 := by
  obtain ⟨j, hj, -, e⟩ := from_rnd (d := fun k => !dF an fs k) (f := fun k => - ini an (fun i => (ls.getD i (0, 0)).2) 200 an.length k) (show 0 < ws.length by omega) ws.length k hk
  unfold hiZ hiN
  rw [e]
  have := ini_bd (an := an) (k := j) (g := fun i => (ls.getD i (0, 0)).2) (o := 200) (n := an.length) (fun i hi => by have := h.lsb i hi; omega) (by omega) _ (Nat.le_refl _)
  show 0 ≤ - - _ ∧ - - _ ≤ (200 : Int)
  omega
/-- between which numbers a light is, by the one before -/
def loA (d : Nat → Bool) (lo x : Nat → Int) : Nat → Int
  | 0 => lo 0
  | k + 1 => if d (k + 1) then lo (k + 1) else if lo (k + 1) < x k then x k else lo (k + 1)
def hiA (d : Nat → Bool) (hi x : Nat → Int) : Nat → Int
  | 0 => hi 0
  | k + 1 => if d (k + 1) then (if x k < hi (k + 1) then x k else hi (k + 1)) else hi (k + 1)
theorem lnt_step (N k : Nat) : lntZ an ls fs us N k = pkZ us k (loA (dF an fs) (loZ an ls fs N) (lntZ an ls fs us N) k) (hiA (dF an fs) (hiZ an ls fs N) (lntZ an ls fs us N) k) := by
  match k with
  | 0 => rw [lntZ]; rfl
  | k + 1 =>
    rw [lntZ]
    simp only [loA, hiA]
    cases hd : dF an fs (k + 1) with
    | true =>
      simp only [if_true]
      congr 1
      split <;> omega
    | false =>
      simp only [Bool.false_eq_true, if_false]
      congr 1
      split <;> omega
theorem lnt_bd (h : LampOk an ls fs ws) (hd : dbtZ an ls fs ws.length = false) {k : Nat} (hk : k < ws.length) : 0 ≤ lntZ an ls fs us ws.length k ∧ lntZ an ls fs us ws.length k ≤ 200 := by
  obtain ⟨a, b, -⟩ := lnt_in (us := us) hd k hk
  have h1 := loZ_bd h hk
  have h2 := hiZ_bd h hk
  omega
theorem lnt_ab (h : LampOk an ls fs ws) (hd : dbtZ an ls fs ws.length = false) {k : Nat} (hk : k < ws.length) : 0 ≤ loA (dF an fs) (loZ an ls fs ws.length) (lntZ an ls fs us ws.length) k ∧ loA (dF an fs) (loZ an ls fs ws.length) (lntZ an ls fs us ws.length) k ≤ hiA (dF an fs) (hiZ an ls fs ws.length) (lntZ an ls fs us ws.length) k ∧ hiA (dF an fs) (hiZ an ls fs ws.length) (lntZ an ls fs us ws.length) k ≤ 200 := by
  have b1 := loZ_bd h hk
  have b2 := hiZ_bd h hk
  have b3 := dbt_no hd k hk
  match k, hk, b1, b2, b3 with
  | 0, hk, b1, b2, b3 => exact ⟨b1.1, b3, b2.2⟩
  | k + 1, hk, b1, b2, b3 =>
    have f1 := loZ_fix (an := an) (ls := ls) (fs := fs) (show 1 ≤ k + 1 by omega) hk
    have f2 := hiZ_fix (an := an) (ls := ls) (fs := fs) (show 1 ≤ k + 1 by omega) hk
    obtain ⟨i1, i2, -⟩ := lnt_in (us := us) hd k (by omega)
    have b4 := lnt_bd (us := us) h hd (show k < ws.length by omega)
    rw [Nat.add_sub_cancel] at f1 f2
    simp only [loA, hiA]
    cases e : dF an fs (k + 1) with
    | true =>
      rw [e] at f1 f2
      simp only [if_true] at f1 f2 ⊢
      refine ⟨b1.1, ?_, ?_⟩ <;> split <;> omega
    | false =>
      rw [e] at f1 f2
      simp only [Bool.false_eq_true, if_false] at f1 f2 ⊢
      refine ⟨?_, ?_, b2.2⟩ <;> split <;> omega

end Zm
end Go.Proofs.YtminplfgadhnnaaGreatDoor
end

/- Plain laws of zones: bounds that are drawn in, pass by pass, come to an end; what a degree's bounds are then. -/
section
namespace Go.Proofs.YtminplfgadhnnaaGreatDoor
namespace Zm
set_option linter.unusedSimpArgs false
set_option linter.unusedVariables false

/-- narrower bounds -/
def Nar (B C : Nat → Int × Int) : Prop := ∀ i, (B i).1 ≤ (C i).1 ∧ (C i).2 ≤ (B i).2
theorem Nar.refl (B : Nat → Int × Int) : Nar B B := fun i => ⟨Int.le_refl _, Int.le_refl _⟩
theorem Nar.trans {B C D : Nat → Int × Int} (h : Nar B C) (k : Nar C D) : Nar B D := fun i => ⟨Int.le_trans (h i).1 (k i).1, Int.le_trans (k i).2 (h i).2⟩
/-- the place with the greater light of a gap's two, and the other one -/
def hiG (fs : List Bool) (i : Nat) : Nat := if fs.getD i false then i else i + 1
def loG (fs : List Bool) (i : Nat) : Nat := if fs.getD i false then i + 1 else i
theorem hlG (fs : List Bool) (i : Nat) : hiG fs i ≠ loG fs i ∧ hiG fs i ≤ i + 1 ∧ loG fs i ≤ i + 1 := by
  unfold hiG loG
  split <;> omega
theorem rlx_hl (fs : List Bool) (i : Nat) (B : Nat → Int × Int) : rlx fs i B = fun j => if j = loG fs i then ((B (loG fs i)).1, min (B (loG fs i)).2 (B (hiG fs i)).2) else if j = hiG fs i then (max (B (hiG fs i)).1 (B (loG fs i)).1, (B (hiG fs i)).2) else B j := rfl
theorem rlx_nar (fs : List Bool) (i : Nat) (B : Nat → Int × Int) : Nar B (rlx fs i B) := by
  intro j
  rw [rlx_hl]
  generalize loG fs i = l
  generalize hiG fs i = h
  show (B j).1 ≤ (if j = l then ((B l).1, min (B l).2 (B h).2) else if j = h then (max (B h).1 (B l).1, (B h).2) else B j).1 ∧ (if j = l then ((B l).1, min (B l).2 (B h).2) else if j = h then (max (B h).1 (B l).1, (B h).2) else B j).2 ≤ (B j).2
  by_cases e1 : j = l
  · rw [if_pos e1, e1]; exact ⟨Int.le_refl _, Int.min_le_left _ _⟩
  · rw [if_neg e1]
    by_cases e2 : j = h
    · rw [if_pos e2, e2]; exact ⟨Int.le_max_left _ _, Int.le_refl _⟩
    · rw [if_neg e2]; exact ⟨Int.le_refl _, Int.le_refl _⟩
theorem ps_nar (fs : List Bool) (B : Nat → Int × Int) : ∀ m, Nar B (psZ fs m B)
  | 0 => Nar.refl B
  | m + 1 => (ps_nar fs B m).trans (rlx_nar fs m _)
theorem rlx_out (fs : List Bool) (i : Nat) (B : Nat → Int × Int) {j : Nat} (h : i + 1 < j) : rlx fs i B j = B j := by
  have := hlG fs i
  rw [rlx_hl]
  show (if j = loG fs i then _ else if j = hiG fs i then _ else B j) = B j
  rw [if_neg (by omega), if_neg (by omega)]
theorem ps_out (fs : List Bool) (B : Nat → Int × Int) {j : Nat} : ∀ m, m < j → psZ fs m B j = B j
  | 0, _ => rfl
  | m + 1, h => by rw [psZ, rlx_out fs m _ (by omega), ps_out fs B m (by omega)]

/-- how wide bounds are, together -/
def wid (B : Nat → Int × Int) : Nat → Nat
  | 0 => 0
  | m + 1 => wid B m + ((B m).2 - (B m).1).toNat
theorem wid_le {B C : Nat → Int × Int} (h : Nar B C) : ∀ m, wid C m ≤ wid B m
  | 0 => Nat.le_refl _
  | m + 1 => by
    have := wid_le h m
    have := h m
    simp only [wid]
    omega
theorem wid_lt {B C : Nat → Int × Int} (h : Nar B C) (hC : ∀ i, i < 11 → (C i).1 ≤ (C i).2) {i : Nat} (hi : i < 11) (hne : B i ≠ C i) : wid C 11 < wid B 11 := by
  have key : ∀ m, i < m → m ≤ 11 → wid C m < wid B m := by
    intro m
    induction m with
    | zero => intro h1; omega
    | succ m ih =>
      intro h1 h2
      simp only [wid]
      by_cases e : i = m
      · subst e
        have h3 := wid_le h i
        have h4 := h i
        have h5 := hC i hi
        have h6 : ¬ ((B i).1 = (C i).1 ∧ (B i).2 = (C i).2) := fun q => hne (Prod.ext q.1 q.2)
        omega
      · have h3 := ih (by omega) (by omega)
        have h4 := h m
        omega
  exact key 11 hi (Nat.le_refl _)

/-- what the bounds of angles keep -/
structure InvB (n : Nat) (v : Nat → Int) (B : Nat → Int × Int) : Prop where
  c : Cont n v B
  bd : ∀ i, i < n → 0 ≤ (B i).1 ∧ (B i).2 ≤ 200
  z : ∀ i, n ≤ i → B i = (0, 0)
theorem InvB.all {n : Nat} {v : Nat → Int} {B : Nat → Int × Int} (h : InvB n v B) (i : Nat) : 0 ≤ (B i).1 ∧ (B i).1 ≤ (B i).2 ∧ (B i).2 ≤ 200 := by
  by_cases hi : i < n
  · have := h.bd i hi
    have := h.c i hi
    omega
  · rw [h.z i (by omega)]; decide
theorem InvB.ps {n : Nat} {v : Nat → Int} {B : Nat → Int × Int} (h : InvB n v B) {fs : List Bool} (hv : ∀ i, i + 1 < n → if fs.getD i false = true then v (i + 1) ≤ v i else v i ≤ v (i + 1)) {m : Nat} (hm : m < n) : InvB n v (psZ fs m B) :=
  ⟨ps_cont h.c hv m hm, fun i hi => by have := ps_nar fs B m i; have := h.bd i hi; omega, fun i hi => by rw [ps_out fs B m (by omega)]; exact h.z i hi⟩

section
variable {an : List Int} {ls : List (Int × Int)} {fs : List Bool} {ws : List Int}
/-- the first bounds -/
def b0 (ls : List (Int × Int)) : Nat → Int × Int := fun i => ls.getD i (0, 0)
theorem b0_inv (h : LampOk an ls fs ws) {x : Nat → Int} (hx : TrueL an ls fs ws.length x) : InvB an.length (fun i => x (aN an i)) (b0 ls) := by
  refine ⟨fun i hi => hx.1 i hi, fun i hi => ?_, fun i hi => ?_⟩
  · have := h.lsb i hi
    unfold b0
    omega
  · unfold b0
    rw [List.getD_eq_getElem?_getD, List.getElem?_eq_none (by rw [h.lsl]; exact hi)]
    rfl
theorem tr_gap (h : LampOk an ls fs ws) {x : Nat → Int} (hx : TrueL an ls fs ws.length x) : ∀ i, i + 1 < an.length → if fs.getD i false = true then x (aN an (i + 1)) ≤ x (aN an i) else x (aN an i) ≤ x (aN an (i + 1)) :=
  fun i hi => TrueL.gap h hx hi (aN an (i + 1)) (aN an i) (Nat.le_refl _) (h.aN_le (by omega) hi) (Nat.le_refl _)
/-- bounds that a light is in -/
def In2 (x : Int) (b : Int × Int) : Prop := 0 ≤ b.1 ∧ b.1 ≤ x ∧ x ≤ b.2 ∧ b.2 ≤ 200
/-- within a gap a light is between its ends' bounds -/
theorem gap_in (h : LampOk an ls fs ws) {x : Nat → Int} (hx : TrueL an ls fs ws.length x) {B : Nat → Int × Int} (hB : InvB an.length (fun i => x (aN an i)) B) {i k : Nat} (hi : i + 1 < an.length) (h1 : aN an i ≤ k) (h2 : k ≤ aN an (i + 1)) :
    In2 (x k) ((B (loG fs i)).1, (B (hiG fs i)).2) := by
  have g1 := TrueL.gap h hx hi k (aN an i) (Nat.le_refl _) h1 h2
  have g2 := TrueL.gap h hx hi (aN an (i + 1)) k h1 h2 (Nat.le_refl _)
  have c1 := hB.c i (by omega)
  have c2 := hB.c (i + 1) hi
  have d1 := hB.bd i (by omega)
  have d2 := hB.bd (i + 1) hi
  unfold In2 hiG loG
  try dsimp only at c1 c2 ⊢
  cases hf : fs.getD i false with
  | true => rw [hf] at g1 g2; simp only [if_true] at g1 g2 ⊢; omega
  | false => rw [hf] at g1 g2; simp only [Bool.false_eq_true, if_false] at g1 g2 ⊢; omega
theorem ang_in {x : Nat → Int} {B : Nat → Int × Int} (hB : InvB an.length (fun i => x (aN an i)) B) {i : Nat} (hi : i < an.length) : In2 (x (aN an i)) (B i) := by
  have c1 := hB.c i hi
  have d1 := hB.bd i hi
  unfold In2
  try dsimp only at c1
  omega
end
end Zm
end Go.Proofs.YtminplfgadhnnaaGreatDoor
end

/- The law of XEN1 (a long region that draws its order, taken in a row) inside a fence, in a round of a loop over a function, too: what is true of the worlds that meet S may be taken first. No operation of the region defers. -/
section
namespace Go.Proofs.YtminplfgadhnnaaGreatDoor
open Go
set_option linter.unusedSimpArgs false
set_option linter.unusedVariables false

/-- no operation defers -/
def noDfr : List Oper → Bool
  | [] => true
  | o :: r => (match o.op with | .defer _ => false | _ => true) && noDfr r
theorem noDfr_at : ∀ {l : List Oper}, noDfr l = true → ∀ (i : Nat) (o : Oper), l[i]? = some o → ∀ c, o.op ≠ .defer c
  | [], _, i, o, h, _ => by simp at h
  | x :: l, hn, 0, o, h, c => by
    simp only [noDfr, Bool.and_eq_true] at hn
    simp only [List.getElem?_cons_zero, Option.some.injEq] at h
    subst h
    intro e
    rw [e] at hn
    exact Bool.noConfusion hn.1
  | x :: l, hn, i + 1, o, h, c => by
    simp only [noDfr, Bool.and_eq_true] at hn
    exact noDfr_at hn.2 i o (by simpa using h) c

section
variable {F : Fence} {n : Nat} {P : Program} {ops : Array Oper} {Q : Exit → Act → World → Prop} {md : Region.Mode} {S : World → Prop}

/-- it yields v in every world that meets S, and is about to make no call -/
structure YH (P : Program) (ops : Array Oper) (S : World → Prop) (o : Oper) (v : Value) (a : Act) : Prop where
  y : YieldsIf P ops S o v a
  nocall : ∀ w, o.about P w a.eval = none

theorem YH.moved {o : Oper} {v u : Value} {a : Act} {d : Option Tmp} (h : YH P ops S o v a) (hs : ∀ cs b, o.op ≠ .select cs b) (hd : ∀ x, d = some x → x ∉ o.looksAt ops) : YH P ops S o v (a.put d u) :=
  ⟨h.y.of_same (execOp_put o hs a d u hd) (wanted_put o a d u hd), fun w => (about_put o w a d u hd).trans (h.nocall w)⟩

theorem YH.now {i : Nat} {o : Oper} {v : Value} {a : Act} {w : World} (h : YH P ops S o v a) (hi : ops[i]? = some o) (hnd : ∀ c, o.op ≠ .defer c) (hS : S w) {K : Act → World → Prop} (hK : K (a.put o.dst v) w) : wpOpIn F n P ops Q i K a w := by
  have hab : ∀ f, o.about P w a.eval = some f → F.fn f := fun f hf => by rw [h.nocall w] at hf; cases hf
  unfold wpOpIn
  simp only [hi]
  rcases h.y with ⟨hw, hv⟩ | ⟨hw, rfl⟩
  · rw [if_pos hw]
    refine ⟨hab, ?_⟩
    rw [Oper.semAt_eq _ _ _ hnd, hv w hS]
    exact hK
  · rw [if_neg (by rw [hw]; decide)]
    exact ⟨hab, hK⟩

/-- what an operation does beside one that is apart from it, and is put in later -/
theorem upon_later {oi oj : Oper} {v : Value} {a : Act} (hne : ∀ (a : Act) (u : Value), (a.put oi.dst v).put oj.dst u = (a.put oj.dst u).put oi.dst v) (hQ : ∀ c a w, Q (.panic c) (a.put oi.dst v) w → Q (.panic c) a w)
    {Y : Act → Prop} (hY : ∀ u, Y (a.put oj.dst u)) (hYd : ∀ d u, Y ({ a with defers := d :: a.defers }.put oj.dst u)) {K : Act → World → Prop} {r : Result Next} (h : oj.uponIn F n P (a.put oi.dst v) K Q r) : oj.uponIn F n P a (fun a' w' => Y a' ∧ K (a'.put oi.dst v) w') Q r := by
  have step : ∀ u w', K ((a.put oi.dst v).put oj.dst u) w' → Y (a.put oj.dst u) ∧ K ((a.put oj.dst u).put oi.dst v) w' := fun u w' hk => ⟨hY u, by rw [← hne]; exact hk⟩
  cases r with
  | halt x w' => cases x <;> first | exact hQ _ _ _ h | exact h
  | ok x w' =>
    cases x with
    | value u => exact step u w' h
    | skip => exact step _ w' h
    | defer d => exact ⟨hYd d _, by rw [← hne, ← Act.put_defers]; exact h⟩
    | row row args => exact ⟨h.1, RowsIn.mono h.2 fun u w'' k => step u w'' k⟩
    | enter f args => exact ⟨h.1, CallsIn.mono h.2 fun e w'' k => by cases e <;> first | exact step _ _ k | exact hQ _ _ _ k | exact k⟩
    | round l f tmps assign body => exact ⟨h.1, RoundIn.mono h.2 fun e w'' k => by cases e <;> first | exact step _ _ k | exact hQ _ _ _ k | exact k⟩
    | _ => exact h

theorem wpOpIn_later {j : Nat} {oi oj : Oper} {v : Value} (hj : ops[j]? = some oj) (hap : oi.apart ops oj = true) (hndj : ∀ c, oj.op ≠ .defer c)
    (hsi : ∀ cs b, oi.op ≠ .select cs b) (hsj : ∀ cs b, oj.op ≠ .select cs b) (hQ : ∀ c a w, Q (.panic c) (a.put oi.dst v) w → Q (.panic c) a w)
    {K : Act → World → Prop} {a : Act} {w : World} (hy : YH P ops S oi v a) (h : wpOpIn F n P ops Q j K (a.put oi.dst v) w) :
    wpOpIn F n P ops Q j (fun a' w' => YH P ops S oi v a' ∧ K (a'.put oi.dst v) w') a w := by
  obtain ⟨h1, h2, h3⟩ := Oper.apart_spec hap
  have hcm : ∀ (a : Act) (u : Value), (a.put oi.dst v).put oj.dst u = (a.put oj.dst u).put oi.dst v := fun a u => Act.put_comm a v u h2
  have hY : ∀ u, YH P ops S oi v (a.put oj.dst u) := fun u => hy.moved hsi h3
  have hYd : ∀ (d : Deferred) u, YH P ops S oi v ({ a with defers := d :: a.defers }.put oj.dst u) := fun d u => YH.moved (a := { a with defers := d :: a.defers }) ⟨hy.y.of_same rfl rfl, fun w => hy.nocall w⟩ hsi h3
  unfold wpOpIn at h ⊢
  simp only [hj] at h ⊢
  rw [wanted_put oj a oi.dst v h1, about_put oj w a oi.dst v h1] at h
  by_cases hw : Region.wanted oj (yielded ops a.tmps) = true
  · rw [if_pos hw] at h ⊢
    obtain ⟨g1, g2⟩ := h
    rw [about_put oj w a oi.dst v h1] at g1
    rw [Oper.semAt_eq _ _ _ hndj, execOp_put oj hsj a oi.dst v h1] at g2
    refine ⟨g1, ?_⟩
    rw [Oper.semAt_eq _ _ _ hndj]
    exact upon_later hcm hQ hY hYd g2
  · rw [if_neg hw] at h ⊢
    exact ⟨h.1, hY _, by rw [← hcm]; exact h.2⟩

/-- Whatever order is picked from here on, and S holds behind every operation that is carried out. -/
def wpAnyHIn (F : Fence) (n : Nat) (P : Program) (md : Region.Mode) (ops : Array Oper) (Q : Exit → Act → World → Prop) (S : World → Prop) : Nat → Array Bool → Act → World → Prop
  | 0, listed, a, w => Region.ready md ops listed = [] ∧ Q .normal a w
  | fuel + 1, listed, a, w =>
    (Region.ready md ops listed = [] → Q .normal a w) ∧
    ∀ i ∈ Region.ready md ops listed, wpOpIn F n P ops Q i (fun a' w' => S w' ∧ wpAnyHIn F n P md ops Q S fuel (listed.setIfInBounds i true) a' w') a w
theorem wpAnyIn_of_held : ∀ (fuel : Nat) (listed : Array Bool) (a : Act) (w : World), wpAnyHIn F n P md ops Q S fuel listed a w → wpAnyIn F n P md ops Q fuel listed a w
  | 0, _, _, _, h => h
  | fuel + 1, _, _, _, h => ⟨h.1, fun i hi => wpOpIn_mono (fun a' w' h' => wpAnyIn_of_held fuel _ a' w' h'.2) (h.2 i hi)⟩
theorem anyHIn_done {listed : Array Bool} {a : Act} {w : World} (hr : Region.ready md ops listed = []) (h : Q .normal a w) : ∀ fuel, wpAnyHIn F n P md ops Q S fuel listed a w
  | 0 => ⟨hr, h⟩
  | _ + 1 => ⟨fun _ => h, by rw [hr]; simp⟩
theorem anyHIn_all {rs : List Nat} {fuel : Nat} {listed : Array Bool} {a : Act} {w : World} (hr : Region.ready md ops listed = rs) (hne : rs ≠ [])
    (h : ∀ i ∈ rs, wpOpIn F n P ops Q i (fun a' w' => S w' ∧ wpAnyHIn F n P md ops Q S fuel (listed.setIfInBounds i true) a' w') a w) : wpAnyHIn F n P md ops Q S (fuel + 1) listed a w :=
  ⟨fun h0 => absurd (hr ▸ h0) hne, hr ▸ h⟩

/-- an operation that may come up is taken first -/
theorem anyHIn_first {i : Nat} {oi : Oper} {v : Value} (hi : ops[i]? = some oi) (hnd : ∀ (j : Nat) (o : Oper), ops[j]? = some o → ∀ c, o.op ≠ .defer c) (hsel : ∀ (j : Nat) (o : Oper) cs b, ops[j]? = some o → o.op ≠ .select cs b)
    (hQ : ∀ c a w, Q (.panic c) (a.put oi.dst v) w → Q (.panic c) a w) :
    ∀ (fuel : Nat) (listed : Array Bool) (a : Act) (w : World),
      (∀ j oj, ops[j]? = some oj → j ≠ i → listed.getD j true = false → (∀ e ∈ oj.after, Region.binds md e = true → e.on ≠ i) → oi.apart ops oj = true) →
      i ∈ Region.ready md ops listed → YH P ops S oi v a → S w →
      wpAnyHIn F n P md ops Q S fuel (listed.setIfInBounds i true) (a.put oi.dst v) w → wpAnyHIn F n P md ops Q S (fuel + 1) listed a w
  | 0, listed, a, w, _, hr, hy, hS, H => by
    refine ⟨fun h => absurd (h ▸ hr) (by simp), fun j hj => ?_⟩
    by_cases hji : j = i
    · rw [hji]; exact hy.now hi (hnd i oi hi) hS ⟨hS, H⟩
    · exact absurd (H.1 ▸ ready_mono hj hji) (by simp)
  | fuel + 1, listed, a, w, hfree, hr, hy, hS, H => by
    refine ⟨fun h => absurd (h ▸ hr) (by simp), fun j hj => ?_⟩
    by_cases hji : j = i
    · rw [hji]; exact hy.now hi (hnd i oi hi) hS ⟨hS, H⟩
    · obtain ⟨hun, oj, hoj, hall⟩ := mem_ready.1 hj
      have hnot : ∀ e ∈ oj.after, Region.binds md e = true → e.on ≠ i := fun e he hb heq => by
        have u1 := hall e he hb
        have u0 := (mem_ready.1 hr).1
        rw [heq, Array.getD_eq_getD_getElem?] at u1
        rw [Array.getD_eq_getD_getElem?] at u0
        cases hx : listed[i]? with
        | none => rw [hx] at u0; cases u0
        | some b => rw [hx] at u0 u1; rw [Option.getD_some] at u0 u1; rw [u0] at u1; cases u1
      have h2 := wpOpIn_later hoj (hfree j oj hoj hji hun hnot) (hnd j oj hoj) (fun cs b => hsel i oi cs b hi) (fun cs b => hsel j oj cs b hoj) hQ hy (H.2 j (ready_mono hj hji))
      refine wpOpIn_mono (fun a' w' h3 => ⟨h3.2.1, anyHIn_first hi hnd hsel hQ fuel _ a' w' (fun k ok hk hki hl hno => hfree k ok hk hki ?_ hno) (ready_mono hr (Ne.symm hji)) h3.1 h3.2.1 (by rw [Array.setIfInBounds_comm _ _ hji]; exact h3.2.2)⟩) h2
      by_cases hjk : j = k
      · rw [← hjk]; exact hun
      · rwa [getD_set_ne true hjk] at hl

/-- The operations in a row. -/
def wpSeqIn (F : Fence) (n : Nat) (P : Program) (ops : Array Oper) (Q : Exit → Act → World → Prop) (S : World → Prop) : List Stp → Act → World → Prop
  | [], a, w => Q .normal a w
  | .t i _ :: r, a, w => ∃ o v, nth ops.toList i = some o ∧ YH P ops S o v a ∧ wpSeqIn F n P ops Q S r (a.put o.dst v) w
  | .o i _ :: r, a, w => wpOpIn F n P ops Q i (fun a' w' => S w' ∧ wpSeqIn F n P ops Q S r a' w') a w
  | .b i j _ _ _ :: r, a, w =>
    wpOpIn F n P ops Q i (fun a' w' => S w' ∧ wpOpIn F n P ops Q j (fun a' w' => S w' ∧ wpSeqIn F n P ops Q S r a' w') a' w') a w ∧
    wpOpIn F n P ops Q j (fun a' w' => S w' ∧ wpOpIn F n P ops Q i (fun a' w' => S w' ∧ wpSeqIn F n P ops Q S r a' w') a' w') a w

theorem wpAnyHIn_seq (hnd : noDfr ops.toList = true) (hns : Region.noSelect ops = true) (hQ : ∀ c a d v w, Q (.panic c) (a.put d v) w → Q (.panic c) a w) :
    ∀ (sts : List Stp) (m : Nat) (l : Array Bool) (fuel : Nat) (a : Act) (w : World), Msk ops.size l m → plan md ops sts m = true → lng sts ≤ fuel → S w →
      wpSeqIn F n P ops Q S sts a w → wpAnyHIn F n P md ops Q S fuel l a w
  | [], m, l, fuel, a, w, hm, hp, _, _, h => by
    have := emp_eq (show emp (rdy md ops.toList 0 m) = true from hp)
    exact anyHIn_done (by rw [rdy_eq hm, this]) h fuel
  | .t i m' :: r, m, l, fuel, a, w, hm, hp, hl, hS, h => by
    simp only [plan, Bool.and_eq_true] at hp
    obtain ⟨⟨⟨h1, h2⟩, h3⟩, h4⟩ := hp
    obtain ⟨o, v, ho, hy, h⟩ := h
    have hmem := hasN_mem _ _ h1
    have hlt := lt_of_rdy hm hmem
    obtain ⟨f, rfl⟩ : ∃ f, fuel = f + 1 := ⟨fuel - 1, by simp only [lng] at hl; omega⟩
    simp only [lng] at hl
    have h2' : fre md ops o i ops.toList 0 m = true := by unfold freAt at h2; rw [ho] at h2; exact h2
    have hms := hm.set i hlt
    rw [← Nat.eq_of_beq_eq_true h3] at hms
    refine anyHIn_first (nth_ops ho) (fun j o hj => noDfr_at hnd j o (by simpa using hj)) (Region.noSelect_spec hns) (fun c a w => hQ c a o.dst v w) f l a w (fun j oj hj hne hun hno => ?_) (by rw [rdy_eq hm]; exact hmem) hy hS
      (wpAnyHIn_seq hnd hns hQ r m' _ f _ w hms h4 (by omega) hS h)
    have hjl := (Array.getElem?_eq_some_iff.1 hj).1
    have hs := fre_spec ops.toList 0 h2' j oj (by simpa using hj)
    rw [Nat.zero_add] at hs
    rw [hm.getD j true hjl] at hun
    simp only [Bool.or_eq_true] at hs
    rcases hs with ((hs | hs) | hs) | hs
    · exact absurd (Nat.eq_of_beq_eq_true hs) hne
    · rw [hun] at hs; cases hs
    · obtain ⟨e, he, hb⟩ := Array.any_eq_true'.1 hs
      simp only [Bool.and_eq_true] at hb
      exact absurd (Nat.eq_of_beq_eq_true hb.2) (hno e he hb.1)
    · exact hs
  | .o i m' :: r, m, l, fuel, a, w, hm, hp, hl, hS, h => by
    simp only [plan, Bool.and_eq_true] at hp
    obtain ⟨⟨h1, h3⟩, h4⟩ := hp
    have h1 := one1_eq h1
    have hlt := lt_of_rdy (md := md) hm (i := i) (by rw [h1]; simp)
    obtain ⟨f, rfl⟩ : ∃ f, fuel = f + 1 := ⟨fuel - 1, by simp only [lng] at hl; omega⟩
    simp only [lng] at hl
    have hms := hm.set i hlt
    rw [← Nat.eq_of_beq_eq_true h3] at hms
    refine anyHIn_all (rs := [i]) (by rw [rdy_eq hm, h1]) (by simp) (fun k hk => ?_)
    obtain rfl : k = i := by simpa using hk
    exact wpOpIn_mono (fun a' w' h' => ⟨h'.1, wpAnyHIn_seq hnd hns hQ r m' _ f a' w' hms h4 (by omega) h'.1 h'.2⟩) h
  | .b i j mi mj m' :: r, m, l, fuel, a, w, hm, hp, hl, hS, h => by
    simp only [plan, Bool.and_eq_true] at hp
    obtain ⟨⟨⟨⟨⟨⟨h1, h2⟩, h3⟩, h4⟩, h5⟩, h6⟩, h7⟩ := hp
    have h1 := two2_eq h1
    have hlti := lt_of_rdy (md := md) hm (i := i) (by rw [h1]; simp)
    have hltj := lt_of_rdy (md := md) hm (i := j) (by rw [h1]; simp)
    obtain ⟨f, rfl⟩ : ∃ f, fuel = f + 2 := ⟨fuel - 2, by simp only [lng] at hl; omega⟩
    simp only [lng] at hl
    have hmi := hm.set i hlti
    have hmj := hm.set j hltj
    have hmij := hmi.set j hltj
    have hmji := hmj.set i hlti
    rw [show (m ||| 1 <<< j) ||| 1 <<< i = (m ||| 1 <<< i) ||| 1 <<< j by rw [Nat.or_assoc, Nat.or_assoc, Nat.or_comm (1 <<< j)]] at hmji
    rw [← Nat.eq_of_beq_eq_true h2] at hmi hmij hmji
    rw [← Nat.eq_of_beq_eq_true h6] at hmij hmji
    rw [← Nat.eq_of_beq_eq_true h3] at hmj
    refine anyHIn_all (rs := [i, j]) (by rw [rdy_eq hm, h1]) (by simp) (fun k hk => ?_)
    rcases (show k = i ∨ k = j by simpa using hk) with rfl | rfl
    · refine wpOpIn_mono (fun a' w' h' => ⟨h'.1, ?_⟩) h.1
      refine anyHIn_all (rs := [j]) (by rw [rdy_eq hmi, one1_eq h4]) (by simp) (fun q hq => ?_)
      obtain rfl : q = j := by simpa using hq
      exact wpOpIn_mono (fun a' w' h' => ⟨h'.1, wpAnyHIn_seq hnd hns hQ r m' _ f a' w' hmij h7 (by omega) h'.1 h'.2⟩) h'.2
    · refine wpOpIn_mono (fun a' w' h' => ⟨h'.1, ?_⟩) h.2
      refine anyHIn_all (rs := [i]) (by rw [rdy_eq hmj, one1_eq h5]) (by simp) (fun q hq => ?_)
      obtain rfl : q = i := by simpa using hq
      exact wpOpIn_mono (fun a' w' h' => ⟨h'.1, wpAnyHIn_seq hnd hns hQ r m' _ f a' w' hmji h7 (by omega) h'.1 h'.2⟩) h'.2

/-- The beginning. -/
theorem wpIn_region_seq {id : Nat} {a : Act} {w : World} (sts : List Stp) (hm : P.follows .mixedOrders = true) (hnd : noDfr ops.toList = true) (hns : Region.noSelect ops = true) (hp : plan .any ops sts 0 = true)
    (hl : Nat.ble (lng sts) ops.size = true) (hQ : ∀ c a d v w, Q (.panic c) (a.put d v) w → Q (.panic c) a w) (hS : S w.drew) (h : S w.drew → wpSeqIn F n P ops Q S sts a w.drew) :
    (Code.region id ops true).wpIn F n P Q a w :=
  wpIn_region_any hm (wpAnyIn_of_held _ _ _ _ (wpAnyHIn_seq hnd hns hQ sts 0 _ _ _ _ (Msk.zero _) hp (Nat.le_of_ble_eq_true hl) hS (h hS)))

/-- An operation is taken first. -/
theorem seqIn_take {i m' : Nat} {r : List Stp} {o : Oper} {v : Value} {a : Act} {w : World} (ho : nth ops.toList i = some o) (hw : Region.wanted o (yielded ops a.tmps) = true) (hab : ∀ w, o.about P w a.eval = none)
    (hv : ∀ w, S w → (execOp a.eval o).run P w = .ok (.value v) w) (h : wpSeqIn F n P ops Q S r (a.put o.dst v) w) : wpSeqIn F n P ops Q S (.t i m' :: r) a w :=
  ⟨o, v, ho, ⟨.inl ⟨hw, hv⟩, hab⟩, h⟩
/-- An operation is carried out. -/
theorem seqIn_one {i m' : Nat} {r : List Stp} {o : Oper} {a : Act} {w : World} (ho : nth ops.toList i = some o) (hw : Region.wanted o (yielded ops a.tmps) = true)
    (h : o.wpIn F n P a w (fun a' w' => S w' ∧ wpSeqIn F n P ops Q S r a' w') Q) : wpSeqIn F n P ops Q S (.o i m' :: r) a w := by
  show wpOpIn F n P ops Q i _ a w
  unfold wpOpIn
  simp only [nth_ops ho]
  rw [if_pos hw]
  exact h
/-- All have come up. -/
theorem seqIn_done {a : Act} {w : World} (h : Q .normal a w) : wpSeqIn F n P ops Q S [] a w := h
end
end Go.Proofs.YtminplfgadhnnaaGreatDoor
end
