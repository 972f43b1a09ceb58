/- The walk of UnitCarried: it answers true. -/
import Derived.Test.YtkjoamindolonaaDoorLD
import Derived.Deep.DeepCutAuto
import Derived.BigQuiet
namespace Go.Proofs.YtkjoamindolonaaDoor
open Go.RowKit Go.Shelf
set_option linter.unusedSimpArgs false
set_option linter.unusedVariables false
open Um (frac S4 spanB spanE turn4 pt inS)

/-- the true number of a decree -/
def trueAt (zs : List S4) (bs : List Int) (j : Nat) : Int × Int :=
  if j + 1 < bs.length then Um.inside (zs.getD j (0, 0, 0, 0)) (bs.getD (j + 1) 0) else ((zs.getD j (0, 0, 0, 0)).1, (zs.getD j (0, 0, 0, 0)).2.1)
/-- the true numbers of the first decrees, as spans -/
def trues (zs : List S4) (bs : List Int) (k : Nat) : List S4 := (List.range k).map fun j => pt (trueAt zs bs j)
theorem trues_succ (zs : List S4) (bs : List Int) (k : Nat) : trues zs bs (k + 1) = trues zs bs k ++ [pt (trueAt zs bs k)] := by unfold trues; rw [List.range_succ, List.map_append]; rfl
theorem trues_len (zs : List S4) (bs : List Int) (k : Nat) : (trues zs bs k).length = k := by simp [trues]

/-- what is needed of spans that are carried over -/
structure CL (s : S4) (zs : List S4) (x : Int × Int) (ts : List S4) (t v u : S4) (e f g : Int) : Prop where
  kt : ∀ A n cap w, Spans w A n zs → n ≤ 9223372036854775807 → Calls Tryd.prog 16 #[.agg #[.int .i64 s.1, .int .i64 s.2.1, .int .i64 s.2.2.1, .int .i64 s.2.2.2], .slice A n cap] w fun x w' => x = .returned (.tuple #[.agg #[.int .i64 t.1, .int .i64 t.2.1, .int .i64 t.2.2.1, .int .i64 t.2.2.2], .int .i64 e]) ∧ Below w.heap.size w w'
  kv : ∀ A n cap w, Spans w A n ts → n ≤ 9223372036854775807 → Calls Tryd.prog 16 #[.agg #[.int .i64 x.1, .int .i64 x.2, .int .i64 x.1, .int .i64 x.2], .slice A n cap] w fun y w' => y = .returned (.tuple #[.agg #[.int .i64 v.1, .int .i64 v.2.1, .int .i64 v.2.2.1, .int .i64 v.2.2.2], .int .i64 f]) ∧ Below w.heap.size w w'
  ku : e = 0 → ∀ A n cap w, Spans w A n zs → n ≤ 1000 → Calls Tryd.prog 18 #[.agg #[.int .i64 t.1, .int .i64 t.2.1, .int .i64 t.2.2.1, .int .i64 t.2.2.2], .slice A n cap] w fun x w' => x = .returned (.tuple #[.agg #[.int .i64 u.1, .int .i64 u.2.1, .int .i64 u.2.2.1, .int .i64 u.2.2.2], .int .i64 g]) ∧ Below w.heap.size w w'
  e04 : e = 0 ∨ e = 4
  f04 : f = 0 ∨ f = 4
  g04 : e = 0 → g = 0 ∨ g = 4
  st : e = 0 → spanB t = true
  sv : f = 0 → spanB v = true ∧ v.1 = v.2.2.1 ∧ v.2.1 = v.2.2.2
  vt : e = 0 → f = 0 → inB v.1 v.2.1 t = true
  su : e = 0 → g = 0 → spanB u = true
  lo : e = 0 → g = 0 → inB s.1 s.2.1 u = true
  hi : e = 0 → g = 0 → inB s.2.2.1 s.2.2.2 u = true
  ex : e = 0 → g = 0 → (∀ z ∈ zs, z.1 = z.2.2.1 ∧ z.2.1 = z.2.2.2) → u = s

theorem cl_of {s : S4} {zs : List S4} {x : Int × Int} {bs : List Int} (hs : spanB s = true) (hlen : zs.length ≤ 8) (hzs : ∀ z ∈ zs, spanB z = true) (hx : frac x.1 x.2 = true) (hin : inS x s) :
    ∃ t v u e f g, CL s zs x (trues zs bs zs.length) t v u e f g := by
  have ht : trues zs bs zs.length = ((List.range zs.length).map (trueAt zs bs)).map pt := by simp [trues]
  have hT : ∀ j, (h : j < zs.length) → frac (trueAt zs bs j).1 (trueAt zs bs j).2 = true ∧ inS (trueAt zs bs j) zs[j] := by
    intro j hj
    have hz := hzs _ (List.getElem_mem hj)
    have e : zs.getD j (0, 0, 0, 0) = zs[j] := by rw [List.getD_eq_getElem?_getD, List.getElem?_eq_getElem hj]; rfl
    unfold trueAt
    rw [e]
    split
    · exact Um.inside_in _ hz
    · obtain ⟨s1, s2, s3⟩ := (Um.spanB_iff _).1 hz
      exact ⟨s1, Int.le_refl _, s3⟩
  have L := Um.carried_laws (s := s) (zs := zs) (x := x) (xs := (List.range zs.length).map (trueAt zs bs)) hs hlen hzs hx hin (by simp)
    (fun y hy => by obtain ⟨j, hj, rfl⟩ := List.mem_map.1 hy; exact (hT j (List.mem_range.1 hj)).1) (fun i hi => by rw [List.getElem_map, List.getElem_range]; exact (hT i hi).2)
  rw [← ht] at L
  obtain ⟨L1, L2, L3, L4, L5⟩ := L
  refine ⟨_, _, _, _, _, _, ⟨fun A n cap w hz hn => Carry_any _ _ _ _ A n cap zs w hz hn, fun A n cap w hz hn => Carry_any _ _ _ _ A n cap _ w hz hn, fun _ A n cap w hz hn => Back_any _ _ _ _ A n cap zs w hz hn, L1, L3, fun h => (L5 h).1, L2, fun h => ⟨(L4 h).1, (L4 h).2.1, (L4 h).2.2.1⟩, fun h1 h2 => (inB_iff _ _ _).2 ((L4 h2).2.2.2 h1), fun h1 h2 => ((L5 h1).2 h2).1,
    fun h1 h2 => (inB_iff _ _ _).2 ((L5 h1).2 h2).2.1, fun h1 h2 => (inB_iff _ _ _).2 ((L5 h1).2 h2).2.2.1, fun h1 h2 => ((L5 h1).2 h2).2.2.2⟩⟩


end Go.Proofs.YtkjoamindolonaaDoor
