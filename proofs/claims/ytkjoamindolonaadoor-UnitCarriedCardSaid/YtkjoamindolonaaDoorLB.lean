/- Contracts of layer 1 for every input, and what the simplest fraction is. -/
import Derived.Test.YtkjoamindolonaaDoorRA6
import Derived.Test.YtkjoamindolonaaDoorRA7
import Derived.Test.YtkjoamindolonaaDoorRA8
import Derived.Test.YtkjoamindolonaaDoorRA9
import Derived.Test.YtkjoamindolonaaDoorRA10
import Derived.Test.YtkjoamindolonaaDoorUA13
import Derived.Test.YtkjoamindolonaaDoorUA21
namespace Go.Proofs.YtkjoamindolonaaDoor
open Go.RowKit Go.Shelf
set_option linter.unusedSimpArgs false
set_option linter.unusedVariables false
open Um (frac S4 spanB spanE Simp turn4)

theorem rCarry_any (a b c d : Int) (A : Option Addr) (n cap : Nat) (zs : List S4) (w : World) (hz : Spans w A n zs) (hn : n ≤ 9223372036854775807) :
    Calls Tryd.prog 17 #[.agg #[.int .i64 a, .int .i64 b, .int .i64 c, .int .i64 d], .slice A n cap] w fun e w' => e = RetS (Um.carried (a, b, c, d) zs fun d => d) ∧ Below w.heap.size w w' := by
  by_cases h : decE (a, b, c, d) zs = 0
  · exact rCarry_ok a b c d A n cap zs w hz hn h
  · rw [decE_err (fun d => d) h]; exact rCarry_bad a b c d A n cap zs w hz hn h

theorem rBack_any (a b c d : Int) (A : Option Addr) (n cap : Nat) (zs : List S4) (w : World) (hz : Spans w A n zs) (hn : n ≤ 9223372036854775807) :
    Calls Tryd.prog 19 #[.agg #[.int .i64 a, .int .i64 b, .int .i64 c, .int .i64 d], .slice A n cap] w fun e w' => e = RetS (Um.carried (a, b, c, d) zs.reverse turn4) ∧ Below w.heap.size w w' := by
  by_cases h : decE (a, b, c, d) zs = 0
  · exact rBack_ok a b c d A n cap zs w hz hn h
  · have h2 : decE (a, b, c, d) zs.reverse ≠ 0 := by rw [decE_rev]; exact h
    rw [decE_err turn4 h2, decE_rev]; exact rBack_bad a b c d A n cap zs w hz hn h

/-- what the simplest fraction of a span is -/
structure Best1 (s : S4) (n m : Int) : Prop where
  fr : frac n m = true
  lo : s.1 * m ≤ n * s.2.1
  hi : n * s.2.2.2 ≤ s.2.2.1 * m
  simp : Simp s.1 s.2.1 s.2.2.1 s.2.2.2 n m
  n1 : 1 ≤ n
  n2 : n ≤ 1000000000
  m1 : 1 ≤ m
  m2 : m ≤ 1000000000

theorem best1 {s : S4} (h : spanB s = true) : Best1 s (Um.ev (Um.best s)).1 (Um.ev (Um.best s)).2 := by
  have hb := Um.best_ok s h
  have h1 := hb.simp.n0
  have h2 := hb.simp.m0
  have h3 := hb.n
  have h4 := hb.m
  refine ⟨?_, hb.simp.lo, hb.simp.hi, hb.simp, by omega, h3, by omega, h4⟩
  have hg := Um.ev_gcd (Um.best s)
  unfold frac
  exact decide_eq_true ⟨by omega, h3, by omega, h4, hg⟩

theorem Best1.inB {s : S4} {n m : Int} (h : Best1 s n m) : inB n m s = true := by
  unfold Proofs.YtkjoamindolonaaDoor.inB
  rw [decide_eq_true h.lo, decide_eq_true h.hi]; rfl

theorem inB_iff (n d : Int) (s : S4) : inB n d s = true ↔ s.1 * d ≤ n * s.2.1 ∧ n * s.2.2.2 ≤ s.2.2.1 * d := by
  unfold inB
  rw [Bool.and_eq_true, decide_eq_true_eq, decide_eq_true_eq]

/-- the simplest fraction and the error, whatever the span -/
theorem simplestE_any (a b c d : Int) (w : World) (hfa : FirstAt w) :
    Calls Tryd.prog 22 #[.agg #[.int .i64 a, .int .i64 b, .int .i64 c, .int .i64 d]] w fun e w' => e = RetFE (Um.simplestP (a, b, c, d)) ∧ Below w.heap.size w w' := by
  unfold Um.simplestP
  cases h : spanB (a, b, c, d) with
  | true => rw [if_pos rfl]; exact simplestE_ok a b c d w h hfa
  | false => rw [if_neg (by decide)]; exact simplestE_bad a b c d w h

/-- the simplest fraction of a valid span, by letters -/
theorem simplest_let (a b c d : Int) (h : spanB (a, b, c, d) = true) : ∃ n m : Int, Best1 (a, b, c, d) n m ∧ ∀ w, FirstAt w →
    Calls Tryd.prog 22 #[.agg #[.int .i64 a, .int .i64 b, .int .i64 c, .int .i64 d]] w fun e w' => e = .returned (.tuple #[.agg #[.int .i64 n, .int .i64 m], .int .i64 0]) ∧ Below w.heap.size w w' :=
  ⟨_, _, best1 h, fun w hf => simplestE_ok a b c d w h hf⟩

/-- the path of a fraction, and the error -/
def pathP (n d : Int) : List Int × Int := if frac n d = true then (Um.eu (d.toNat + 1) n d, 0) else ([], 2)

theorem path_any (n d : Int) (w : World) : Calls Tryd.prog 26 #[.agg #[.int .i64 n, .int .i64 d]] w (RetIntsE (pathP n d).1 (pathP n d).2 w) := by
  unfold pathP
  cases h : frac n d with
  | true => rw [if_pos rfl]; exact path_ok n d w h
  | false => rw [if_neg (by decide)]; exact path_bad n d w h
theorem rpath_any (n d : Int) (w : World) : Calls Tryd.prog 27 #[.agg #[.int .i64 n, .int .i64 d]] w (RetIntsE (pathP n d).1 (pathP n d).2 w) := by
  unfold pathP
  cases h : frac n d with
  | true => rw [if_pos rfl]; exact rpath_ok n d w h
  | false => rw [if_neg (by decide)]; exact rpath_bad n d w h

theorem pathP_len (n d : Int) : (pathP n d).1.length ≤ 60 := by
  unfold pathP
  cases h : frac n d with
  | false => rw [if_neg (by decide)]; simp
  | true =>
    rw [if_pos rfl]
    obtain ⟨n1, n2, d1, d2⟩ := Um.frac_bd h
    have hcan := Um.eu_canonical (d.toNat + 1) n d n1 d1 (Um.frac_gcd h) (by omega)
    have hev := Um.eu_ev (d.toNat + 1) n d (by omega) (by omega) (Um.frac_gcd h) (by omega)
    exact Um.canon_len _ hcan (by rw [hev]; exact d2)

theorem followE_any (A : Option Addr) (len cap : Nat) (zs : List Int) (w : World) (hz : Ints w A len zs) (hn : len ≤ 9223372036854775807) (hfa : FirstAt w) :
    Calls Tryd.prog 28 #[.slice A len cap] w fun e w' => e = RetFE (Um.follow zs) ∧ Below w.heap.size w w' := by
  unfold Um.follow
  rw [hz.1]
  by_cases h : len = 0 ∨ 64 < len
  · rw [if_pos h]; exact follow_many A len cap w h hn
  · rw [if_neg h]
    cases hp : Um.pathB zs with
    | false => rw [if_pos rfl]; exact follow_arg A len cap zs w hz (by omega) (by omega) hp
    | true => rw [if_neg (by decide)]; exact follow_any A len cap zs w hz (by omega) (by omega) hp hfa

theorem rfollowE_any (A : Option Addr) (len cap : Nat) (zs : List Int) (w : World) (hz : Ints w A len zs) (hn : len ≤ 9223372036854775807) :
    Calls Tryd.prog 29 #[.slice A len cap] w fun e w' => e = RetFE (Um.follow zs) ∧ Below w.heap.size w w' := by
  unfold Um.follow
  rw [hz.1]
  by_cases h : len = 0 ∨ 64 < len
  · rw [if_pos h]; exact rfollow_many A len cap w h hn
  · rw [if_neg h]
    obtain ⟨L, rfl⟩ : ∃ L, len = L + 1 := ⟨len - 1, by omega⟩
    by_cases hL : L = 0
    · subst hL
      have h1 : ∃ x, zs = [x] := by
        have := hz.1
        match zs, this with
        | [x], _ => exact ⟨x, rfl⟩
      obtain ⟨x, rfl⟩ := h1
      have k := rfollow_one A cap x w hz
      have e : (if Um.pathB [x] = false then (((0 : Int), (0 : Int)), (2 : Int)) else if (Um.ev [x]).1 ≤ 1000000000 ∧ (Um.ev [x]).2 ≤ 1000000000 then (Um.ev [x], 0) else ((0, 0), 4)) = if x < 1 then ((0, 0), 2) else if x ≤ 1000000000 then ((x, 1), 0) else ((0, 0), 4) := by
        by_cases h1 : x < 1
        · rw [if_pos h1, if_pos (by simp [Um.pathB]; omega)]
        · rw [if_neg h1, if_neg (by simp [Um.pathB]; omega)]
          have e2 : Um.ev [x] = (x, 1) := by simp [Um.ev]
          rw [e2]
          by_cases h2 : x ≤ 1000000000
          · rw [if_pos h2, if_pos ⟨h2, by show (1 : Int) ≤ 1000000000; decide⟩]
          · rw [if_neg h2, if_neg (fun k => h2 k.1)]
      rw [e]
      exact k
    · cases hp : Um.pathB zs with
      | false => rw [if_pos rfl]; exact rfollow_arg A L cap zs w hz (by omega) (by omega) hp
      | true => rw [if_neg (by decide)]; exact rfollow_any A L cap zs w hz (by omega) (by omega) hp

end Go.Proofs.YtkjoamindolonaaDoor
