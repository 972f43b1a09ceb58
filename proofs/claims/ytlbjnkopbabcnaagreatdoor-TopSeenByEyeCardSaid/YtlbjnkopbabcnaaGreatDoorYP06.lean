/- PB3 -/
import Derived.Test.YtlbjnkopbabcnaaGreatDoorYP05
import Derived.Test.YtlbjnkopbabcnaaGreatDoorYP04
/- Walks of the law package of layer 4: pick. -/
section
namespace Go.Proofs.YtlbjnkopbabcnaaGreatDoor
open Go.RowKit Go.Shelf
set_option linter.unusedSimpArgs false
set_option linter.unusedVariables false

set_option maxRecDepth 100000 in
set_option maxHeartbeats 4000000 in
theorem pick4_any (x y : Int) (A : Option Addr) (k c at_ : Nat) (zs : List Int) (w : World) (hz : U16s w A k zs) (hk : k ≤ 1000) (ha : at_ ≤ 1000) (h1 : 0 ≤ x) (h2 : x ≤ y) (h3 : y ≤ 1000) :
    Calls Tryz.prog 53 #[.agg #[.int .i64 x, .int .i64 y], .slice A k c, .int .i64 (at_ : Nat)] w fun e w' => (∃ v : Int, e = .returned (.int .i64 v) ∧ x ≤ v ∧ v ≤ y) ∧ Below w.heap.size w w' := by
  by_cases hk0 : k = 0
  · subst hk0
    clear hz
    go_enter Tryz.func53, Tryz.ntmps53
    go_wp2_with fail
    go_ret
    exact ⟨⟨x, rfl, by omega, by omega⟩, blA⟩
  · have hmod : at_ % k < k := Nat.mod_lt _ (by omega)
    obtain ⟨b, off, rfl, hlt, hc, q1, q2⟩ := hz.at_ (Below.refl _ _) hmod
    have hm1 : (0 : Int) < (k : Int) := by omega
    have hmod' : (at_ : Int).tmod (k : Int) = ((at_ % k : Nat) : Int) := by rw [Int.tmod_eq_emod_of_nonneg (by omega)]; simp
    obtain ⟨q, hq⟩ : ∃ q, at_ % k = q := ⟨_, rfl⟩
    obtain ⟨u, hu⟩ : ∃ u, zs.getD (at_ % k) 0 = u := ⟨_, rfl⟩
    rw [hu] at hc q1 q2
    rw [hq] at hc hmod hmod'
    have hyt : u.tmod (y - x + 1) = u % (y - x + 1) := Int.tmod_eq_emod_of_nonneg q1
    have h0 : ¬ y - x + 1 = 0 := by omega
    have r1 := Int.emod_nonneg u (b := y - x + 1) (by omega)
    have r2 := Int.emod_lt_of_pos u (b := y - x + 1) (by omega)
    have hk0i : ¬ (k : Int) = 0 := by omega
    obtain ⟨r, hr⟩ : ∃ r, u % (y - x + 1) = r := ⟨_, rfl⟩
    rw [hr] at r1 r2 hyt
    have hxr : 0 ≤ x + r ∧ x + r ≤ 1000 := by omega
    clear hz hq hu hr
    go_enter Tryz.func53, Tryz.ntmps53
    go_wp2_with fail
    go_quiet (fail)
    go_wp2_with fail
    go_ret
    exact ⟨⟨x + r, rfl, by omega, by omega⟩, blA⟩

end Go.Proofs.YtlbjnkopbabcnaaGreatDoor
end
