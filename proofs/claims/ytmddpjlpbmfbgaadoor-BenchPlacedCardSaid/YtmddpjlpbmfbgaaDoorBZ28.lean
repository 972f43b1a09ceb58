/- BM10 -/
import Derived.Test.YtmddpjlpbmfbgaaDoorBZ08
import Derived.Test.YtmddpjlpbmfbgaaDoorBZ24
/- Plain laws: how many lamps are brighter than a lamp, whatever the powers truly are. -/
section
namespace Go.Proofs.YtmddpjlpbmfbgaaDoor
set_option linter.unusedSimpArgs false
set_option linter.unusedVariables false

/-- how many of the first lamps are brighter than a lamp -/
def mnyK (zs : List (Int × Int)) (us : List Int) (i : Nat) : Nat → Nat
  | 0 => 0
  | k + 1 => mnyK zs us i k + if k ≠ i ∧ pickE (rg zs i).1 (rg zs i).2 (turnL us i) < pickE (rg zs k).1 (rg zs k).2 (turnL us k) then 1 else 0
theorem mny_le (zs : List (Int × Int)) (us : List Int) (i : Nat) : ∀ k, mnyK zs us i k ≤ k
  | 0 => Nat.le_refl _
  | k + 1 => by have := mny_le zs us i k; rw [mnyK]; split <;> omega
theorem mny_in {zs : List (Int × Int)} {us : List Int} {i : Nat} (h : ∀ j, j < zs.length → (rg zs j).1 ≤ (rg zs j).2) (hi : i < zs.length) : ∀ k, k ≤ zs.length → rLo zs i k ≤ mnyK zs us i k ∧ mnyK zs us i k ≤ rHi zs i k
  | 0, _ => ⟨Nat.le_refl _, Nat.le_refl _⟩
  | k + 1, hk => by
    obtain ⟨h1, h2⟩ := mny_in (us := us) h hi k (by omega)
    have a1 := pickE_in (by_ := turnL us i) (h i hi)
    have a2 := pickE_in (by_ := turnL us k) (h k (by omega))
    rw [rLo, mnyK, rHi]
    generalize pickE (rg zs i).1 (rg zs i).2 (turnL us i) = x at *
    generalize pickE (rg zs k).1 (rg zs k).2 (turnL us k) = y at *
    split <;> split <;> split <;> omega
theorem any_rg {zs : List (Int × Int)} : zs.any (fun x => !rgB 0 100000 x) = false ↔ ∀ j, j < zs.length → rgB 0 100000 (rg zs j) = true := by
  rw [List.any_eq_false]
  constructor
  · intro h j hj
    have := h (zs[j]) (List.getElem_mem _)
    unfold rg
    rw [List.getD_eq_getElem?_getD, List.getElem?_eq_getElem hj, Option.getD_some]
    simpa using this
  · intro h x hx
    obtain ⟨j, hj, rfl⟩ := List.mem_iff_getElem.1 hx
    have := h j hj
    unfold rg at this
    rw [List.getD_eq_getElem?_getD, List.getElem?_eq_getElem hj, Option.getD_some] at this
    simpa using this
theorem any_rg_t {zs : List (Int × Int)} {j : Nat} (hj : j < zs.length) (h : rgB 0 100000 (rg zs j) = false) : zs.any (fun x => !rgB 0 100000 x) = true := by
  cases he : zs.any (fun x => !rgB 0 100000 x) with
  | true => rfl
  | false => rw [any_rg.1 he j hj] at h; cases h
theorem plc_len (zs : List (Int × Int)) : (plcL zs).length = zs.length := by simp [plcL]
theorem plc_get {zs : List (Int × Int)} {k : Nat} (hk : k < zs.length) : (plcL zs)[k]? = some (((rLo zs k zs.length : Nat) : Int), ((rHi zs k zs.length : Nat) : Int)) := by
  simp [plcL, hk]
theorem rgB_iff {x y : Int} : rgB 0 100000 (x, y) = true ↔ x ≤ y ∧ 0 ≤ x ∧ y ≤ 100000 := by simp [rgB]
theorem turnL_bd {us : List Int} (h : ∀ i, i < us.length → 0 ≤ us.getD i 0 ∧ us.getD i 0 ≤ 4294967295) (i : Nat) : 0 ≤ turnL us i ∧ turnL us i ≤ 4294967295 := by
  unfold turnL
  split
  · omega
  · exact h _ (Nat.mod_lt _ (by omega))

end Go.Proofs.YtmddpjlpbmfbgaaDoor
end
