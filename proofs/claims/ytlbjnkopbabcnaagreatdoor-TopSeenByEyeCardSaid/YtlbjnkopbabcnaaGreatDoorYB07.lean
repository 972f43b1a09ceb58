/- BA7 -/
import Derived.Test.YtlbjnkopbabcnaaGreatDoorYB06
/- Walks of package bench: ranges; Places. -/
section
namespace Go.Proofs.YtlbjnkopbabcnaaGreatDoor
open Go.RowKit Go.Shelf
set_option linter.unusedSimpArgs false
set_option linter.unusedVariables false

set_option maxHeartbeats 400000 in
theorem indexRgs_any (A : Option Addr) (n c g : Nat) (zs : List (Int × Int)) (lb : Array Value) (p : Int × Int → Bool) (w : World) (eg : ∀ args w, (callFunc g args).run Tryz.prog w = .ok (.enter g args) w)
    (hz : Prs w A n zs) (hn : n ≤ 9223372036854775807) (hp : PredPrs Tryz.prog g lb p zs w) :
    Calls Tryz.prog 129 #[.slice A n c, .func (.func g) #[] lb] w fun e w' => e = .returned (.int .i64 (Um.idx p zs)) ∧ Below w.heap.size w w' := by
  have Hz := Lib.hid hz
  have Hp := Lib.hid hp
  clear hp hz
  go_enter Tryz.func129, Tryz.ntmps129
  go_wp2
  go_loopw [5, 8] (fun _ i wr => ∃ k : Nat, k ≤ n ∧ i = .int .i64 k ∧ Hid (∀ i y, i < k → zs[i]? = some y → p y = false) ∧ Below w.heap.size w wr) (fun _ i _ => n - (intOf i).toNat)
  case atStart => exact ⟨0, Nat.zero_le _, rfl, fun i y hi => by omega, Below.refl _ _⟩
  case round =>
    obtain ⟨k, hk, rfl, hpre, hbl⟩ := hrel
    by_cases hlt : k < n
    · obtain ⟨b, off, x, y, rfl, hget, c0, c1⟩ := Hz.out.at_ hbl hlt
      have Hget := Lib.hid hget
      have hcall := Hp.out (x, y) (List.mem_of_getElem? hget) wr hbl
      dsimp only at hcall
      clear hget
      cases hq : p (x, y) with
      | true =>
        rw [hq] at hcall
        have Hq := Lib.hid hq
        clear hq
        go_wp2_with (go_at_fn g; refine hcall.mono ?_; rintro e w' ⟨rfl, hb'⟩)
        go_ret
        exact ⟨ret_int (Um.idx_at p k zs (x, y) hpre.out Hget.out Hq.out).symm, hb'⟩
      | false =>
        rw [hq] at hcall
        have Hq := Lib.hid hq
        clear hq
        go_wp2_with (go_at_fn g; refine hcall.mono ?_; rintro e w' ⟨rfl, hb'⟩)
        go_roundw
        case rel =>
          refine ⟨k + 1, by omega, by go_num, fun i v hi hy => ?_, hb'⟩
          by_cases hik : i < k
          · exact hpre.out i v hik hy
          · have : i = k := by omega
            subst this
            have := Hget.out
            rw [hy] at this
            injection this with this
            rw [this]; exact Hq.out
        case measure => simp [intOf]; omega
    · go_wp2
      go_ret
      refine ⟨ret_int (Um.idx_none p zs (fun y hy => ?_)).symm, hbl⟩
      obtain ⟨i, hi, hiy⟩ := List.mem_iff_getElem.1 hy
      exact hpre.out i y (by have := Hz.out.1; omega) (by rw [List.getElem?_eq_getElem hi, hiy])

set_option maxHeartbeats 400000 in
theorem containsRgs_any (A : Option Addr) (n c g : Nat) (zs : List (Int × Int)) (lb : Array Value) (p : Int × Int → Bool) (w : World) (eg : ∀ args w, (callFunc g args).run Tryz.prog w = .ok (.enter g args) w)
    (hz : Prs w A n zs) (hn : n ≤ 9223372036854775807) (hp : PredPrs Tryz.prog g lb p zs w) :
    Calls Tryz.prog 60 #[.slice A n c, .func (.func g) #[] lb] w fun e w' => e = .returned (.bool (zs.any p)) ∧ Below w.heap.size w w' := by
  have h1 := indexRgs_any A n c g zs lb p w eg hz hn hp
  have h2 := Um.idx_any p zs
  have H2 := Lib.hid h2
  clear h2 hz hp eg
  generalize zs.any p = r at *
  generalize Um.idx p zs = ix at *
  go_enter Tryz.func60, Tryz.ntmps60
  go_wp2_with (go_at_call 129; refine h1.mono ?_; rintro e w' ⟨rfl, hb'⟩)
  go_ret
  exact ⟨ret_bool H2.out, hb'⟩


/-- a range is valid, with ends from lo to hi -/
def rgB (lo hi : Int) (x : Int × Int) : Bool := decide (x.1 ≤ x.2) && (decide (lo ≤ x.1) && decide (x.2 ≤ hi))

set_option maxHeartbeats 1000000 in
theorem isRange_any (x y lo hi : Int) (w : World) :
    Calls Tryz.prog 62 #[.agg #[.int .i64 x, .int .i64 y], .int .i64 lo, .int .i64 hi] w fun e w' => e = .returned (.bool (rgB lo hi (x, y))) ∧ Below w.heap.size w w' := by
  by_cases h : x ≤ y
  · have k1 := fun A c W hz => within_any lo hi A 2 c [x, y] W hz (by omega)
    have e1 : Hid (([x, y].all fun z => !out lo hi z) = rgB lo hi (x, y)) := Lib.hid (by
      simp only [List.all_cons, List.all_nil, out, rgB, Bool.and_true]
      rw [Bool.eq_iff_iff]; simp; omega)
    generalize ([x, y].all fun z => !out lo hi z) = r at *
    go_enter Tryz.func62, Tryz.ntmps62
    go_wp2_with fail
    refine (k1 _ _ _ (Ints.new2 _ _ _ _ _ (by simp))).mono ?_
    rintro _ w1 ⟨rfl, hb1⟩
    replace hbw : Below w.heap.size w w1 := blA
    clear hb1
    clear k1
    go_wp2_with fail
    go_ret
    exact ⟨ret_bool e1.out, blA⟩
  · have e1 : Hid (false = rgB lo hi (x, y)) := Lib.hid (by simp [rgB, h])
    go_enter Tryz.func62, Tryz.ntmps62
    go_wp2_with fail
    go_ret
    exact ⟨ret_bool e1.out, blA⟩

set_option maxHeartbeats 1000000 in
theorem placesC_any (x y : Int) (w : World) :
    Calls Tryz.prog 61 #[.agg #[.int .i64 x, .int .i64 y]] w fun e w' => e = .returned (.bool (!rgB 0 100000 (x, y))) ∧ Below w.heap.size w w' := by
  have k1 := fun W => isRange_any x y 0 100000 W
  generalize rgB 0 100000 (x, y) = r at *
  go_enter Tryz.func61, Tryz.ntmps61
  go_wp2_with fail
  refine (k1 _).mono ?_
  rintro e w1 ⟨rfl, hb1⟩
  replace hbw : Below w.heap.size w w1 := blA
  clear hb1
  go_wp2_with fail
  go_ret
  exact ⟨rfl, blA⟩

/-- how many of the first ranges are surely above one, and may be, itself but for the second two -/
def rg (zs : List (Int × Int)) (k : Nat) : Int × Int := zs.getD k (0, 0)
def pLo (zs : List (Int × Int)) (i : Nat) : Nat → Nat
  | 0 => 0
  | k + 1 => pLo zs i k + if (rg zs i).2 < (rg zs k).1 then 1 else 0
def pHi (zs : List (Int × Int)) (i : Nat) : Nat → Nat
  | 0 => 0
  | k + 1 => pHi zs i k + if (rg zs i).1 < (rg zs k).2 then 1 else 0
def rLo (zs : List (Int × Int)) (i : Nat) : Nat → Nat
  | 0 => 0
  | k + 1 => rLo zs i k + if k ≠ i ∧ (rg zs i).2 < (rg zs k).1 then 1 else 0
def rHi (zs : List (Int × Int)) (i : Nat) : Nat → Nat
  | 0 => 0
  | k + 1 => rHi zs i k + if k ≠ i ∧ (rg zs i).1 < (rg zs k).2 then 1 else 0
theorem pLo_le (zs : List (Int × Int)) (i : Nat) : ∀ k, pLo zs i k ≤ k
  | 0 => Nat.le_refl _
  | k + 1 => by have := pLo_le zs i k; rw [pLo]; split <;> omega
theorem pHi_le (zs : List (Int × Int)) (i : Nat) : ∀ k, pHi zs i k ≤ k
  | 0 => Nat.le_refl _
  | k + 1 => by have := pHi_le zs i k; rw [pHi]; split <;> omega
theorem rLo_le (zs : List (Int × Int)) (i : Nat) : ∀ k, rLo zs i k ≤ k
  | 0 => Nat.le_refl _
  | k + 1 => by have := rLo_le zs i k; rw [rLo]; split <;> omega
theorem rHi_le (zs : List (Int × Int)) (i : Nat) : ∀ k, rHi zs i k ≤ k
  | 0 => Nat.le_refl _
  | k + 1 => by have := rHi_le zs i k; rw [rHi]; split <;> omega
theorem pLo_r {zs : List (Int × Int)} {i : Nat} (h : (rg zs i).1 ≤ (rg zs i).2) : ∀ k, pLo zs i k = rLo zs i k
  | 0 => rfl
  | k + 1 => by
    rw [pLo, rLo, pLo_r h k]
    by_cases e : k = i
    · subst e; rw [if_neg (by omega), if_neg (by omega)]
    · by_cases hl : (rg zs i).2 < (rg zs k).1
      · rw [if_pos hl, if_pos ⟨e, hl⟩]
      · rw [if_neg hl, if_neg (fun h => hl h.2)]
theorem pHi_r {zs : List (Int × Int)} {i : Nat} : ∀ k, pHi zs i k = rHi zs i k + if i < k ∧ (rg zs i).1 < (rg zs i).2 then 1 else 0
  | 0 => by simp [pHi, rHi]
  | k + 1 => by
    rw [pHi, rHi, pHi_r k]
    by_cases e : k = i
    · subst e
      rw [if_neg (show ¬ (k < k ∧ (rg zs k).1 < (rg zs k).2) by omega), if_neg (show ¬ (k ≠ k ∧ (rg zs k).1 < (rg zs k).2) by omega)]
      by_cases hl : (rg zs k).1 < (rg zs k).2
      · rw [if_pos hl, if_pos ⟨by omega, hl⟩]
      · rw [if_neg hl, if_neg (fun h => hl h.2)]
    · have hc : (if i < k ∧ (rg zs i).1 < (rg zs i).2 then (1 : Nat) else 0) = if i < k + 1 ∧ (rg zs i).1 < (rg zs i).2 then 1 else 0 := by
        by_cases h : i < k ∧ (rg zs i).1 < (rg zs i).2
        · rw [if_pos h, if_pos ⟨by omega, h.2⟩]
        · rw [if_neg h, if_neg (fun h2 => h ⟨by omega, h2.2⟩)]
      rw [hc]
      have hd : (if (rg zs i).1 < (rg zs k).2 then (1 : Nat) else 0) = if k ≠ i ∧ (rg zs i).1 < (rg zs k).2 then 1 else 0 := by
        by_cases hl : (rg zs i).1 < (rg zs k).2
        · rw [if_pos hl, if_pos ⟨e, hl⟩]
        · rw [if_neg hl, if_neg (fun h => hl h.2)]
      rw [hd]; omega
/-- the places that lamps can have -/
def plcL (zs : List (Int × Int)) : List (Int × Int) := (List.range zs.length).map fun i => (((rLo zs i zs.length : Nat) : Int), ((rHi zs i zs.length : Nat) : Int))
def placesE (zs : List (Int × Int)) : List (Int × Int) × Int :=
  if zs.length = 0 ∨ 12 < zs.length then ([], 6) else if zs.any (fun x => !rgB 0 100000 x) then ([], 2) else (plcL zs, 0)

/-- a row by a function -/
def rowF (m : Nat) (f : Nat → Int) : List Int := (List.range m).map f
theorem rowF_len (m : Nat) (f : Nat → Int) : (rowF m f).length = m := by simp [rowF]
theorem rowF_get {m i : Nat} (f : Nat → Int) (hi : i < m) : (rowF m f).getD i 0 = f i := by simp [rowF, List.getD_eq_getElem?_getD, hi]
theorem rowF_set (m j : Nat) (f : Nat → Int) (v : Int) : (rowF m f).set j v = rowF m fun i => if i = j then v else f i := by
  apply List.ext_getElem
  · simp [rowF]
  · intro i h1 h2
    simp only [rowF, List.getElem_set, List.getElem_map, List.getElem_range]
    by_cases e : j = i
    · subst e; simp
    · rw [if_neg e, if_neg (fun h => e h.symm)]
theorem rowF_zero (m : Nat) : rowF m (fun _ => 0) = List.replicate m 0 := by
  apply List.ext_getElem
  · simp [rowF]
  · intro i h1 h2; simp [rowF]

theorem run_makeR2 (n : Nat) (hn : n ≤ 1000) (w : World) : (Instr.makeSlice 23 (.int .i64 (n : Int)) (.int .i64 (n : Int))).run Tryz.prog w = .ok (.slice (some ⟨w.heap.size, 0, none⟩) n n) (w.alloc (.cells (zerosA (n * 2)) 41)) := by
  obtain ⟨hu, hinf, -⟩ := elRange
  obtain ⟨i, hi, hzz⟩ := Option.map_eq_some_iff.1 hinf
  simp only [Prod.mk.injEq] at hzz
  obtain ⟨hz0, hs, hby⟩ := hzz
  have h := run_make (P := Tryz.prog) w 23 41 i _ hu hi hz0 .i64 .i64 n n (by omega) (by omega) (by rw [hby]; omega) (by omega)
  rw [hs] at h
  have e : madeCells (Value.agg #[.int .i64 0, .int .i64 0]).cells ((n : Int).toNat * 2) = zerosA (n * 2) := by
    unfold madeCells zerosA
    apply Array.ext
    · simp
    · intro i h1 h2
      have : i % 2 = 0 ∨ i % 2 = 1 := by omega
      rcases this with h | h <;> simp [Value.cells, h]
  rw [e] at h
  simpa using h
theorem Rw.zerosT (w : World) (n H : Nat) (t : TypeId) (hH : w.heap.size = H) : Rw (w.alloc (.cells (zerosA n) t)) H (List.replicate n 0) := by
  subst hH
  exact ⟨t, heap_alloc_new w _⟩
theorem rg_of {zs : List (Int × Int)} {k : Nat} {x y : Int} (h : zs[k]? = some (x, y)) : rg zs k = (x, y) := by
  unfold rg; rw [List.getD_eq_getElem?_getD, h]; rfl

end Go.Proofs.YtlbjnkopbabcnaaGreatDoor
end
