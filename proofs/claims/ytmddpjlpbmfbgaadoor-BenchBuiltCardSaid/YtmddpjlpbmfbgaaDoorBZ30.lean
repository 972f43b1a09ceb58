/- BM12 -/
import Derived.Test.YtmddpjlpbmfbgaaDoorBZ24
/- Plain laws: the programme that is built, and pairs after it; a trimmed programme. -/
section
namespace Go.Proofs.YtmddpjlpbmfbgaaDoor
set_option linter.unusedSimpArgs false
set_option linter.unusedVariables false
open Bm (Pr OkP runL runB runF tab rowL ordB unord fstBad srtL srtL_eq usd uslL trmL exch cex buildL depL)

/-- a row in order stays as it is -/
theorem ord_cex {l : List Int} (h : ordB l = true) {x : Pr} (hx : x.1 < x.2 ∧ x.2 < l.length) : cex x l = l := by
  have := Bm.ordB_le h x.1 x.2 (by omega) hx.2
  rw [Bm.cex_swap hx, if_neg (by omega)]
theorem ord_runL {n : Nat} {l : List Int} (h : ordB l = true) (hl : l.length = n) : ∀ p : List Pr, OkP n p → runL p l = l
  | [], _ => rfl
  | x :: p, hp => by
    show runL p (cex x l) = l
    rw [ord_cex h (by have := hp.head; omega)]
    exact ord_runL h hl p hp.tail
theorem built_none {n : Nat} (h2 : 2 ≤ n) (h12 : n ≤ 12) : fstBad n (fun k => badT n n (runB (buildL n) (tab n k))) = none := by
  rw [Bm.fstBad_none]
  intro k hk
  unfold badT
  rw [if_pos rfl]
  exact Bm.build_sorts h2 h12 k hk
theorem built_sorts {n : Nat} (h2 : 2 ≤ n) (h12 : n ≤ 12) {ys : List Int} (hl : ys.length = n) : ordB (runL (buildL n) ys) = true ∧ runL (buildL n) ys = srtL ys := by
  have hp := (Bm.build_ok h2 h12).1
  have h := zo_good hp (Nat.le_refl n) (built_none h2 h12) hl
  unfold gdB at h
  rw [if_pos rfl] at h
  exact ⟨h, srtL_eq (Bm.ordB_dec.1 h) (Bm.runL_perm n _ hp ys hl)⟩
theorem ord_runB {n : Nat} {r : Nat → Bool} (h : unord n (fun _ _ => true) r = false) : ∀ q : List Pr, OkP n q → runB q r = r
  | [], _ => rfl
  | x :: q, hq => by
    show runB q (Bm.xch x r) = r
    have hx := hq.head
    have e : Bm.xch x r = r := Bm.xch_skip (fun h2 => by
      cases h1 : r x.1 with
      | true => rfl
      | false =>
        have : unord n (fun _ _ => true) r = true := Bm.unord_iff.2 ⟨x.2, x.1, hx.2, hx.1, rfl, h2, h1⟩
        rw [h] at this; cases this)
    rw [e]
    exact ord_runB h q hq.tail
theorem built_usd {n : Nat} (h2 : 2 ≤ n) (h12 : n ≤ 12) {q : List Pr} (hq : OkP n q) {x : Pr} (hx : x.1 < x.2 ∧ x.2 < n) : usd n (buildL n ++ q) x = false := by
  refine usd_none fun k hk => ?_
  have hs := Bm.build_sorts h2 h12 k hk
  unfold exch
  rw [Bm.runB_append, ord_runB hs q hq]
  cases h3 : runB (buildL n) (tab n k) x.2 with
  | false => rfl
  | true =>
    cases h4 : runB (buildL n) (tab n k) x.1 with
    | true => rfl
    | false =>
      have : unord n (fun _ _ => true) (runB (buildL n) (tab n k)) = true := Bm.unord_iff.2 ⟨x.2, x.1, hx.2, hx.1, rfl, h3, h4⟩
      rw [hs] at this; cases this
theorem built_usl {n : Nat} (h2 : 2 ≤ n) (h12 : n ≤ 12) (q : List Pr) : ∀ k, k ≤ q.length → OkP n q → uslL n [] 0 (buildL n ++ q.take k) = uslL n [] 0 (buildL n) ++ (List.range k).map ((buildL n).length + ·)
  | 0, _, _ => by simp
  | k + 1, hk, hq => by
    have ih := built_usl h2 h12 q k (by omega) hq
    have hx : q[k]? = some q[k] := List.getElem?_eq_getElem (by omega)
    rw [← take_get hx, ← List.append_assoc, usl_snoc, ih, List.nil_append, built_usd h2 h12 (hq.sub fun y hy => List.mem_of_mem_take hy) (hq _ (List.getElem_mem _)), if_neg (by decide), List.range_succ, List.map_append]
    have hl : (q.take k).length = k := by rw [List.length_take]; omega
    simp [hl]
theorem usl_last {n m i : Nat} (h2 : 2 ≤ n) (h12 : n ≤ 12) {q : List Pr} (hm : q.length = m) (hq : OkP n q) (hi : i < m) (U : List Nat) (hU : uslL n [] 0 (buildL n ++ q) = U) : m ≤ U.length ∧ U.getD (U.length - 1 - i) 0 = (buildL n).length + m - 1 - i := by
  have h := built_usl h2 h12 q m (by omega) hq
  rw [List.take_of_length_le (by omega), hU] at h
  have hl : U.length = (uslL n [] 0 (buildL n)).length + m := by rw [h]; simp
  refine ⟨by omega, ?_⟩
  rw [List.getD_eq_getElem?_getD, h, List.getElem?_append_right (by simp; omega)]
  have e : ((uslL n [] 0 (buildL n)) ++ (List.range m).map ((buildL n).length + ·)).length - 1 - i - (uslL n [] 0 (buildL n)).length = m - 1 - i := by simp; omega
  rw [e, List.getElem?_map, List.getElem?_range (by omega)]
  simp; omega

/-- pairs by numbers -/
def extP (n : Nat) (x : Int × Int) : Pr := ((x.1 % ((n : Int) - 1)).toNat, (x.1 % ((n : Int) - 1)).toNat + 1 + (x.2 % ((n : Int) - 1 - x.1 % ((n : Int) - 1))).toNat)
theorem ext_ok {n : Nat} (h2 : 2 ≤ n) (zs : List (Int × Int)) : OkP n (zs.map (extP n)) := by
  intro x hx
  obtain ⟨y, _, rfl⟩ := List.mem_map.1 hx
  unfold extP
  have h1 := Int.emod_nonneg y.1 (show (n : Int) - 1 ≠ 0 by omega)
  have h3 := Int.emod_lt_of_pos y.1 (show 0 < (n : Int) - 1 by omega)
  generalize y.1 % ((n : Int) - 1) = a at *
  have h4 := Int.emod_nonneg y.2 (show (n : Int) - 1 - a ≠ 0 by omega)
  have h5 := Int.emod_lt_of_pos y.2 (show 0 < (n : Int) - 1 - a by omega)
  generalize y.2 % ((n : Int) - 1 - a) = b at *
  simp only []
  omega

/-- a trimmed programme makes the same of any row -/
theorem trm_ok {n : Nat} {p : List Pr} (hp : OkP n p) : OkP n (trmL n [] p) := hp.sub fun x hx => (Bm.trm_sub p []).mem hx
theorem trm_runL {n : Nat} {p : List Pr} (hp : OkP n p) {ys : List Int} (hl : ys.length = n) : runL (trmL n [] p) ys = runL p ys := by
  refine list_ext_getD _ _ (by rw [Bm.runL_len, Bm.runL_len]) fun i hi => ?_
  rw [Bm.runL_len, hl] at hi
  rw [Bm.runL_get n _ (trm_ok hp) _ hl i hi, Bm.runL_get n _ hp _ hl i hi]
  have := Bm.trm_run p [] [] hp (fun x hx => by cases hx) (fun f => rfl) (fun i => ys.getD i 0)
  rw [List.nil_append, List.nil_append] at this
  rw [this]
theorem trm_again {n : Nat} {p : List Pr} (hp : OkP n p) : trmL n [] (trmL n [] p) = trmL n [] p := Bm.trm_twice p [] [] hp (fun x hx => by cases hx) (fun r => rfl)
theorem usl_row {n k : Nat} {p : List Pr} (hp : OkP n p) (hk : k ∈ uslL n [] 0 p) {ys : List Int} (hl : ys.length = n) : ∃ x : Pr, p[k]? = some x ∧ (x.1 < x.2 ∧ x.2 < n) ∧ (runL (p.take k) ys).getD x.2 0 ≤ (runL (p.take k) ys).getD x.1 0 := by
  obtain ⟨x, hx, hu⟩ := Bm.usl_mem hk
  have hxo := hp x (List.mem_of_getElem? hx)
  have ht : OkP n (p.take k) := hp.sub fun y hy => List.mem_of_mem_take hy
  refine ⟨x, hx, hxo, ?_⟩
  rw [Bm.runL_get n _ ht _ hl x.2 hxo.2, Bm.runL_get n _ ht _ hl x.1 (by omega)]
  exact Bm.usd_false ht hxo hu _

end Go.Proofs.YtmddpjlpbmfbgaaDoor
end
