/- PH4 -/
import Derived.Test.YtlbjnkopbabcnaaGreatDoorYP34
/- Walks of package atlas: CheckPlan of a valid plan. -/
section
namespace Go.Proofs.YtlbjnkopbabcnaaGreatDoor
open Go.RowKit Go.Shelf
set_option linter.unusedSimpArgs false
set_option linter.unusedVariables false

set_option maxHeartbeats 400000 in
theorem indexRowN_any (A : Option Addr) (n c g : Nat) (zs : List (RowR Int)) (lb : Array Value) (p : RowR Int → Bool) (w : World) (eg : ∀ args w, (callFunc g args).run Tryz.prog w = .ok (.enter g args) w)
    (hz : RowsI w A n zs) (hn : n ≤ 9223372036854775807) (hp : PredRowI Tryz.prog g lb p zs w) :
    Calls Tryz.prog 313 #[.slice A n c, .func (.func g) #[] lb] w fun e w' => e = .returned (.int .i64 (Um.idx p zs)) ∧ Below w.heap.size w w' := by
  have Hz := Lib.hid hz
  have Hp := Lib.hid hp
  clear hp hz
  go_enter Tryz.func313, Tryz.ntmps313
  go_wp2
  go_loopw [5, 8] (fun _ i wr => ∃ k : Nat, k ≤ n ∧ i = .int .i64 k ∧ Hid (∀ i y, i < k → zs[i]? = some y → p y = false) ∧ Below w.heap.size w wr) (fun _ i _ => n - (intOf i).toNat)
  case atStart => exact ⟨0, Nat.zero_le _, rfl, fun i y hi => by omega, Below.refl _ _⟩
  case round =>
    obtain ⟨k, hk, rfl, hpre, hbl⟩ := hrel
    by_cases hlt : k < n
    · obtain ⟨b, off, A', n', c', zs', rfl, hget, _, c0, _⟩ := Hz.out.at_ hbl hlt
      have Hget := Lib.hid hget
      have hcall := Hp.out _ (List.mem_of_getElem? hget) wr hbl
      unfold rrV at hcall
      dsimp only at hcall
      clear hget
      cases hq : p ⟨A', n', c', zs'⟩ with
      | true =>
        rw [hq] at hcall
        have Hq := Lib.hid hq
        clear hq
        go_wp2_with (go_at_fn g; refine hcall.mono ?_; rintro e w' ⟨rfl, hb'⟩)
        go_ret
        exact ⟨ret_int (Um.idx_at p k zs _ hpre.out Hget.out Hq.out).symm, hb'⟩
      | false =>
        rw [hq] at hcall
        have Hq := Lib.hid hq
        clear hq
        go_wp2_with (go_at_fn g; refine hcall.mono ?_; rintro e w' ⟨rfl, hb'⟩)
        go_roundw
        case rel =>
          refine ⟨k + 1, by omega, by go_num, fun i v hi hy => ?_, hb'⟩
          by_cases hik : i < k
          · exact hpre.out i v hik hy
          · have : i = k := by omega
            subst this
            have := Hget.out
            rw [hy] at this
            injection this with this
            rw [this]; exact Hq.out
        case measure => simp [intOf]; omega
    · go_wp2
      go_ret
      refine ⟨ret_int (Um.idx_none p zs (fun y hy => ?_)).symm, hbl⟩
      obtain ⟨i, hi, hiy⟩ := List.mem_iff_getElem.1 hy
      exact hpre.out i y (by have := Hz.out.1; omega) (by rw [List.getElem?_eq_getElem hi, hiy])

set_option maxHeartbeats 400000 in
theorem containsRowN_any (A : Option Addr) (n c g : Nat) (zs : List (RowR Int)) (lb : Array Value) (p : RowR Int → Bool) (w : World) (eg : ∀ args w, (callFunc g args).run Tryz.prog w = .ok (.enter g args) w)
    (hz : RowsI w A n zs) (hn : n ≤ 9223372036854775807) (hp : PredRowI Tryz.prog g lb p zs w) :
    Calls Tryz.prog 246 #[.slice A n c, .func (.func g) #[] lb] w fun e w' => e = .returned (.bool (zs.any p)) ∧ Below w.heap.size w w' := by
  have h1 := indexRowN_any A n c g zs lb p w eg hz hn hp
  have h2 := Um.idx_any p zs
  have H2 := Lib.hid h2
  clear h2 hz hp eg
  generalize zs.any p = r at *
  generalize Um.idx p zs = ix at *
  go_enter Tryz.func246, Tryz.ntmps246
  go_wp2_with (go_at_call 313; refine h1.mono ?_; rintro e w' ⟨rfl, hb'⟩)
  go_ret
  exact ⟨ret_bool H2.out, hb'⟩

/-- a row of a plan -/
def RowN (k : Nat) (r : RowR Int) : Prop := r.n = k ∧ (∀ b, b < k → -1 ≤ r.zs.getD b 0 ∧ r.zs.getD b 0 ≤ 1) ∧ Mm.sm (fun b => r.zs.getD b 0) k = 0
theorem PlanOk.row {k m : Nat} {rs : List (RowR Int)} (h : PlanOk k m rs) (hl : rs.length = m) : ∀ r ∈ rs, RowN k r := fun r hr => by
  obtain ⟨i, hi, rfl⟩ := List.mem_iff_getElem.1 hr
  have e : rwI rs i = rs[i] := by unfold rwI; rw [List.getD_eq_getElem?_getD, List.getElem?_eq_getElem hi]; rfl
  have h1 := h.len i (by omega)
  have h2 := h.rng i (by omega)
  have h3 := h.sum i (by omega)
  unfold rcI at h2
  rw [e] at h1 h2
  refine ⟨h1, h2, ?_⟩
  rw [← e]
  exact h3
set_option maxHeartbeats 4000000 in
theorem minN_ok (A : Option Addr) (n c : Nat) (zs : List Int) (w : World) (hz : Ints w A n zs) (h1 : 1 ≤ n) (h39 : n ≤ 39) (hr : ∀ b, b < n → -1 ≤ zs.getD b 0 ∧ zs.getD b 0 ≤ 1) :
    Calls Tryz.prog 249 #[.slice A n c] w fun e w' => (∃ q : Int, e = .returned (.int .i64 q) ∧ -1 ≤ q ∧ q ≤ 1) ∧ Below w.heap.size w w' := by
  obtain ⟨b, off, rfl, hlt, hc⟩ := hz.2 (by omega)
  have Hc := Lib.hid hc
  have Hr := Lib.hid hr
  have c0 := hc 0 (by omega)
  have r0 := hr 0 (by omega)
  have g1 : ¬ (n : Int) < 1 := by omega
  have g2 : (0 : Int) < (n : Int) := by omega
  rw [Nat.add_zero] at c0
  clear hc hr hz
  generalize zs.getD 0 0 = x0 at *
  go_enter Tryz.func249, Tryz.ntmps249
  go_wp2_with fail
  go_loopw [3, 4] (fun s3 s4 wx => ∃ (i : Nat) (v : Int), 1 ≤ i ∧ i ≤ n ∧ s3 = .int .i64 v ∧ s4 = .int .i64 (i : Nat) ∧ (-1 ≤ v ∧ v ≤ 1) ∧ Hid (Below w.heap.size w wx)) (fun _ s4 _ => n - (intOf s4).toNat)
  case atStart => exact ⟨1, _, by omega, by omega, rfl, rfl, r0, Lib.hid (Below.refl _ _)⟩
  case round =>
    obtain ⟨i, v, hi1, hi, rfl, rfl, hv, HB⟩ := hrel
    by_cases hin : i < n
    · have hii : (i : Int) < (n : Int) := by omega
      have ci := (HB.out.cell (p := ⟨b, off + i, none⟩) hlt).trans (Hc.out i hin)
      have ri := Hr.out i hin
      generalize zs.getD i 0 = x at *
      obtain ⟨M, hM⟩ : ∃ M, (if x < v then x else v) = M := ⟨_, rfl⟩
      have hM2 : -1 ≤ M ∧ M ≤ 1 := by rw [← hM]; split <;> omega
      go_wp2_with fail
      go_roundw
      case rel => exact ⟨i + 1, _, by omega, by omega, rfl, by go_num, hM2, HB⟩
      case measure => simp [intOf]; omega
    · have hii : ¬ (i : Int) < (n : Int) := by omega
      go_wp2_with fail
      go_ret
      exact ⟨⟨v, rfl, hv⟩, HB.out⟩
set_option maxHeartbeats 4000000 in
theorem maxN_ok (A : Option Addr) (n c : Nat) (zs : List Int) (w : World) (hz : Ints w A n zs) (h1 : 1 ≤ n) (h39 : n ≤ 39) (hr : ∀ b, b < n → -1 ≤ zs.getD b 0 ∧ zs.getD b 0 ≤ 1) :
    Calls Tryz.prog 250 #[.slice A n c] w fun e w' => (∃ q : Int, e = .returned (.int .i64 q) ∧ -1 ≤ q ∧ q ≤ 1) ∧ Below w.heap.size w w' := by
  obtain ⟨b, off, rfl, hlt, hc⟩ := hz.2 (by omega)
  have Hc := Lib.hid hc
  have Hr := Lib.hid hr
  have c0 := hc 0 (by omega)
  have r0 := hr 0 (by omega)
  have g1 : ¬ (n : Int) < 1 := by omega
  have g2 : (0 : Int) < (n : Int) := by omega
  rw [Nat.add_zero] at c0
  clear hc hr hz
  generalize zs.getD 0 0 = x0 at *
  go_enter Tryz.func250, Tryz.ntmps250
  go_wp2_with fail
  go_loopw [3, 4] (fun s3 s4 wx => ∃ (i : Nat) (v : Int), 1 ≤ i ∧ i ≤ n ∧ s3 = .int .i64 v ∧ s4 = .int .i64 (i : Nat) ∧ (-1 ≤ v ∧ v ≤ 1) ∧ Hid (Below w.heap.size w wx)) (fun _ s4 _ => n - (intOf s4).toNat)
  case atStart => exact ⟨1, _, by omega, by omega, rfl, rfl, r0, Lib.hid (Below.refl _ _)⟩
  case round =>
    obtain ⟨i, v, hi1, hi, rfl, rfl, hv, HB⟩ := hrel
    by_cases hin : i < n
    · have hii : (i : Int) < (n : Int) := by omega
      have ci := (HB.out.cell (p := ⟨b, off + i, none⟩) hlt).trans (Hc.out i hin)
      have ri := Hr.out i hin
      generalize zs.getD i 0 = x at *
      obtain ⟨M, hM⟩ : ∃ M, (if v < x then x else v) = M := ⟨_, rfl⟩
      have hM2 : -1 ≤ M ∧ M ≤ 1 := by rw [← hM]; split <;> omega
      go_wp2_with fail
      go_roundw
      case rel => exact ⟨i + 1, _, by omega, by omega, rfl, by go_num, hM2, HB⟩
      case measure => simp [intOf]; omega
    · have hii : ¬ (i : Int) < (n : Int) := by omega
      go_wp2_with fail
      go_ret
      exact ⟨⟨v, rfl, hv⟩, HB.out⟩
set_option maxHeartbeats 4000000 in
theorem sumN_ok (A : Option Addr) (n c : Nat) (zs : List Int) (w : World) (hz : Ints w A n zs) (h1 : 1 ≤ n) (h39 : n ≤ 39) (hr : ∀ b, b < n → -1 ≤ zs.getD b 0 ∧ zs.getD b 0 ≤ 1) :
    Calls Tryz.prog 252 #[.slice A n c] w fun e w' => e = .returned (.int .i64 (Mm.sm (fun b => zs.getD b 0) n)) ∧ Below w.heap.size w w' := by
  obtain ⟨b, off, rfl, hlt, hc⟩ := hz.2 (by omega)
  have Hc := Lib.hid hc
  have Hr := Lib.hid hr
  clear hc hr hz
  go_enter Tryz.func252, Tryz.ntmps252
  go_wp2_with fail
  go_loopw [3, 8] (fun s3 s8 wx => ∃ (i : Nat), i ≤ n ∧ s3 = .int .i64 (Mm.sm (fun b => zs.getD b 0) i) ∧ s8 = .int .i64 (i : Nat) ∧ Hid (Below w.heap.size w wx)) (fun _ s8 _ => n - (intOf s8).toNat)
  case atStart => exact ⟨0, by omega, rfl, rfl, Lib.hid (Below.refl _ _)⟩
  case round =>
    obtain ⟨i, hi, rfl, rfl, HB⟩ := hrel
    by_cases hin : i < n
    · have hii : (i : Int) < (n : Int) := by omega
      have ci := (HB.out.cell (p := ⟨b, off + i, none⟩) hlt).trans (Hc.out i hin)
      have ri := Hr.out i hin
      have hbd := sm_one (f := fun b => zs.getD b 0) (n := i) (fun b' hb' => Hr.out b' (by omega))
      have hsm : Mm.sm (fun b => zs.getD b 0) (i + 1) = Mm.sm (fun b => zs.getD b 0) i + zs.getD i 0 := rfl
      have Hsm := Lib.hid hsm
      clear hsm
      generalize hS : Mm.sm (fun b => zs.getD b 0) i = S at *
      generalize zs.getD i 0 = x at *
      have hw : IntKind.i64.wrap (S + x) = S + x := IntWalk.i64_in _ (by omega)
      go_wp2_with fail
      go_roundw
      case rel => exact ⟨i + 1, by omega, by rw [Hsm.out], by go_num, HB⟩
      case measure => simp [intOf]; omega
    · have hii : ¬ (i : Int) < (n : Int) := by omega
      obtain rfl : i = n := by omega
      go_wp2_with fail
      go_ret
      exact ⟨rfl, HB.out⟩
end Go.Proofs.YtlbjnkopbabcnaaGreatDoor
end
