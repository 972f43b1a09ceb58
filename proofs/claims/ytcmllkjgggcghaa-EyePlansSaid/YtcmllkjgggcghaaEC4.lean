/- Walks of the reference of layer 10: the answers of an outcome. -/
import Derived.Test.YtcmllkjgggcghaaEM2
import Derived.Test.YtcmllkjgggcghaaEBase
import Derived.Lib.Hide
namespace Go.Proofs.Ytcmllkjgggcghaa
open Go.RowKit Go.Shelf
set_option linter.unusedSimpArgs false
set_option linter.unusedVariables false

theorem intT_info : (Try.prog.info? 3).map (fun i => (i.zero, i.size, i.bytes)) = some (some (.int .i64 0), 1, 8) := by kernel_rfl
theorem make_ints (n : Nat) (hn : n ≤ 1000) (w : World) :
    (Instr.makeSlice 23 (.int .i64 (n : Int)) (.int .i64 (n : Int))).run Try.prog w = .ok (.slice (some ⟨w.heap.size, 0, none⟩) n n) (w.alloc (.cells (madeCells #[.int .i64 0] (n * 1)) 3)) := by
  obtain ⟨i, hi, hzz⟩ := Option.map_eq_some_iff.1 intT_info
  simp only [Prod.mk.injEq] at hzz
  obtain ⟨hz, hs, hb⟩ := hzz
  have hr := run_make (P := Try.prog) w 23 3 i (.int .i64 0) (by kernel_rfl) hi hz .i64 .i64 n n (by omega) (Int.le_refl _) (by rw [hb]; omega) (by omega)
  simp only [Int.toNat_natCast, hs] at hr
  exact hr

/-- a block of n numbers that can be written -/
structure Row (W : World) (g n : Nat) (h : Nat → Nat) : Prop where
  lt : g < W.heap.size
  c : ∀ i, i < n → W.cell? ⟨g, i, none⟩ = some (.int .i64 (h i : Nat))
  free : ∀ i, W.frozen? ⟨g, i, none⟩ = false

theorem Row.set {W : World} {g n : Nat} {h : Nat → Nat} (hr : Row W g n h) (k v : Nat) (hk : k < n) : Row (W.setCell ⟨g, k, none⟩ (.int .i64 (v : Nat))) g n (upd h k v) := by
  refine ⟨by simpa [World.setCell] using hr.lt, fun i hi => ?_, fun i => by rw [World.frozen?_setCell]; exact hr.free i⟩
  by_cases e : i = k
  · subst e
    rw [World.cell?_setCell_same' _ _ _ (by rw [hr.c i hi]; simp), upd_same]
  · rw [World.cell?_setCell_other _ _ _ _ (by intro h; injection h with _ h; exact e h.symm), hr.c i hi, upd_ne h v e]
theorem Row.drewN {W : World} {g n : Nat} {h : Nat → Nat} (hr : Row W g n h) (k : Nat) : Row (W.drewN k) g n h := ⟨hr.lt, hr.c, hr.free⟩
theorem Row.drew {W : World} {g n : Nat} {h : Nat → Nat} (hr : Row W g n h) : Row W.drew g n h := ⟨hr.lt, hr.c, hr.free⟩

set_option maxRecDepth 10000 in
set_option maxHeartbeats 4000000 in
theorem answers_any (A : Option Addr) (n c N : Nat) (zs : List Pl) (w : World) (hz : Plates w A n zs) (hn : n ≤ 6) (hg : ∀ p ∈ zs, Good p) (hN : N ≤ 1000000) :
    Calls Try.prog 78 #[.slice A n c, .int .i64 (N : Nat)] w fun e w' => ∃ g cc : Nat, e = .returned (.slice (some ⟨g, 0, none⟩) n cc) ∧ w.heap.size ≤ g ∧ Row w' g n (digF (fun i => (plAt zs i).gn) n N (fun _ => 0)) ∧ Below w.heap.size w w' := by
  have Hz := Lib.hid hz
  have Hg := Lib.hid hg
  have km := make_ints n (by omega)
  have i1 : IntKind.i64.wrap ((n : Int) - 1) = (n : Int) - 1 := IntWalk.i64_in _ (by omega)
  generalize hT : digF (fun i => (plAt zs i).gn) n N (fun _ => 0) = T
  have HT := Lib.hid hT
  clear hz hg hT
  go_enter Try.func78, Try.ntmps78
  go_wp2_with fail
  have R0 : Row (w.alloc (.cells (madeCells #[.int .i64 0] n) 3)) w.heap.size n (fun _ => 0) := by
    refine ⟨by simp, fun i hi => ?_, fun i => by simp⟩
    simp [madeCells, hi, Nat.mod_one]
  clear km
  go_loopw [1, 6] (fun s1 s6 wx => ∃ (k M : Nat) (v : Int) (h : Nat → Nat) (W : World), k ≤ n ∧ s1 = .int .i64 (M : Nat) ∧ s6 = .int .i64 v ∧ Hid (v = (k : Int) - 1) ∧ Hid (W = wx) ∧ M ≤ 1000000 ∧ Hid (digF (fun i => (plAt zs i).gn) k M h = T) ∧ Row W w.heap.size n h ∧ Below w.heap.size w W) (fun _ s6 _ => (intOf s6 + 1).toNat)
  case atStart => exact ⟨n, N, (n : Int) - 1, fun _ => 0, _, Nat.le_refl _, rfl, rfl, Lib.hid rfl, Lib.hid rfl, hN, Lib.hid HT.out, R0, (by repeat (first | with_reducible exact Below.refl _ _ | with_reducible assumption | with_reducible refine balloc ?_ _ | with_reducible refine bdrewN ?_ _ | with_reducible refine Below.drew ?_ | (with_reducible refine bset ?_ ?_ _; rotate_left; focus (first | assumption | omega | (simp; done) | (simp; omega))) | with_reducible refine bstep ?_ (by assumption) | assumption))⟩
  case round =>
    obtain ⟨k, M, v, h, W, hk, rfl, rfl, Hv, HW, hM, Hd, Rr, hbw⟩ := hrel
    obtain rfl := HW.out
    clear HW
    cases k with
    | succ j =>
      have hv : v = (j : Int) := by rw [Hv.out]; omega
      subst hv
      have hj : j < n := by omega
      have hjI : (0 : Int) ≤ (j : Int) := by omega
      have hjn : (j : Int) < (n : Int) := by omega
      obtain ⟨b, off, p, rfl, hget, c0, c1⟩ := Hz.out.at_ hbw hj
      have hmem := List.mem_of_getElem? hget
      have g2 := (Hg.out p hmem).g2
      have hpa := plAt_eq hget
      have Hd2 : Hid (digF (fun i => (plAt zs i).gn) j (M / p.gn) (upd h j (M % p.gn)) = T) := Lib.hid (by rw [← Hd.out, digF, hpa])
      have hq : M / p.gn ≤ 1000000 := Nat.le_trans (Nat.div_le_self _ _) hM
      have hr : M % p.gn < p.gn := Nat.mod_lt _ (by omega)
      have hr2 : M % p.gn ≤ M := Nat.mod_le _ _
      have f1 : ((M : Nat) : Int).tmod (p.gn : Int) = ((M % p.gn : Nat) : Int) := by rw [Int.tmod_eq_emod_of_nonneg (by omega)]; exact (Int.natCast_emod _ _).symm
      have f2 : ((M : Nat) : Int).tdiv (p.gn : Int) = ((M / p.gn : Nat) : Int) := by rw [Int.tdiv_eq_ediv_of_nonneg (by omega)]; exact (Int.natCast_ediv _ _).symm
      generalize M / p.gn = q at *
      generalize M % p.gn = r at *
      have f3 : IntKind.i64.wrap ((r : Nat) : Int) = ((r : Nat) : Int) := IntWalk.i64_in _ (by omega)
      have f4 : IntKind.i64.wrap ((q : Nat) : Int) = ((q : Nat) : Int) := IntWalk.i64_in _ (by omega)
      have f5 : IntKind.i64.wrap ((j : Int) - 1) = (j : Int) - 1 := IntWalk.i64_in _ (by omega)
      have z1 : ((p.gn : Int) == 0) = false := by simp; omega
      have z2 : ¬ (p.gn : Int) = 0 := by omega
      have z3 : ¬ p.gn = 0 := by omega
      have cr := Rr.c j hj
      have fr := Rr.free
      have lr := Rr.lt
      clear Hd hpa hmem
      have Hget := Lib.hid hget
      clear hget
      have c2 : ∀ x : Value, (W.setCell ⟨w.heap.size, j, none⟩ x).cell? ⟨b, off + j * 2, none⟩ = some (.slice p.gA p.gn p.gc) := fun x => (Hz.out.cell (bset hbw (p := ⟨w.heap.size, j, none⟩) (Nat.le_refl _) x) hj Hget.out).1
      have R2 := Rr.set j r hj
      have hb2 := bset hbw (p := ⟨w.heap.size, j, none⟩) (Nat.le_refl _) (.int .i64 (r : Nat))
      go_wp2_with fail
      go_roundw
      case rel => exact ⟨j, q, (j : Int) - 1, upd h j r, _, by omega, rfl, rfl, Lib.hid rfl, Lib.hid rfl, hq, Hd2, R2, hb2⟩
      case measure => first | (simp [intOf]; done) | (simp [intOf]; omega)
    | zero =>
      have hv : v = -1 := by rw [Hv.out]; rfl
      subst hv
      have hT2 : h = T := Hd.out
      subst hT2
      clear Hd Hv
      go_wp2_with fail
      go_ret
      exact ⟨_, _, rfl, Nat.le_refl _, Rr, hbw⟩

end Go.Proofs.Ytcmllkjgggcghaa
