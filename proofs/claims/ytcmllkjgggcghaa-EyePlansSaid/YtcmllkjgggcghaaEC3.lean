/- Walks of the reference of layer 10: the odds of answers. -/
import Derived.Test.YtcmllkjgggcghaaEB7
namespace Go.Proofs.Ytcmllkjgggcghaa
open Go.RowKit Go.Shelf
set_option linter.unusedSimpArgs false
set_option linter.unusedVariables false

set_option maxRecDepth 10000 in
set_option maxHeartbeats 4000000 in
theorem rodds_any (A B : Option Addr) (n c c2 : Nat) (zs : List Pl) (ds : List Int) (f : Nat → Nat) (w : World) (hz : Plates w A n zs) (hd : Ints w B n ds) (hn : n ≤ 6) (hg : ∀ p ∈ zs, Good p) (hf : Fit zs f) (hdf : ∀ i, i < n → ds.getD i 0 = (f i : Int)) :
    Calls Try.prog 65 #[.slice A n c, .slice B n c2] w fun e w' => e = .returned (.agg #[.int .i64 (oddG zs f n), .int .i64 (oddE zs f n)]) ∧ Below w.heap.size w w' := by
  have hl := hz.1
  have Hz := Lib.hid hz
  have Hg := Lib.hid hg
  have Hf := Lib.hid hf
  have Hd := Lib.hid hd
  have Hdf := Lib.hid hdf
  have Hb := Lib.hid (fun k hk => odd_bd hg hz.2.2 hf k hk)
  generalize hR1 : oddG zs f n = R1 at *
  generalize hR2 : oddE zs f n = R2 at *
  have HR1 := Lib.hid hR1
  have HR2 := Lib.hid hR2
  clear hz hg hf hR1 hR2 hd hdf
  go_enter Try.func65, Try.ntmps65
  go_wp2_with fail
  go_loopw [6] (fun s6 wx => ∃ (k : Nat) (x y : Int) (W : World), k ≤ n ∧ s6 = .int .i64 k ∧ Hid (W = wx) ∧ Hid (x = oddG zs f k) ∧ Hid (y = oddE zs f k) ∧ Cs W w.heap.size #[.int .i64 0, .int .i64 0] ∧ Cs W (w.heap.size + 1) #[.int .i64 x, .int .i64 y] ∧ Below w.heap.size w W) (fun s6 _ => n - (intOf s6).toNat)
  case atStart => exact ⟨0, 1, 1, _, Nat.zero_le _, rfl, Lib.hid rfl, Lib.hid rfl, Lib.hid rfl, (by repeat (first | with_reducible assumption | (with_reducible refine Cs.new _ _ _ _ ?_; first | rfl | (simp; done)) | with_reducible refine Cs.alloc ?_ _ | with_reducible refine Cs.drewN ?_ _ | with_reducible refine Cs.drew ?_ | with_reducible refine Cs.set4 ?_ _ _ _ _ | (with_reducible refine Cs.other4 ?_ ?_ _ _ _ _; rotate_left; focus (first | assumption | omega | (simp; done) | (simp; omega))) | with_reducible refine Cs.set2 ?_ _ _ | (with_reducible refine Cs.other2 ?_ ?_ _ _; rotate_left; focus (first | assumption | omega | (simp; done) | (simp; omega))) | (with_reducible refine Cs.other ?_ ?_ _; rotate_left; focus (first | assumption | omega | (simp; done) | (simp; omega))) | with_reducible refine Cs.keep ?_ (by assumption) | assumption)), (by repeat (first | with_reducible assumption | (with_reducible refine Cs.new _ _ _ _ ?_; first | rfl | (simp; done)) | with_reducible refine Cs.alloc ?_ _ | with_reducible refine Cs.drewN ?_ _ | with_reducible refine Cs.drew ?_ | with_reducible refine Cs.set4 ?_ _ _ _ _ | (with_reducible refine Cs.other4 ?_ ?_ _ _ _ _; rotate_left; focus (first | assumption | omega | (simp; done) | (simp; omega))) | with_reducible refine Cs.set2 ?_ _ _ | (with_reducible refine Cs.other2 ?_ ?_ _ _; rotate_left; focus (first | assumption | omega | (simp; done) | (simp; omega))) | (with_reducible refine Cs.other ?_ ?_ _; rotate_left; focus (first | assumption | omega | (simp; done) | (simp; omega))) | with_reducible refine Cs.keep ?_ (by assumption) | assumption)), (by repeat (first | with_reducible exact Below.refl _ _ | with_reducible assumption | with_reducible refine balloc ?_ _ | with_reducible refine bdrewN ?_ _ | with_reducible refine Below.drew ?_ | (with_reducible refine bset ?_ ?_ _; rotate_left; focus (first | assumption | omega | (simp; done) | (simp; omega))) | with_reducible refine bstep ?_ (by assumption) | assumption))⟩
  case round =>
    obtain ⟨k, x, y, W, hk, rfl, HW, Hx, Hy, B1, B2, hbw⟩ := hrel
    obtain rfl := HW.out
    clear HW
    by_cases hkn : k < n
    · have hkI : (k : Int) < (n : Int) := by omega
      have hk0 : (0 : Int) ≤ (k : Int) := by omega
      obtain ⟨b, off, p, rfl, hget, c0, c1⟩ := Hz.out.at_ hbw hkn
      obtain ⟨bd, od, rfl, hdl, cd⟩ := Hd.out.at0 hbw hkn
      rw [Hdf.out k hkn] at cd
      have hmem := List.mem_of_getElem? hget
      have Hget := Lib.hid hget
      have g := Hg.out p hmem
      have hok := Hz.out.2.2 p hmem
      have hfk := Hf.out k p hget
      have hen := g.en
      have hpa := plAt_eq hget
      obtain ⟨⟨q1, q2⟩, ⟨q3, q4⟩⟩ := Hb.out (k + 1) (by omega)
      have hp20 := pow20 (k + 1) (by omega)
      have Hx2 : Hid (x * p.gs.getD (f k) 0 = oddG zs f (k + 1)) := Lib.hid (by rw [Hx.out, oddG, hpa])
      have Hy2 : Hid (y * p.es.getD (f k) 0 = oddE zs f (k + 1)) := Lib.hid (by rw [Hy.out, oddE, hpa])
      have f1 : IntKind.i64.wrap (x * p.gs.getD (f k) 0) = x * p.gs.getD (f k) 0 := by rw [Hx2.out]; exact IntWalk.i64_in _ (by omega)
      have f2 : IntKind.i64.wrap (y * p.es.getD (f k) 0) = y * p.es.getD (f k) 0 := by rw [Hy2.out]; exact IntWalk.i64_in _ (by omega)
      obtain ⟨bg, og, hgA, hgl, hgc⟩ := hok.1.2 (by omega)
      obtain ⟨be, oe, heA, hel, hec⟩ := hok.2.1.2 (by omega)
      have hgc2 := hgc (f k) hfk
      have hec2 := hec (f k) (by omega)
      rw [hgA] at c0
      rw [heA, hen] at c1
      have HgA := Lib.hid hgA
      have HeA := Lib.hid heA
      have hfkI : ((f k : Nat) : Int) < (p.gn : Int) := by omega
      have hfk0 : (0 : Int) ≤ ((f k : Nat) : Int) := by omega
      clear hgc hec hget hmem g hok hpa q1 q2 q3 q4 hp20 Hx Hy hgA heA
      have cg : W.cell? ⟨bg, og + f k, none⟩ = some (.int .i64 (p.gs.getD (f k) 0)) := (hbw.cell (p := ⟨bg, og + f k, none⟩) hgl).trans hgc2
      have x2 : w.heap.size ≠ w.heap.size + 1 := by omega
      have x5 : w.heap.size ≤ w.heap.size + 1 := by omega
      generalize p.gs.getD (f k) 0 = u at *
      generalize p.es.getD (f k) 0 = v at *
      have cB2 := B2.c
      have fB2 := B2.f
      have lB2 := B2.lt
      go_wp2_with fail
      go_region
      have D1 := (B1.other (p := ⟨w.heap.size + 1, 0, none⟩) x2 (.int .i64 (x * u))).drew
      have D2 : Cs _ (w.heap.size + 1) #[.int .i64 (x * u), .int .i64 y] := (B2.set 0 (.int .i64 (x * u)) (by simp)).drew
      have hbD := (bset hbw (p := ⟨w.heap.size + 1, 0, none⟩) x5 (.int .i64 (x * u))).drew
      clear B1 B2 hbw cg cd c0 c1 cB2 fB2 lB2 f1
      generalize (W.setCell ⟨w.heap.size + 1, 0, none⟩ (.int .i64 (x * u))).drew = W3 at *
      obtain ⟨c0, c1⟩ := Hz.out.cell hbD hkn Hget.out
      rw [HgA.out] at c0
      rw [HeA.out, hen] at c1
      have cd : W3.cell? ⟨bd, od + k, none⟩ = some (.int .i64 (f k : Nat)) := by
        obtain ⟨bd', od', e, _, h⟩ := Hd.out.at0 hbD hkn
        injection e with e
        injection e with e1 e2
        subst e1 e2
        rw [Hdf.out k hkn] at h
        exact h
      have ce : W3.cell? ⟨be, oe + f k, none⟩ = some (.int .i64 v) := (hbD.cell (p := ⟨be, oe + f k, none⟩) hel).trans hec2
      have cD2 := D2.c
      have fD2 := D2.f
      have lD2 := D2.lt
      go_wp2_with fail
      go_region
      have E1 := (D1.other (p := ⟨w.heap.size + 1, 1, none⟩) x2 (.int .i64 (y * v))).drew
      have E2 : Cs _ (w.heap.size + 1) #[.int .i64 (x * u), .int .i64 (y * v)] := (D2.set 1 (.int .i64 (y * v)) (by simp)).drew
      have hbE := (bset hbD (p := ⟨w.heap.size + 1, 1, none⟩) x5 (.int .i64 (y * v))).drew
      go_wp2_with fail
      go_roundw
      case rel => exact ⟨k + 1, x * u, y * v, _, by omega, by go_num, Lib.hid rfl, Hx2, Hy2, E1, E2, hbE⟩
      case measure => simp [intOf]; omega
    · obtain rfl : k = n := by omega
      have hf1 : x = R1 := by rw [Hx.out, HR1.out]
      have hf2 : y = R2 := by rw [Hy.out, HR2.out]
      subst hf1 hf2
      clear Hx Hy HR1 HR2
      have cB1 := B1.c
      have fB1 := B1.f
      have lB1 := B1.lt
      have cB2 := B2.c
      have fB2 := B2.f
      have lB2 := B2.lt
      have n2 := B2.lt
      go_wp2_with fail
      have F1 := B1.set2 (.int .i64 x) (.int .i64 y)
      have cF := F1.c
      have fF := F1.f
      have lF := F1.lt
      have hbF := bset2 hbw (g := w.heap.size) (Nat.le_refl _) (.int .i64 x) (.int .i64 y)
      exact bodyPost_ret (v := .agg #[.int .i64 x, .int .i64 y]) (by simp [results, Try.results65, go_sem, cF, fF, lF]) rfl ⟨rfl, hbF⟩

end Go.Proofs.Ytcmllkjgggcghaa
