/- The law of a copy of spans into a block of the call's own; the walk of package unit's Back. -/
import Derived.Test.YtkjoamindolonaaDoorUA20
import Derived.Test.YtkjoamindolonaaDoorUApp
import Derived.Laws.CopyOwn
namespace Go.Proofs.YtkjoamindolonaaDoor
open Go.RowKit Go.Shelf
set_option linter.unusedSimpArgs false
set_option linter.unusedVariables false
open Um (S4 spanB turn4)

def enc4 (x : S4) : List Value := [.int .i64 x.1, .int .i64 x.2.1, .int .i64 x.2.2.1, .int .i64 x.2.2.2]

theorem flat4_len (zs : List S4) : (zs.flatMap enc4).length = zs.length * 4 := by
  induction zs with
  | nil => rfl
  | cons x zs ih => rw [List.flatMap_cons, List.length_append, ih, List.length_cons]; show 4 + _ = _; omega

theorem flat4_get (zs : List S4) : ∀ (i c : Nat), c < 4 → (zs.flatMap enc4)[i * 4 + c]? = (zs[i]?).bind fun x => (enc4 x)[c]? := by
  induction zs with
  | nil => intro i c _; simp
  | cons x zs ih =>
    intro i c hc
    rw [List.flatMap_cons]
    cases i with
    | zero => rw [Nat.zero_mul, Nat.zero_add, List.getElem?_append_left (by show c < 4; exact hc)]; rfl
    | succ i =>
      rw [List.getElem?_append_right (by show 4 ≤ _; omega)]
      have : (i + 1) * 4 + c - (enc4 x).length = i * 4 + c := by show _ - 4 = _; omega
      rw [this, ih i c hc]
      rfl

theorem flat4_one (zs : List S4) : ∀ v ∈ zs.flatMap enc4, v.oneCell' = true := by
  intro v hv
  obtain ⟨x, _, hv⟩ := List.mem_flatMap.1 hv
  simp [enc4] at hv
  rcases hv with rfl | rfl | rfl | rfl <;> rfl

theorem span_info : (Tryd.prog.info? 25).map (fun i => (i.zero, i.size, i.bytes)) = some (some (.agg #[.int .i64 0, .int .i64 0, .int .i64 0, .int .i64 0]), 4, 32) := by kernel_rfl

/-- what a make of spans lays -/
theorem make_spans (n : Nat) (hn : n ≤ 1000) (w : World) :
    (Instr.makeSlice 26 (.int .i64 (n : Int)) (.int .i64 (n : Int))).run Tryd.prog w = .ok (.slice (some ⟨w.heap.size, 0, none⟩) n n) (w.alloc (.cells (madeCells #[.int .i64 0, .int .i64 0, .int .i64 0, .int .i64 0] (n * 4)) 25)) := by
  obtain ⟨i, hi, hzz⟩ := Option.map_eq_some_iff.1 span_info
  simp only [Prod.mk.injEq] at hzz
  obtain ⟨hz, hs, hb⟩ := hzz
  have hr := run_make (P := Tryd.prog) w 26 25 i (.agg #[.int .i64 0, .int .i64 0, .int .i64 0, .int .i64 0]) (by kernel_rfl) hi hz .i64 .i64 n n (by omega) (Int.le_refl _) (by rw [hb]; omega) (by omega)
  simp only [Int.toNat_natCast, hs] at hr
  exact hr

theorem run_copy4 (w : World) (ty : TypeId) (H n cap : Nat) (A : Option Addr) (zs : List S4) (hz : Spans w A n zs) (hc : ∀ j, j < n * 4 → (w.cell? ⟨H, j, none⟩).isSome = true) (hf : ∀ j, w.frozen? ⟨H, j, none⟩ = false) :
    (Builtin.copy_ #[26, 26] ty #[.slice (some ⟨H, 0, none⟩) n n, .slice A n cap]).run Tryd.prog w = .ok (goInt n) (w.setCells H 0 (zs.flatMap enc4)) := by
  obtain ⟨i, hi, hzz⟩ := Option.map_eq_some_iff.1 span_info
  simp only [Prod.mk.injEq] at hzz
  obtain ⟨_, hs, _⟩ := hzz
  have hu := Tryd.underlying26
  have hlen : (zs.flatMap enc4).length = n * 4 := by rw [flat4_len, hz.1]
  have hst := run_storeCells_cells (P := Tryd.prog) H 0 (zs.flatMap enc4) 0 w (by simpa [hlen] using hc) (by simpa using fun j _ => hf j) (flat4_one zs)
  have hmin : Nat.min n n = n := Nat.min_self n
  by_cases h0 : n = 0
  · have hnil : zs = [] := List.eq_nil_of_length_eq_zero (hz.1.trans h0)
    subst hnil
    subst h0
    have hl : ∀ (x : Addr), (loadCells x 0).run Tryd.prog w = .ok #[] w := fun x => by simpa using run_loadCells_list (P := Tryd.prog) w x [] (by simp)
    cases A <;> simp [Builtin.copy_, run_underlying hu, Builtin.lenOf, Builtin.firstCells, sizeOf, typeInfo, hi, hs, storeCells, hl, World.setCells]
  · obtain ⟨b, off, rfl, hlt, hcell⟩ := hz.2 (by omega)
    have hsrc : ∀ j v, (zs.flatMap enc4)[j]? = some v → w.cell? ((⟨b, off, none⟩ : Addr).add j) = some v := by
      intro j v hv
      have hj : j < n * 4 := by rw [← hlen]; exact (List.getElem?_eq_some_iff.1 hv).1
      have e : j = j / 4 * 4 + j % 4 := by omega
      rw [e, flat4_get zs _ _ (by omega)] at hv
      have hq : j / 4 < n := by omega
      have hg : zs[j / 4]? = some (zs.getD (j / 4) (0, 0, 0, 0)) := by
        rw [List.getD_eq_getElem?_getD, List.getElem?_eq_getElem (by rw [hz.1]; exact hq)]; rfl
      rw [hg] at hv
      obtain ⟨c0, c1, c2, c3⟩ := hcell (j / 4) hq
      generalize zs.getD (j / 4) (0, 0, 0, 0) = x at *
      rw [addr_add]
      have hm : j % 4 = 0 ∨ j % 4 = 1 ∨ j % 4 = 2 ∨ j % 4 = 3 := by omega
      rcases hm with hm | hm | hm | hm
      · rw [hm] at hv; simp [enc4] at hv; rw [← hv, show off + j = off + j / 4 * 4 by omega]; exact c0
      · rw [hm] at hv; simp [enc4] at hv; rw [← hv, show off + j = off + j / 4 * 4 + 1 by omega]; exact c1
      · rw [hm] at hv; simp [enc4] at hv; rw [← hv, show off + j = off + j / 4 * 4 + 2 by omega]; exact c2
      · rw [hm] at hv; simp [enc4] at hv; rw [← hv, show off + j = off + j / 4 * 4 + 3 by omega]; exact c3
    have hl := run_loadCells_list (P := Tryd.prog) w ⟨b, off, none⟩ (zs.flatMap enc4) hsrc
    rw [hlen] at hl
    simp [Builtin.copy_, run_underlying hu, Builtin.lenOf, Builtin.firstCells, sizeOf, typeInfo, hi, hs, hl, hst]

theorem below_setCells {B b : Nat} {a : World} (hb : B ≤ b) : ∀ (vs : List Value) (o : Nat) (w : World), Below B a w → Below B a (w.setCells b o vs)
  | [], _, _, h => h
  | v :: r, o, w, h => below_setCells hb r (o + 1) _ (h.setCell (p := ⟨b, o, none⟩) hb v)

theorem size_setCells (b : Nat) : ∀ (vs : List Value) (o : Nat) (w : World), (w.setCells b o vs).heap.size = w.heap.size
  | [], _, _ => rfl
  | v :: r, o, w => by rw [World.setCells, size_setCells b r]; simp [World.setCell]

theorem four_of_copy {w : World} {H n : Nat} {A : Option Addr} {zs : List S4} (hz : Spans w A n zs) (hlt : H < w.heap.size) (hc : ∀ j, j < n * 4 → (w.cell? ⟨H, j, none⟩).isSome = true) (hf : ∀ j, w.frozen? ⟨H, j, none⟩ = false) :
    Four (w.setCells H 0 (zs.flatMap enc4)) H n (fun i => zs.getD i (0, 0, 0, 0)) ∧ Below H w (w.setCells H 0 (zs.flatMap enc4)) := by
  have hlen : (zs.flatMap enc4).length = n * 4 := by rw [flat4_len, hz.1]
  have hget : ∀ i c, i < n → c < 4 → ∀ v, (enc4 (zs.getD i (0, 0, 0, 0)))[c]? = some v → (w.setCells H 0 (zs.flatMap enc4)).cell? ⟨H, i * 4 + c, none⟩ = some v := by
    intro i c hi hcc v hv
    have hj : i * 4 + c < (zs.flatMap enc4).length := by omega
    have h1 := World.cell?_setCells_in H (zs.flatMap enc4) 0 w (by intro j hj; rw [Nat.zero_add]; exact hc j (by omega)) (i * 4 + c) hj
    rw [Nat.zero_add] at h1
    have hi' : zs[i]? = some (zs.getD i (0, 0, 0, 0)) := by
      rw [List.getD_eq_getElem?_getD, List.getElem?_eq_getElem (by rw [hz.1]; exact hi)]; rfl
    rw [h1, ← List.getElem?_eq_getElem hj, flat4_get zs i c hcc, hi']
    exact hv
  exact ⟨⟨by rw [size_setCells]; exact hlt, fun i hi => ⟨hget i 0 hi (by omega) _ rfl, hget i 1 hi (by omega) _ rfl, hget i 2 hi (by omega) _ rfl, hget i 3 hi (by omega) _ rfl⟩, fun j => by rw [World.frozen?_setCells]; exact hf j⟩, below_setCells (Nat.le_refl _) _ _ _ (Below.refl _ _)⟩

theorem made_some (w : World) (H k : Nat) (vs : Array Value) (t : TypeId) (hH : w.heap.size = H) (j : Nat) (hj : j < k) : ((w.alloc (.cells (madeCells vs k) t)).cell? ⟨H, j, none⟩).isSome = true := by
  subst hH
  simp [madeCells, hj]
theorem made_free (w : World) (H k : Nat) (vs : Array Value) (t : TypeId) (hH : w.heap.size = H) (j : Nat) : (w.alloc (.cells (madeCells vs k) t)).frozen? ⟨H, j, none⟩ = false := by
  subst hH
  simp

theorem turn4_span {s : S4} (h : spanB s = true) : spanB (turn4 s) = true := by
  obtain ⟨h1, h2, h3⟩ := (Um.spanB_iff s).1 h
  have e : ∀ {n d : Int}, Um.frac n d = true → Um.frac d n = true := by
    intro n d h
    simp only [Um.frac, decide_eq_true_eq] at h ⊢
    rw [Int.gcd_comm]
    omega
  rw [Um.spanB_iff]
  exact ⟨e h2, e h1, by show s.2.2.2 * s.1 ≤ s.2.1 * s.2.2.1; rw [Int.mul_comm, Int.mul_comm s.2.1]; exact h3⟩

theorem getD_rev (zs : List S4) (m : Nat) (hm : m < zs.length) : zs.reverse.getD m (0, 0, 0, 0) = zs.getD (zs.length - 1 - m) (0, 0, 0, 0) := by
  rw [List.getD_eq_getElem?_getD, List.getD_eq_getElem?_getD, List.getElem?_reverse hm]

theorem Four.spans {W : World} {b n : Nat} {f : Nat → S4} {zs : List S4} (h : Four W b n f) (hl : zs.length = n) (hf : ∀ m, m < n → f m = zs.getD m (0, 0, 0, 0)) : Spans W (some ⟨b, 0, none⟩) n zs :=
  ⟨hl, fun hn => ⟨b, 0, rfl, h.lt, fun i hi => by rw [← hf i hi]; simpa using h.c i hi⟩⟩

set_option maxRecDepth 10000 in
set_option maxHeartbeats 1000000 in
theorem Back_any (a b c d : Int) (A : Option Addr) (n cap : Nat) (zs : List S4) (w : World) (hz : Spans w A n zs) (hn : n ≤ 1000) :
    Calls Tryd.prog 18 #[.agg #[.int .i64 a, .int .i64 b, .int .i64 c, .int .i64 d], .slice A n cap] w fun e w' => e = RetS (Um.carried (a, b, c, d) zs.reverse turn4) ∧ Below w.heap.size w w' := by
  have k1 := fun (W : World) (H : Nat) (hz : Spans W (some ⟨H, 0, none⟩) n zs.reverse) => carried_any a b c d (some ⟨H, 0, none⟩) n n 49 zs.reverse turn4 W hz (by omega) (enters_of Tryd.func49 (by kernel_rfl) rfl) (fun x h => turn4_span h)
    (fun x W' _ => backC_any x.1 x.2.1 x.2.2.1 x.2.2.2 W')
  have hmk := make_spans n hn
  generalize Um.carried (a, b, c, d) zs.reverse turn4 = r at *
  unfold RetS at *
  generalize r.1.1 = r1 at *
  generalize r.1.2.1 = r2 at *
  generalize r.1.2.2.1 = r3 at *
  generalize r.1.2.2.2 = r4 at *
  generalize r.2 = r5 at *
  have Hz := Lib.hid hz
  have Hk1 := Lib.hid k1
  clear hz k1
  go_enter Tryd.func18, Tryd.ntmps18
  go_wp2_with fail
  obtain ⟨W, hW⟩ : ∃ W, W = ((w.alloc (.cells #[.int .i64 a, .int .i64 b, .int .i64 c, .int .i64 d] 25)).alloc (.cells #[.int .i64 0, .int .i64 0, .int .i64 0, .int .i64 0] 25)).alloc (.cells (madeCells #[.int .i64 0, .int .i64 0, .int .i64 0, .int .i64 0] (n * 4)) 25) := ⟨_, rfl⟩
  have B0 : Cs W w.heap.size #[.int .i64 a, .int .i64 b, .int .i64 c, .int .i64 d] := by rw [hW]; exact (by repeat (first | with_reducible assumption | (with_reducible refine Cs.new _ _ _ _ ?_; first | rfl | (simp; done)) | with_reducible refine Cs.alloc ?_ _ | with_reducible refine Cs.drewN ?_ _ | with_reducible refine Cs.drew ?_ | with_reducible refine Cs.set4 ?_ _ _ _ _ | (with_reducible refine Cs.other4 ?_ ?_ _ _ _ _; rotate_left; focus (first | assumption | omega | (simp; done) | (simp; omega))) | with_reducible refine Cs.set2 ?_ _ _ | (with_reducible refine Cs.other2 ?_ ?_ _ _; rotate_left; focus (first | assumption | omega | (simp; done) | (simp; omega))) | (with_reducible refine Cs.other ?_ ?_ _; rotate_left; focus (first | assumption | omega | (simp; done) | (simp; omega))) | with_reducible refine Cs.keep ?_ (by assumption) | assumption))
  have B1 : Cs W (w.heap.size + 1) #[.int .i64 0, .int .i64 0, .int .i64 0, .int .i64 0] := by rw [hW]; exact (by repeat (first | with_reducible assumption | (with_reducible refine Cs.new _ _ _ _ ?_; first | rfl | (simp; done)) | with_reducible refine Cs.alloc ?_ _ | with_reducible refine Cs.drewN ?_ _ | with_reducible refine Cs.drew ?_ | with_reducible refine Cs.set4 ?_ _ _ _ _ | (with_reducible refine Cs.other4 ?_ ?_ _ _ _ _; rotate_left; focus (first | assumption | omega | (simp; done) | (simp; omega))) | with_reducible refine Cs.set2 ?_ _ _ | (with_reducible refine Cs.other2 ?_ ?_ _ _; rotate_left; focus (first | assumption | omega | (simp; done) | (simp; omega))) | (with_reducible refine Cs.other ?_ ?_ _; rotate_left; focus (first | assumption | omega | (simp; done) | (simp; omega))) | with_reducible refine Cs.keep ?_ (by assumption) | assumption))
  have hb : Below w.heap.size w W := by rw [hW]; exact (by repeat (first | with_reducible exact Below.refl _ _ | with_reducible assumption | with_reducible refine balloc ?_ _ | with_reducible refine bdrewN ?_ _ | with_reducible refine Below.drew ?_ | (with_reducible refine bset ?_ ?_ _; rotate_left; focus (first | assumption | omega | (simp; done) | (simp; omega))) | with_reducible refine bstep ?_ (by assumption) | assumption))
  have g1 : w.heap.size + 1 + 1 < W.heap.size := by rw [hW]; simp
  have g2 : ∀ j, j < n * 4 → (W.cell? ⟨w.heap.size + 1 + 1, j, none⟩).isSome = true := by rw [hW]; intro j hj; exact made_some _ _ _ _ _ (by simp) j hj
  have g3 : ∀ j, W.frozen? ⟨w.heap.size + 1 + 1, j, none⟩ = false := by rw [hW]; intro j; exact made_free _ _ _ _ _ (by simp) j
  rw [← hW]
  clear hW
  have hcp := run_copy4 W 3 (w.heap.size + 1 + 1) n cap A zs (Hz.out.below hb) g2 g3
  obtain ⟨hF, hb2⟩ := four_of_copy (Hz.out.below hb) g1 g2 g3
  rw [hcp]
  clear hcp g2 g3 hmk
  generalize W.setCells (w.heap.size + 1 + 1) 0 (List.flatMap enc4 zs) = w2 at *
  have C0 : Cs w2 w.heap.size #[.int .i64 a, .int .i64 b, .int .i64 c, .int .i64 d] := ⟨Nat.lt_of_lt_of_le B0.lt hb2.size, fun i => (hb2.cell (p := ⟨w.heap.size, i, none⟩) (show w.heap.size < w.heap.size + 1 + 1 by omega)).trans (B0.c i), fun i => (hb2.frozen (p := ⟨w.heap.size, i, none⟩) (show w.heap.size < w.heap.size + 1 + 1 by omega)).trans (B0.f i)⟩
  have C1 : Cs w2 (w.heap.size + 1) #[.int .i64 0, .int .i64 0, .int .i64 0, .int .i64 0] := ⟨Nat.lt_of_lt_of_le B1.lt hb2.size, fun i => (hb2.cell (p := ⟨w.heap.size + 1, i, none⟩) (show w.heap.size + 1 < w.heap.size + 1 + 1 by omega)).trans (B1.c i), fun i => (hb2.frozen (p := ⟨w.heap.size + 1, i, none⟩) (show w.heap.size + 1 < w.heap.size + 1 + 1 by omega)).trans (B1.f i)⟩
  have hbw2 : Below w.heap.size w w2 := hb.trans (hb2.mono (by omega))
  clear B0 B1 hb hb2
  go_wp2_with fail
  refine (reverse_any _ n n _ w2 hF hn).mono ?_
  rintro e w3 ⟨rfl, ⟨f, hF3, hf3⟩, hb3⟩
  have D0 : Cs w3 w.heap.size #[.int .i64 a, .int .i64 b, .int .i64 c, .int .i64 d] := ⟨Nat.lt_of_lt_of_le C0.lt hb3.size, fun i => (hb3.cell (p := ⟨w.heap.size, i, none⟩) (show w.heap.size < w.heap.size + 1 + 1 by omega)).trans (C0.c i), fun i => (hb3.frozen (p := ⟨w.heap.size, i, none⟩) (show w.heap.size < w.heap.size + 1 + 1 by omega)).trans (C0.f i)⟩
  have D1 : Cs w3 (w.heap.size + 1) #[.int .i64 0, .int .i64 0, .int .i64 0, .int .i64 0] := ⟨Nat.lt_of_lt_of_le C1.lt hb3.size, fun i => (hb3.cell (p := ⟨w.heap.size + 1, i, none⟩) (show w.heap.size + 1 < w.heap.size + 1 + 1 by omega)).trans (C1.c i), fun i => (hb3.frozen (p := ⟨w.heap.size + 1, i, none⟩) (show w.heap.size + 1 < w.heap.size + 1 + 1 by omega)).trans (C1.f i)⟩
  have hbw3 : Below w.heap.size w w3 := hbw2.trans (hb3.mono (by omega))
  have hl := Hz.out.1
  have hsp : Spans w3 (some ⟨w.heap.size + 1 + 1, 0, none⟩) n zs.reverse := hF3.spans (by simpa using hl) (fun m hm => by rw [hf3 m hm, getD_rev zs m (by omega), hl])
  clear C0 C1 hbw2 hb3 hF hf3 hF3 hl
  have cD0 := D0.c
  have fD0 := D0.f
  have lD0 := D0.lt
  have cD1 := D1.c
  have fD1 := D1.f
  have lD1 := D1.lt
  go_wp2_with fail
  refine (Hk1.out _ _ hsp).mono ?_
  rintro e w4 ⟨rfl, hb4⟩
  clear cD0 fD0 lD0 cD1 fD1 lD1
  have E1 : Cs w4 (w.heap.size + 1) #[.int .i64 0, .int .i64 0, .int .i64 0, .int .i64 0] := Cs.keep (by repeat (first | with_reducible assumption | (with_reducible refine Cs.new _ _ _ _ ?_; first | rfl | (simp; done)) | with_reducible refine Cs.alloc ?_ _ | with_reducible refine Cs.drewN ?_ _ | with_reducible refine Cs.drew ?_ | with_reducible refine Cs.set4 ?_ _ _ _ _ | (with_reducible refine Cs.other4 ?_ ?_ _ _ _ _; rotate_left; focus (first | assumption | omega | (simp; done) | (simp; omega))) | with_reducible refine Cs.set2 ?_ _ _ | (with_reducible refine Cs.other2 ?_ ?_ _ _; rotate_left; focus (first | assumption | omega | (simp; done) | (simp; omega))) | (with_reducible refine Cs.other ?_ ?_ _; rotate_left; focus (first | assumption | omega | (simp; done) | (simp; omega))) | with_reducible refine Cs.keep ?_ (by assumption) | assumption)) hb4
  have cE1 := E1.c
  have fE1 := E1.f
  have lE1 := E1.lt
  go_wp2_with fail
  exact bodyPost_ret (v := .tuple #[.agg #[.int .i64 r1, .int .i64 r2, .int .i64 r3, .int .i64 r4], .int .i64 r5]) (by simp [results, Tryd.results18, go_sem, cE1, fE1, lE1]) rfl ⟨rfl, (by repeat (first | with_reducible exact Below.refl _ _ | with_reducible assumption | with_reducible refine balloc ?_ _ | with_reducible refine bdrewN ?_ _ | with_reducible refine Below.drew ?_ | (with_reducible refine bset ?_ ?_ _; rotate_left; focus (first | assumption | omega | (simp; done) | (simp; omega))) | with_reducible refine bstep ?_ (by assumption) | assumption))⟩

end Go.Proofs.YtkjoamindolonaaDoor
