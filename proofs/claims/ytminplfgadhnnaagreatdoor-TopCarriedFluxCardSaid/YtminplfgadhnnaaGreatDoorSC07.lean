/- UA21 LB LC LA1 UA18 UA19 LA2 UMath5 LD -/
import Derived.Test.YtminplfgadhnnaaGreatDoorSC06
import Derived.Test.YtminplfgadhnnaaGreatDoorSC05
import Derived.Laws.CopyOwn
import Derived.Test.YtminplfgadhnnaaGreatDoorSC03
import Derived.Test.YtminplfgadhnnaaGreatDoorSC02
import Derived.Deep.DeepCutAuto
import Derived.Deep.RegionHeld3
import Derived.Lib.Hide
import Derived.Test.YtminplfgadhnnaaGreatDoorSC04
/- The law of a copy of spans into a block of the call's own; the walk of package unit's Back. -/
section
namespace Go.Proofs.YtminplfgadhnnaaGreatDoor
open Go.RowKit Go.Shelf
set_option linter.unusedSimpArgs false
set_option linter.unusedVariables false
open Um (S4 spanB turn4)

def enc4 (x : S4) : List Value := [.int .i64 x.1, .int .i64 x.2.1, .int .i64 x.2.2.1, .int .i64 x.2.2.2]

theorem flat4_len (zs : List S4) : (zs.flatMap enc4).length = zs.length * 4 := by
  induction zs with
  | nil => rfl
  | cons x zs ih => rw [List.flatMap_cons, List.length_append, ih, List.length_cons]; show 4 + _ = _; omega

theorem flat4_get (zs : List S4) : ∀ (i c : Nat), c < 4 → (zs.flatMap enc4)[i * 4 + c]? = (zs[i]?).bind fun x => (enc4 x)[c]? := by
  induction zs with
  | nil => intro i c _; simp
  | cons x zs ih =>
    intro i c hc
    rw [List.flatMap_cons]
    cases i with
    | zero => rw [Nat.zero_mul, Nat.zero_add, List.getElem?_append_left (by show c < 4; exact hc)]; rfl
    | succ i =>
      rw [List.getElem?_append_right (by show 4 ≤ _; omega)]
      have : (i + 1) * 4 + c - (enc4 x).length = i * 4 + c := by show _ - 4 = _; omega
      rw [this, ih i c hc]
      rfl

theorem flat4_one (zs : List S4) : ∀ v ∈ zs.flatMap enc4, v.oneCell' = true := by
  intro v hv
  obtain ⟨x, _, hv⟩ := List.mem_flatMap.1 hv
  simp [enc4] at hv
  rcases hv with rfl | rfl | rfl | rfl <;> rfl

theorem span_info : (Tryz.prog.info? 43).map (fun i => (i.zero, i.size, i.bytes)) = some (some (.agg #[.int .i64 0, .int .i64 0, .int .i64 0, .int .i64 0]), 4, 32) := by kernel_rfl

/-- what a make of spans lays -/
theorem make_spans (n : Nat) (hn : n ≤ 1000) (w : World) :
    (Instr.makeSlice 28 (.int .i64 (n : Int)) (.int .i64 (n : Int))).run Tryz.prog w = .ok (.slice (some ⟨w.heap.size, 0, none⟩) n n) (w.alloc (.cells (madeCells #[.int .i64 0, .int .i64 0, .int .i64 0, .int .i64 0] (n * 4)) 43)) := by
  obtain ⟨i, hi, hzz⟩ := Option.map_eq_some_iff.1 span_info
  simp only [Prod.mk.injEq] at hzz
  obtain ⟨hz, hs, hb⟩ := hzz
  have hr := run_make (P := Tryz.prog) w 28 43 i (.agg #[.int .i64 0, .int .i64 0, .int .i64 0, .int .i64 0]) (by kernel_rfl) hi hz .i64 .i64 n n (by omega) (Int.le_refl _) (by rw [hb]; omega) (by omega)
  simp only [Int.toNat_natCast, hs] at hr
  exact hr

theorem run_copy4 (w : World) (ty : TypeId) (H n cap : Nat) (A : Option Addr) (zs : List S4) (hz : Spans w A n zs) (hc : ∀ j, j < n * 4 → (w.cell? ⟨H, j, none⟩).isSome = true) (hf : ∀ j, w.frozen? ⟨H, j, none⟩ = false) :
    (Builtin.copy_ #[28, 28] ty #[.slice (some ⟨H, 0, none⟩) n n, .slice A n cap]).run Tryz.prog w = .ok (goInt n) (w.setCells H 0 (zs.flatMap enc4)) := by
  obtain ⟨i, hi, hzz⟩ := Option.map_eq_some_iff.1 span_info
  simp only [Prod.mk.injEq] at hzz
  obtain ⟨_, hs, _⟩ := hzz
  have hu := Tryz.underlying28
  have hlen : (zs.flatMap enc4).length = n * 4 := by rw [flat4_len, hz.1]
  have hst := run_storeCells_cells (P := Tryz.prog) H 0 (zs.flatMap enc4) 0 w (by simpa [hlen] using hc) (by simpa using fun j _ => hf j) (flat4_one zs)
  have hmin : Nat.min n n = n := Nat.min_self n
  by_cases h0 : n = 0
  · have hnil : zs = [] := List.eq_nil_of_length_eq_zero (hz.1.trans h0)
    subst hnil
    subst h0
    have hl : ∀ (x : Addr), (loadCells x 0).run Tryz.prog w = .ok #[] w := fun x => by simpa using run_loadCells_list (P := Tryz.prog) w x [] (by simp)
    cases A <;> simp [Builtin.copy_, run_underlying hu, Builtin.lenOf, Builtin.firstCells, sizeOf, typeInfo, hi, hs, storeCells, hl, World.setCells]
  · obtain ⟨b, off, rfl, hlt, hcell⟩ := hz.2 (by omega)
    have hsrc : ∀ j v, (zs.flatMap enc4)[j]? = some v → w.cell? ((⟨b, off, none⟩ : Addr).add j) = some v := by
      intro j v hv
      have hj : j < n * 4 := by rw [← hlen]; exact (List.getElem?_eq_some_iff.1 hv).1
      have e : j = j / 4 * 4 + j % 4 := by omega
      rw [e, flat4_get zs _ _ (by omega)] at hv
      have hq : j / 4 < n := by omega
      have hg : zs[j / 4]? = some (zs.getD (j / 4) (0, 0, 0, 0)) := by
        rw [List.getD_eq_getElem?_getD, List.getElem?_eq_getElem (by rw [hz.1]; exact hq)]; rfl
      rw [hg] at hv
      obtain ⟨c0, c1, c2, c3⟩ := hcell (j / 4) hq
      generalize zs.getD (j / 4) (0, 0, 0, 0) = x at *
      rw [addr_add]
      have hm : j % 4 = 0 ∨ j % 4 = 1 ∨ j % 4 = 2 ∨ j % 4 = 3 := by omega
      rcases hm with hm | hm | hm | hm
      · rw [hm] at hv; simp [enc4] at hv; rw [← hv, show off + j = off + j / 4 * 4 by omega]; exact c0
      · rw [hm] at hv; simp [enc4] at hv; rw [← hv, show off + j = off + j / 4 * 4 + 1 by omega]; exact c1
      · rw [hm] at hv; simp [enc4] at hv; rw [← hv, show off + j = off + j / 4 * 4 + 2 by omega]; exact c2
      · rw [hm] at hv; simp [enc4] at hv; rw [← hv, show off + j = off + j / 4 * 4 + 3 by omega]; exact c3
    have hl := run_loadCells_list (P := Tryz.prog) w ⟨b, off, none⟩ (zs.flatMap enc4) hsrc
    rw [hlen] at hl
    simp [Builtin.copy_, run_underlying hu, Builtin.lenOf, Builtin.firstCells, sizeOf, typeInfo, hi, hs, hl, hst]

theorem below_setCells {B b : Nat} {a : World} (hb : B ≤ b) : ∀ (vs : List Value) (o : Nat) (w : World), Below B a w → Below B a (w.setCells b o vs)
  | [], _, _, h => h
  | v :: r, o, w, h => below_setCells hb r (o + 1) _ (h.setCell (p := ⟨b, o, none⟩) hb v)

theorem size_setCells_u (b : Nat) : ∀ (vs : List Value) (o : Nat) (w : World), (w.setCells b o vs).heap.size = w.heap.size
  | [], _, _ => rfl
  | v :: r, o, w => by rw [World.setCells, size_setCells_u b r]; simp [World.setCell]

theorem four_of_copy {w : World} {H n : Nat} {A : Option Addr} {zs : List S4} (hz : Spans w A n zs) (hlt : H < w.heap.size) (hc : ∀ j, j < n * 4 → (w.cell? ⟨H, j, none⟩).isSome = true) (hf : ∀ j, w.frozen? ⟨H, j, none⟩ = false) :
    Four (w.setCells H 0 (zs.flatMap enc4)) H n (fun i => zs.getD i (0, 0, 0, 0)) ∧ Below H w (w.setCells H 0 (zs.flatMap enc4)) := by
  have hlen : (zs.flatMap enc4).length = n * 4 := by rw [flat4_len, hz.1]
  have hget : ∀ i c, i < n → c < 4 → ∀ v, (enc4 (zs.getD i (0, 0, 0, 0)))[c]? = some v → (w.setCells H 0 (zs.flatMap enc4)).cell? ⟨H, i * 4 + c, none⟩ = some v := by
    intro i c hi hcc v hv
    have hj : i * 4 + c < (zs.flatMap enc4).length := by omega
    have h1 := World.cell?_setCells_in H (zs.flatMap enc4) 0 w (by intro j hj; rw [Nat.zero_add]; exact hc j (by omega)) (i * 4 + c) hj
    rw [Nat.zero_add] at h1
    have hi' : zs[i]? = some (zs.getD i (0, 0, 0, 0)) := by
      rw [List.getD_eq_getElem?_getD, List.getElem?_eq_getElem (by rw [hz.1]; exact hi)]; rfl
    rw [h1, ← List.getElem?_eq_getElem hj, flat4_get zs i c hcc, hi']
    exact hv
  exact ⟨⟨by rw [size_setCells_u]; exact hlt, fun i hi => ⟨hget i 0 hi (by omega) _ rfl, hget i 1 hi (by omega) _ rfl, hget i 2 hi (by omega) _ rfl, hget i 3 hi (by omega) _ rfl⟩, fun j => by rw [World.frozen?_setCells]; exact hf j⟩, below_setCells (Nat.le_refl _) _ _ _ (Below.refl _ _)⟩

theorem made_some (w : World) (H k : Nat) (vs : Array Value) (t : TypeId) (hH : w.heap.size = H) (j : Nat) (hj : j < k) : ((w.alloc (.cells (madeCells vs k) t)).cell? ⟨H, j, none⟩).isSome = true := by
  subst hH
  simp [madeCells, hj]
theorem made_free (w : World) (H k : Nat) (vs : Array Value) (t : TypeId) (hH : w.heap.size = H) (j : Nat) : (w.alloc (.cells (madeCells vs k) t)).frozen? ⟨H, j, none⟩ = false := by
  subst hH
  simp

theorem turn4_span {s : S4} (h : spanB s = true) : spanB (turn4 s) = true := by
  obtain ⟨h1, h2, h3⟩ := (Um.spanB_iff s).1 h
  have e : ∀ {n d : Int}, Um.frac n d = true → Um.frac d n = true := by
    intro n d h
    simp only [Um.frac, decide_eq_true_eq] at h ⊢
    rw [Int.gcd_comm]
    omega
  rw [Um.spanB_iff]
  exact ⟨e h2, e h1, by show s.2.2.2 * s.1 ≤ s.2.1 * s.2.2.1; rw [Int.mul_comm, Int.mul_comm s.2.1]; exact h3⟩

theorem getD_rev (zs : List S4) (m : Nat) (hm : m < zs.length) : zs.reverse.getD m (0, 0, 0, 0) = zs.getD (zs.length - 1 - m) (0, 0, 0, 0) := by
  rw [List.getD_eq_getElem?_getD, List.getD_eq_getElem?_getD, List.getElem?_reverse hm]

theorem Four.spans {W : World} {b n : Nat} {f : Nat → S4} {zs : List S4} (h : Four W b n f) (hl : zs.length = n) (hf : ∀ m, m < n → f m = zs.getD m (0, 0, 0, 0)) : Spans W (some ⟨b, 0, none⟩) n zs :=
  ⟨hl, fun hn => ⟨b, 0, rfl, h.lt, fun i hi => by rw [← hf i hi]; simpa using h.c i hi⟩⟩

set_option maxRecDepth 10000 in
set_option maxHeartbeats 1000000 in
theorem Back_any (a b c d : Int) (A : Option Addr) (n cap : Nat) (zs : List S4) (w : World) (hz : Spans w A n zs) (hn : n ≤ 1000) :
    Calls Tryz.prog 62 #[.agg #[.int .i64 a, .int .i64 b, .int .i64 c, .int .i64 d], .slice A n cap] w fun e w' => e = RetS (Um.carried (a, b, c, d) zs.reverse turn4) ∧ Below w.heap.size w w' := by
  have k1 := fun (W : World) (H : Nat) (hz : Spans W (some ⟨H, 0, none⟩) n zs.reverse) => carried_any a b c d (some ⟨H, 0, none⟩) n n 114 zs.reverse turn4 W hz (by omega) (enters_of Tryz.func114 (by kernel_rfl) rfl) (fun x h => turn4_span h)
    (fun x W' _ => backC_any x.1 x.2.1 x.2.2.1 x.2.2.2 W')
  have hmk := make_spans n hn
  generalize Um.carried (a, b, c, d) zs.reverse turn4 = r at *
  unfold RetS at *
  generalize r.1.1 = r1 at *
  generalize r.1.2.1 = r2 at *
  generalize r.1.2.2.1 = r3 at *
  generalize r.1.2.2.2 = r4 at *
  generalize r.2 = r5 at *
  have Hz := Lib.hid hz
  have Hk1 := Lib.hid k1
  clear hz k1
  go_enter Tryz.func62, Tryz.ntmps62
  go_wp2_with fail
  obtain ⟨W, hW⟩ : ∃ W, W = ((w.alloc (.cells #[.int .i64 a, .int .i64 b, .int .i64 c, .int .i64 d] 43)).alloc (.cells #[.int .i64 0, .int .i64 0, .int .i64 0, .int .i64 0] 43)).alloc (.cells (madeCells #[.int .i64 0, .int .i64 0, .int .i64 0, .int .i64 0] (n * 4)) 43) := ⟨_, rfl⟩
  have B0 : Cs W w.heap.size #[.int .i64 a, .int .i64 b, .int .i64 c, .int .i64 d] := by rw [hW]; exact (by repeat (first | with_reducible assumption | (with_reducible refine Cs.new _ _ _ _ ?_; first | rfl | (simp; done)) | with_reducible refine Cs.alloc ?_ _ | with_reducible refine Cs.drewN ?_ _ | with_reducible refine Cs.drew ?_ | with_reducible refine Cs.set4 ?_ _ _ _ _ | (with_reducible refine Cs.other4 ?_ ?_ _ _ _ _; rotate_left; focus (first | assumption | omega | (simp; done) | (simp; omega))) | with_reducible refine Cs.set2 ?_ _ _ | (with_reducible refine Cs.other2 ?_ ?_ _ _; rotate_left; focus (first | assumption | omega | (simp; done) | (simp; omega))) | (with_reducible refine Cs.other ?_ ?_ _; rotate_left; focus (first | assumption | omega | (simp; done) | (simp; omega))) | with_reducible refine Cs.keep ?_ (by assumption) | assumption))
  have B1 : Cs W (w.heap.size + 1) #[.int .i64 0, .int .i64 0, .int .i64 0, .int .i64 0] := by rw [hW]; exact (by repeat (first | with_reducible assumption | (with_reducible refine Cs.new _ _ _ _ ?_; first | rfl | (simp; done)) | with_reducible refine Cs.alloc ?_ _ | with_reducible refine Cs.drewN ?_ _ | with_reducible refine Cs.drew ?_ | with_reducible refine Cs.set4 ?_ _ _ _ _ | (with_reducible refine Cs.other4 ?_ ?_ _ _ _ _; rotate_left; focus (first | assumption | omega | (simp; done) | (simp; omega))) | with_reducible refine Cs.set2 ?_ _ _ | (with_reducible refine Cs.other2 ?_ ?_ _ _; rotate_left; focus (first | assumption | omega | (simp; done) | (simp; omega))) | (with_reducible refine Cs.other ?_ ?_ _; rotate_left; focus (first | assumption | omega | (simp; done) | (simp; omega))) | with_reducible refine Cs.keep ?_ (by assumption) | assumption))
  have hb : Below w.heap.size w W := by rw [hW]; exact (by repeat (first | with_reducible exact Below.refl _ _ | with_reducible assumption | with_reducible refine balloc ?_ _ | with_reducible refine bdrewN ?_ _ | with_reducible refine Below.drew ?_ | (with_reducible refine bset ?_ ?_ _; rotate_left; focus (first | assumption | omega | (simp; done) | (simp; omega))) | with_reducible refine bstep ?_ (by assumption) | assumption))
  have g1 : w.heap.size + 1 + 1 < W.heap.size := by rw [hW]; simp
  have g2 : ∀ j, j < n * 4 → (W.cell? ⟨w.heap.size + 1 + 1, j, none⟩).isSome = true := by rw [hW]; intro j hj; exact made_some _ _ _ _ _ (by simp) j hj
  have g3 : ∀ j, W.frozen? ⟨w.heap.size + 1 + 1, j, none⟩ = false := by rw [hW]; intro j; exact made_free _ _ _ _ _ (by simp) j
  rw [← hW]
  clear hW
  have hcp := run_copy4 W 3 (w.heap.size + 1 + 1) n cap A zs (Hz.out.below hb) g2 g3
  obtain ⟨hF, hb2⟩ := four_of_copy (Hz.out.below hb) g1 g2 g3
  rw [hcp]
  clear hcp g2 g3 hmk
  generalize W.setCells (w.heap.size + 1 + 1) 0 (List.flatMap enc4 zs) = w2 at *
  have C0 : Cs w2 w.heap.size #[.int .i64 a, .int .i64 b, .int .i64 c, .int .i64 d] := ⟨Nat.lt_of_lt_of_le B0.lt hb2.size, fun i => (hb2.cell (p := ⟨w.heap.size, i, none⟩) (show w.heap.size < w.heap.size + 1 + 1 by omega)).trans (B0.c i), fun i => (hb2.frozen (p := ⟨w.heap.size, i, none⟩) (show w.heap.size < w.heap.size + 1 + 1 by omega)).trans (B0.f i)⟩
  have C1 : Cs w2 (w.heap.size + 1) #[.int .i64 0, .int .i64 0, .int .i64 0, .int .i64 0] := ⟨Nat.lt_of_lt_of_le B1.lt hb2.size, fun i => (hb2.cell (p := ⟨w.heap.size + 1, i, none⟩) (show w.heap.size + 1 < w.heap.size + 1 + 1 by omega)).trans (B1.c i), fun i => (hb2.frozen (p := ⟨w.heap.size + 1, i, none⟩) (show w.heap.size + 1 < w.heap.size + 1 + 1 by omega)).trans (B1.f i)⟩
  have hbw2 : Below w.heap.size w w2 := hb.trans (hb2.mono (by omega))
  clear B0 B1 hb hb2
  go_wp2_with fail
  refine (reverse_any _ n n _ w2 hF hn).mono ?_
  rintro e w3 ⟨rfl, ⟨f, hF3, hf3⟩, hb3⟩
  have D0 : Cs w3 w.heap.size #[.int .i64 a, .int .i64 b, .int .i64 c, .int .i64 d] := ⟨Nat.lt_of_lt_of_le C0.lt hb3.size, fun i => (hb3.cell (p := ⟨w.heap.size, i, none⟩) (show w.heap.size < w.heap.size + 1 + 1 by omega)).trans (C0.c i), fun i => (hb3.frozen (p := ⟨w.heap.size, i, none⟩) (show w.heap.size < w.heap.size + 1 + 1 by omega)).trans (C0.f i)⟩
  have D1 : Cs w3 (w.heap.size + 1) #[.int .i64 0, .int .i64 0, .int .i64 0, .int .i64 0] := ⟨Nat.lt_of_lt_of_le C1.lt hb3.size, fun i => (hb3.cell (p := ⟨w.heap.size + 1, i, none⟩) (show w.heap.size + 1 < w.heap.size + 1 + 1 by omega)).trans (C1.c i), fun i => (hb3.frozen (p := ⟨w.heap.size + 1, i, none⟩) (show w.heap.size + 1 < w.heap.size + 1 + 1 by omega)).trans (C1.f i)⟩
  have hbw3 : Below w.heap.size w w3 := hbw2.trans (hb3.mono (by omega))
  have hl := Hz.out.1
  have hsp : Spans w3 (some ⟨w.heap.size + 1 + 1, 0, none⟩) n zs.reverse := hF3.spans (by simpa using hl) (fun m hm => by rw [hf3 m hm, getD_rev zs m (by omega), hl])
  clear C0 C1 hbw2 hb3 hF hf3 hF3 hl
  have cD0 := D0.c
  have fD0 := D0.f
  have lD0 := D0.lt
  have cD1 := D1.c
  have fD1 := D1.f
  have lD1 := D1.lt
  go_wp2_with fail
  refine (Hk1.out _ _ hsp).mono ?_
  rintro e w4 ⟨rfl, hb4⟩
  clear cD0 fD0 lD0 cD1 fD1 lD1
  have E1 : Cs w4 (w.heap.size + 1) #[.int .i64 0, .int .i64 0, .int .i64 0, .int .i64 0] := Cs.keep (by repeat (first | with_reducible assumption | (with_reducible refine Cs.new _ _ _ _ ?_; first | rfl | (simp; done)) | with_reducible refine Cs.alloc ?_ _ | with_reducible refine Cs.drewN ?_ _ | with_reducible refine Cs.drew ?_ | with_reducible refine Cs.set4 ?_ _ _ _ _ | (with_reducible refine Cs.other4 ?_ ?_ _ _ _ _; rotate_left; focus (first | assumption | omega | (simp; done) | (simp; omega))) | with_reducible refine Cs.set2 ?_ _ _ | (with_reducible refine Cs.other2 ?_ ?_ _ _; rotate_left; focus (first | assumption | omega | (simp; done) | (simp; omega))) | (with_reducible refine Cs.other ?_ ?_ _; rotate_left; focus (first | assumption | omega | (simp; done) | (simp; omega))) | with_reducible refine Cs.keep ?_ (by assumption) | assumption)) hb4
  have cE1 := E1.c
  have fE1 := E1.f
  have lE1 := E1.lt
  go_wp2_with fail
  exact bodyPost_ret (v := .tuple #[.agg #[.int .i64 r1, .int .i64 r2, .int .i64 r3, .int .i64 r4], .int .i64 r5]) (by simp [results, Tryz.results62, go_sem, cE1, fE1, lE1]) rfl ⟨rfl, (by repeat (first | with_reducible exact Below.refl _ _ | with_reducible assumption | with_reducible refine balloc ?_ _ | with_reducible refine bdrewN ?_ _ | with_reducible refine Below.drew ?_ | (with_reducible refine bset ?_ ?_ _; rotate_left; focus (first | assumption | omega | (simp; done) | (simp; omega))) | with_reducible refine bstep ?_ (by assumption) | assumption))⟩

end Go.Proofs.YtminplfgadhnnaaGreatDoor
end

/- Contracts of layer 1 for every input, and what the simplest fraction is. -/
section
namespace Go.Proofs.YtminplfgadhnnaaGreatDoor
open Go.RowKit Go.Shelf
set_option linter.unusedSimpArgs false
set_option linter.unusedVariables false
open Um (frac S4 spanB spanE Simp turn4)

/-- what the simplest fraction of a span is -/
structure Best1 (s : S4) (n m : Int) : Prop where
  fr : frac n m = true
  lo : s.1 * m ≤ n * s.2.1
  hi : n * s.2.2.2 ≤ s.2.2.1 * m
  simp : Simp s.1 s.2.1 s.2.2.1 s.2.2.2 n m
  n1 : 1 ≤ n
  n2 : n ≤ 1000000000
  m1 : 1 ≤ m
  m2 : m ≤ 1000000000

theorem best1 {s : S4} (h : spanB s = true) : Best1 s (Um.ev (Um.best s)).1 (Um.ev (Um.best s)).2 := by
  have hb := Um.best_ok s h
  have h1 := hb.simp.n0
  have h2 := hb.simp.m0
  have h3 := hb.n
  have h4 := hb.m
  refine ⟨?_, hb.simp.lo, hb.simp.hi, hb.simp, by omega, h3, by omega, h4⟩
  have hg := Um.ev_gcd (Um.best s)
  unfold frac
  exact decide_eq_true ⟨by omega, h3, by omega, h4, hg⟩

theorem inB_iff (n d : Int) (s : S4) : inB n d s = true ↔ s.1 * d ≤ n * s.2.1 ∧ n * s.2.2.2 ≤ s.2.2.1 * d := by
  unfold inB
  rw [Bool.and_eq_true, decide_eq_true_eq, decide_eq_true_eq]

end Go.Proofs.YtminplfgadhnnaaGreatDoor
end

/- What a proof that is returned is. -/
section
namespace Go.Proofs.YtminplfgadhnnaaGreatDoor
open Go.RowKit Go.Shelf
set_option linter.unusedSimpArgs false
set_option linter.unusedVariables false
open Um (frac S4 spanB spanE Simp turn4)

theorem parts_check {s : S4} (h : spanB s = true) : Um.checkP s (Um.parts (Um.fw Um.first (Um.best s))) = ((Um.ev (Um.best s)).2, 0) := by
  have hB := Um.best_ok s h
  have hb1 := best1 h
  have hdet := Um.det_first (Um.best s)
  obtain ⟨h1, h2, h3⟩ := (Um.spanB_iff s).1 h
  obtain ⟨a1, a2, b1, b2⟩ := Um.frac_bd h1
  obtain ⟨c1, c2, d1, d2⟩ := Um.frac_bd h2
  have e0 := hB.x0
  have e1 := hB.x1
  have p0 := hB.p0
  have p1 := hB.p1
  have q0 := hB.q0
  have q1 := hB.q1
  have n2 := hb1.n2
  have m2 := hb1.m2
  have hs := hb1.simp
  rw [← e0, ← e1] at hs
  rw [← e0] at n2
  rw [← e1] at m2 ⊢
  generalize Um.fw Um.first (Um.best s) = x at *
  obtain ⟨x1, x2, x3, x4⟩ := x
  dsimp only at *
  have hd : x1 * x4 - x3 * x2 = 1 ∨ x1 * x4 - x3 * x2 = -1 := hdet
  have r1 : (x1 - x3) * x4 = x1 * x4 - x3 * x4 := by rw [Int.sub_mul]
  have r2 : x3 * (x2 - x4) = x3 * x2 - x3 * x4 := by rw [Int.mul_sub]
  have key : ∀ l1 l2 r1 r2 : Int, 0 ≤ l1 → 0 ≤ l2 → 0 ≤ r1 → 0 ≤ r2 → l1 + r1 = x1 → l2 + r2 = x2 → l2 * r1 - l1 * r2 = 1 → Um.checkP s (l1, l2, r1, r2) = (x2, 0) := by
    intro l1 l2 r1 r2 k1 k2 k3 k4 k5 k6 k7
    obtain ⟨u1, u2, u3, u4, u5, u6, u7⟩ := Um.parts_proof hs (by omega) (by omega) (by omega) (by omega) k1 k2 k3 k4 k5 k6 k7
    unfold Um.checkP
    rw [if_neg (by rw [h]; decide), if_neg (fun k => k ⟨by show 0 ≤ l1; omega, by show l1 ≤ 1000000000; omega, by show 0 ≤ r2; omega, by show r2 ≤ 1000000000; omega, by show 1 ≤ l2; omega, by show l2 ≤ 1000000000; omega, by show 1 ≤ r1; omega, by show r1 ≤ 1000000000; omega⟩),
      if_neg (fun k => k ⟨u5, u6, u7⟩)]
    show (l2 + r2, (0 : Int)) = _
    rw [k6]
  unfold Um.parts
  by_cases hlt : (x1 - x3) * x4 < x3 * (x2 - x4)
  · rw [if_pos hlt]
    refine key (x1 - x3) (x2 - x4) x3 x4 (by omega) (by omega) (by omega) (by omega) (by omega) (by omega) ?_
    have g1 : (x2 - x4) * x3 = x3 * x2 - x3 * x4 := by rw [Int.mul_comm, Int.mul_sub]
    show (x2 - x4) * x3 - (x1 - x3) * x4 = 1
    omega
  · rw [if_neg hlt]
    refine key x3 x4 (x1 - x3) (x2 - x4) (by omega) (by omega) (by omega) (by omega) (by omega) (by omega) ?_
    have g1 : x4 * (x1 - x3) = x1 * x4 - x3 * x4 := by rw [Int.mul_comm, Int.sub_mul]
    show x4 * (x1 - x3) - x3 * (x2 - x4) = 1
    omega

/-- the simplest fraction and the proof of a valid span, by letters -/
theorem proof_let (a b c d : Int) (h : spanB (a, b, c, d) = true) : ∃ n m p q r t : Int, Best1 (a, b, c, d) n m ∧ Um.checkP (a, b, c, d) (p, q, r, t) = (m, 0) ∧
    (∀ w, FirstAt w → Calls Tryz.prog 15 #[.agg #[.int .i64 a, .int .i64 b, .int .i64 c, .int .i64 d]] w fun e w' => e = .returned (.tuple #[.agg #[.int .i64 n, .int .i64 m], .int .i64 0]) ∧ Below w.heap.size w w') ∧
    (∀ w, FirstAt w → Calls Tryz.prog 27 #[.agg #[.int .i64 a, .int .i64 b, .int .i64 c, .int .i64 d]] w fun e w' => e = .returned (.tuple #[.agg #[.int .i64 p, .int .i64 q, .int .i64 r, .int .i64 t], .int .i64 0]) ∧ Below w.heap.size w w') :=
  ⟨_, _, _, _, _, _, best1 h, parts_check h, fun w hf => simplestE_ok a b c d w h hf, fun w hf => proofE_ok a b c d w h hf⟩

end Go.Proofs.YtminplfgadhnnaaGreatDoor
end

/- Walks of the law package of layer 1: the small functions. -/
section
namespace Go.Proofs.YtminplfgadhnnaaGreatDoor
open Go.RowKit Go.Shelf
set_option linter.unusedSimpArgs false
set_option linter.unusedVariables false
open Um (frac S4 spanB spanE)

theorem Spans.new2 (w : World) (H : Nat) (x y : S4) (t : TypeId) (hH : w.heap.size = H) : Spans (w.alloc (.cells #[.int .i64 x.1, .int .i64 x.2.1, .int .i64 x.2.2.1, .int .i64 x.2.2.2, .int .i64 y.1, .int .i64 y.2.1, .int .i64 y.2.2.1, .int .i64 y.2.2.2] t)) (some ⟨H, 0, none⟩) 2 [x, y] := by
  subst hH
  refine ⟨rfl, fun _ => ⟨w.heap.size, 0, rfl, by simp, fun i hi => ?_⟩⟩
  have : i = 0 ∨ i = 1 := by omega
  rcases this with rfl | rfl <;> simp

end Go.Proofs.YtminplfgadhnnaaGreatDoor
end

/- The walk of what package unit's Next hands on, and of the least one of some. -/
section
namespace Go.Proofs.YtminplfgadhnnaaGreatDoor
open Go.RowKit Go.Shelf
set_option linter.unusedSimpArgs false
set_option linter.unusedVariables false

end Go.Proofs.YtminplfgadhnnaaGreatDoor
end

/- The walk of package unit's Next. -/
section
namespace Go.Proofs.YtminplfgadhnnaaGreatDoor
open Go.RowKit Go.Shelf
set_option linter.unusedSimpArgs false
set_option linter.unusedVariables false
open Um (frac)

/-- a block of k fractions, of which the first i are known -/
structure Fill (W : World) (H k i : Nat) (f : Nat → Int × Int) : Prop where
  lt : H < W.heap.size
  ex : ∀ j, j < k * 2 → ∃ v, W.cell? ⟨H, j, none⟩ = some v
  free : ∀ j, W.frozen? ⟨H, j, none⟩ = false
  c0 : ∀ j, j < i → W.cell? ⟨H, j * 2, none⟩ = some (.int .i64 (f j).1)
  c1 : ∀ j, j < i → W.cell? ⟨H, j * 2 + 1, none⟩ = some (.int .i64 (f j).2)

theorem Fill.new (w : World) (H k : Nat) (f : Nat → Int × Int) (t : TypeId) (hH : w.heap.size = H) : Fill (w.alloc (.cells (madeCells #[.int .i64 0, .int .i64 0] (k * 2)) t)) H k 0 f := by
  subst hH
  refine ⟨by simp, fun j hj => ?_, fun j => by simp, fun j hj => by omega, fun j hj => by omega⟩
  simp [madeCells, hj]

end Go.Proofs.YtminplfgadhnnaaGreatDoor
end

/- The walk of the examples of the law package of layer 1: they hold. -/
section
namespace Go.Proofs.YtminplfgadhnnaaGreatDoor
open Go.RowKit Go.Shelf
set_option linter.unusedSimpArgs false
set_option linter.unusedVariables false
open Um (frac S4 spanB spanE)

end Go.Proofs.YtminplfgadhnnaaGreatDoor
end

/- Plain laws for the statements of layer 1: paths turned over, spans carried over, fractions inside a span. -/
section
namespace Um
set_option linter.unusedSimpArgs false
set_option linter.unusedVariables false

theorem mul4_order {s d : S4} (hs : spanB s = true) (hd : spanB d = true) (h : frac4 (mul4 s d) = true) : spanB (mul4 s d) = true := by
  obtain ⟨s1, s2, s3⟩ := (spanB_iff s).1 hs
  obtain ⟨d1, d2, d3⟩ := (spanB_iff d).1 hd
  obtain ⟨m1, m2⟩ := (frac4_iff _).1 h
  refine (spanB_iff _).2 ⟨m1, m2, ?_⟩
  exact mulR_mono (frac_pos s1).1 (frac_pos s1).2 (frac_pos d1).1 (frac_pos d1).2 (frac_pos s2).1 (frac_pos s2).2 (frac_pos d2).1 (frac_pos d2).2 s3 d3

theorem carryL_span (l : List S4) : ∀ {s t : S4}, (∀ x ∈ l, spanB x = true) → spanB s = true → carryL s l = some t → spanB t = true := by
  induction l with
  | nil => intro s t _ hs h; simp [carryL] at h; subst h; exact hs
  | cons d l ih =>
    intro s t hl hs h
    rw [carryL] at h
    split at h
    · rename_i hm
      exact ih (fun x hx => hl x (List.mem_cons_of_mem _ hx)) (mul4_order hs (hl d (List.mem_cons_self)) hm) h
    · exact absurd h (by simp)

theorem span_frac4 {s : S4} (h : spanB s = true) : frac4 s = true := by
  obtain ⟨s1, s2, _⟩ := (spanB_iff s).1 h
  exact (frac4_iff s).2 ⟨s1, s2⟩

theorem span_turn {s : S4} (h : spanB s = true) : spanB (turn4 s) = true := by
  obtain ⟨s1, s2, s3⟩ := (spanB_iff s).1 h
  have h4 := (frac4_iff _).1 (turn4_frac (span_frac4 h))
  refine (spanB_iff _).2 ⟨h4.1, h4.2, ?_⟩
  show s.2.2.2 * s.1 ≤ s.2.1 * s.2.2.1
  rw [Int.mul_comm, Int.mul_comm s.2.1]
  exact s3

/-- a fraction is in a span -/
def inS (x : Int × Int) (s : S4) : Prop := s.1 * x.2 ≤ x.1 * s.2.1 ∧ x.1 * s.2.2.2 ≤ s.2.2.1 * x.2

/-- a span of one number -/
def pt (x : Int × Int) : S4 := (x.1, x.2, x.1, x.2)

theorem pt_span {x : Int × Int} (h : frac x.1 x.2 = true) : spanB (pt x) = true := (spanB_iff _).2 ⟨h, h, Int.le_refl _⟩

/-- what a call of Carry and one of Back say of a value and of true numbers -/
theorem carried_laws {s : S4} {zs : List S4} {x : Int × Int} {xs : List (Int × Int)} (hs : spanB s = true) (hlen : zs.length ≤ 8) (hzs : ∀ z ∈ zs, spanB z = true)
    (hx : frac x.1 x.2 = true) (hin : inS x s) (hxl : xs.length = zs.length) (hxs : ∀ y ∈ xs, frac y.1 y.2 = true) (hxz : ∀ i, (h : i < zs.length) → inS (xs[i]'(by omega)) zs[i]) :
    ((carried s zs id).2 = 0 ∨ (carried s zs id).2 = 4) ∧ ((carried s zs id).2 = 0 → spanB (carried s zs id).1 = true) ∧
    ((carried (pt x) (xs.map pt) id).2 = 0 ∨ (carried (pt x) (xs.map pt) id).2 = 4) ∧
    ((carried (pt x) (xs.map pt) id).2 = 0 → spanB (carried (pt x) (xs.map pt) id).1 = true ∧ (carried (pt x) (xs.map pt) id).1.1 = (carried (pt x) (xs.map pt) id).1.2.2.1 ∧ (carried (pt x) (xs.map pt) id).1.2.1 = (carried (pt x) (xs.map pt) id).1.2.2.2 ∧
      ((carried s zs id).2 = 0 → inS ((carried (pt x) (xs.map pt) id).1.1, (carried (pt x) (xs.map pt) id).1.2.1) (carried s zs id).1)) ∧
    ((carried s zs id).2 = 0 → ((carried (carried s zs id).1 zs.reverse turn4).2 = 0 ∨ (carried (carried s zs id).1 zs.reverse turn4).2 = 4) ∧
      ((carried (carried s zs id).1 zs.reverse turn4).2 = 0 → spanB (carried (carried s zs id).1 zs.reverse turn4).1 = true ∧
        inS (s.1, s.2.1) (carried (carried s zs id).1 zs.reverse turn4).1 ∧ inS (s.2.2.1, s.2.2.2) (carried (carried s zs id).1 zs.reverse turn4).1 ∧
        ((∀ z ∈ zs, z.1 = z.2.2.1 ∧ z.2.1 = z.2.2.2) → (carried (carried s zs id).1 zs.reverse turn4).1 = s))) := by
  have good : ∀ (s : S4) (l : List S4) (ch : S4 → S4), spanB s = true → l.length ≤ 8 → (∀ z ∈ l, spanB z = true) → carried s l ch = match carryL s (l.map ch) with | none => ((0, 0, 0, 0), 4) | some t => (t, 0) := by
    intro s l ch h1 h2 h3
    have ha : l.any (fun d => !spanB d) = false := by
      rw [List.any_eq_false]
      intro z hz
      simp [h3 z hz]
    unfold carried
    rw [if_neg (by rw [h1]; decide), if_neg (by omega), if_neg (by rw [ha]; decide)]
    rfl
  have hpts : ∀ z ∈ xs.map pt, spanB z = true := fun z hz => by
    obtain ⟨y, hy, rfl⟩ := List.mem_map.1 hz
    exact pt_span (hxs y hy)
  have e1 := good s zs id hs hlen hzs
  have e2 := good (pt x) (xs.map pt) id (pt_span hx) (by simp; omega) hpts
  rw [List.map_id] at e1 e2
  cases hc : carryL s zs with
  | none =>
    rw [hc] at e1
    dsimp only at e1
    have z4 : (carried s zs id).2 = 4 := by rw [e1]
    refine ⟨Or.inr z4, fun h => absurd (h.symm.trans z4) (by decide), ?_, ?_, fun h => absurd (h.symm.trans z4) (by decide)⟩
    · cases hp : carryL (pt x) (xs.map pt) with
      | none => rw [hp] at e2; rw [e2]; exact Or.inr rfl
      | some v => rw [hp] at e2; rw [e2]; exact Or.inl rfl
    · intro h
      cases hp : carryL (pt x) (xs.map pt) with
      | none => rw [hp] at e2; rw [e2] at h; exact absurd h (by decide)
      | some v =>
        rw [hp] at e2
        obtain ⟨p1, p2⟩ := carryL_point (s := pt x) (u := v) (l := xs.map pt) rfl rfl (fun y hy => by obtain ⟨q, _, rfl⟩ := List.mem_map.1 hy; exact ⟨rfl, rfl⟩) hp
        rw [e2]
        exact ⟨carryL_span _ hpts (pt_span hx) hp, p1, p2, fun h => absurd (h.symm.trans z4) (by decide)⟩
  | some t =>
    rw [hc] at e1
    dsimp only at e1
    have ht := carryL_span _ hzs hs hc
    have hrev : ∀ z ∈ zs.reverse, spanB z = true := fun z hz => hzs z (List.mem_reverse.1 hz)
    have e3 := good t zs.reverse turn4 ht (by simp; omega) hrev
    rw [e1]
    refine ⟨Or.inl rfl, fun _ => ht, ?_, ?_, fun _ => ⟨?_, ?_⟩⟩
    · cases hp : carryL (pt x) (xs.map pt) with
      | none => rw [hp] at e2; rw [e2]; exact Or.inr rfl
      | some v => rw [hp] at e2; rw [e2]; exact Or.inl rfl
    · intro h
      cases hp : carryL (pt x) (xs.map pt) with
      | none => rw [hp] at e2; rw [e2] at h; exact absurd h (by decide)
      | some v =>
        rw [hp] at e2
        obtain ⟨p1, p2⟩ := carryL_point (s := pt x) (u := v) (l := xs.map pt) rfl rfl (fun y hy => by obtain ⟨q, _, rfl⟩ := List.mem_map.1 hy; exact ⟨rfl, rfl⟩) hp
        have hz1 : (((xs.map pt).zip zs).map (·.1)) = xs.map pt := List.map_fst_zip (by simp; omega)
        have hz2 : (((xs.map pt).zip zs).map (·.2)) = zs := List.map_snd_zip (by simp; omega)
        have hsub : sub4 v t := by
          refine carryL_sub (l := (xs.map pt).zip zs) (s := pt x) (t := s) (span_frac4 (pt_span hx)) (span_frac4 hs) ⟨hin.1, hin.2⟩ ?_ (by rw [hz1]; exact hp) (by rw [hz2]; exact hc)
          intro y hy
          obtain ⟨i, hi, rfl⟩ := List.getElem_of_mem hy
          have hi2 : i < zs.length := by simp at hi; omega
          have hi3 : i < xs.length := by omega
          rw [List.getElem_zip, List.getElem_map]
          have hk := hxz i hi2
          exact ⟨span_frac4 (pt_span (hxs _ (List.getElem_mem _))), span_frac4 (hzs _ (List.getElem_mem _)), ⟨hk.1, hk.2⟩⟩
        rw [e2]
        refine ⟨carryL_span _ hpts (pt_span hx) hp, p1, p2, fun _ => ⟨hsub.1, ?_⟩⟩
        have := hsub.2
        unfold qle at this
        show v.1 * t.2.2.2 ≤ t.2.2.1 * v.2.1
        rw [p1, p2]
        exact this
    · show (carried t zs.reverse turn4).2 = 0 ∨ (carried t zs.reverse turn4).2 = 4
      rw [e3]
      cases carryL t (zs.reverse.map turn4) with
      | none => exact Or.inr rfl
      | some v => exact Or.inl rfl
    · show (carried t zs.reverse turn4).2 = 0 → spanB (carried t zs.reverse turn4).1 = true ∧ inS (s.1, s.2.1) (carried t zs.reverse turn4).1 ∧ inS (s.2.2.1, s.2.2.2) (carried t zs.reverse turn4).1 ∧ ((∀ z ∈ zs, z.1 = z.2.2.1 ∧ z.2.1 = z.2.2.2) → (carried t zs.reverse turn4).1 = s)
      intro h
      rw [e3] at h ⊢
      cases hu : carryL t (zs.reverse.map turn4) with
      | none => rw [hu] at h; exact absurd h (by decide)
      | some u =>
        have hturn : ∀ z ∈ zs.reverse.map turn4, spanB z = true := fun z hz => by
          obtain ⟨y, hy, rfl⟩ := List.mem_map.1 hz
          exact span_turn (hrev y hy)
        have hus := carryL_span _ hturn ht hu
        obtain ⟨b1, b2⟩ := carry_back zs hzs (span_frac4 hs) hc hu
        obtain ⟨s1, s2, s3⟩ := (spanB_iff s).1 hs
        obtain ⟨u1, u2, u3⟩ := (spanB_iff u).1 hus
        refine ⟨hus, ⟨b1.1, ?_⟩, ⟨?_, b1.2⟩, b2⟩
        · exact qle_trans (frac_pos s1).2 (frac_pos s2).2 (frac_pos u2).2 s3 b1.2
        · exact qle_trans (frac_pos u1).2 (frac_pos s1).2 (frac_pos s2).2 b1.1 s3

/-- a fraction of a span by a number, as the law package takes it -/
def inside (s : S4) (b : Int) : Int × Int :=
  if b % 3 = 0 then (s.1, s.2.1) else if b % 3 = 1 then (s.2.2.1, s.2.2.2)
  else if frac ((s.1 + s.2.2.1) / (Int.gcd (s.1 + s.2.2.1) (s.2.1 + s.2.2.2) : Int)) ((s.2.1 + s.2.2.2) / (Int.gcd (s.1 + s.2.2.1) (s.2.1 + s.2.2.2) : Int)) = true
    then ((s.1 + s.2.2.1) / (Int.gcd (s.1 + s.2.2.1) (s.2.1 + s.2.2.2) : Int), (s.2.1 + s.2.2.2) / (Int.gcd (s.1 + s.2.2.1) (s.2.1 + s.2.2.2) : Int)) else (s.1, s.2.1)

theorem inside_in {s : S4} (b : Int) (h : spanB s = true) : frac (inside s b).1 (inside s b).2 = true ∧ inS (inside s b) s := by
  obtain ⟨s1, s2, s3⟩ := (spanB_iff s).1 h
  obtain ⟨a1, a2, b1, b2⟩ := frac_bd s1
  obtain ⟨c1, c2, d1, d2⟩ := frac_bd s2
  have lo : frac s.1 s.2.1 = true ∧ inS (s.1, s.2.1) s := ⟨s1, Int.le_refl _, s3⟩
  unfold inside
  split
  · exact lo
  · split
    · exact ⟨s2, s3, Int.le_refl _⟩
    · split
      · rename_i hf
        refine ⟨hf, ?_⟩
        obtain ⟨p, hp⟩ := Int.gcd_dvd_left (a := s.1 + s.2.2.1) (b := s.2.1 + s.2.2.2)
        obtain ⟨q, hq⟩ := Int.gcd_dvd_right (a := s.1 + s.2.2.1) (b := s.2.1 + s.2.2.2)
        have hg0 : 0 < Int.gcd (s.1 + s.2.2.1) (s.2.1 + s.2.2.2) := Int.gcd_pos_of_ne_zero_left _ (by omega)
        have hg : (0 : Int) < (Int.gcd (s.1 + s.2.2.1) (s.2.1 + s.2.2.2) : Int) := by omega
        generalize (Int.gcd (s.1 + s.2.2.1) (s.2.1 + s.2.2.2) : Int) = g at *
        have e1 : (s.1 + s.2.2.1) / g = p := Int.ediv_eq_of_eq_mul_right (by omega) hp
        have e2 : (s.2.1 + s.2.2.2) / g = q := Int.ediv_eq_of_eq_mul_right (by omega) hq
        rw [e1, e2]
        unfold inS
        constructor
        · show s.1 * q ≤ p * s.2.1
          apply le_of_mul_le hg
          have f1 : s.1 * q * g = s.1 * (s.2.1 + s.2.2.2) := by rw [hq, Int.mul_assoc, Int.mul_comm q]
          have f2 : p * s.2.1 * g = (s.1 + s.2.2.1) * s.2.1 := by rw [hp, Int.mul_right_comm, Int.mul_comm p]
          rw [f1, f2, Int.mul_add, Int.add_mul]
          omega
        · show p * s.2.2.2 ≤ s.2.2.1 * q
          apply le_of_mul_le hg
          have f1 : s.2.2.1 * q * g = s.2.2.1 * (s.2.1 + s.2.2.2) := by rw [hq, Int.mul_assoc, Int.mul_comm q]
          have f2 : p * s.2.2.2 * g = (s.1 + s.2.2.1) * s.2.2.2 := by rw [hp, Int.mul_right_comm, Int.mul_comm p]
          rw [f1, f2, Int.mul_add, Int.add_mul]
          omega
      · exact lo

end Um
end

/- What UnitCarried leans on: lists of bytes, a fraction of a span by a number, a list of spans that grows. -/
section
namespace Go.Proofs.YtminplfgadhnnaaGreatDoor
open Go.RowKit Go.Shelf
set_option linter.unusedSimpArgs false
set_option linter.unusedVariables false
open Um (frac S4 spanB spanE)

/-- a slice value that reads as a list of bytes -/
def Byts (w : World) (A : Option Addr) (n : Nat) (zs : List Int) : Prop :=
  zs.length = n ∧ (0 < n → ∃ b off, A = some ⟨b, off, none⟩ ∧ b < w.heap.size ∧ ∀ i, i < n → w.cell? ⟨b, off + i, none⟩ = some (.int .u8 (zs.getD i 0)) ∧ 0 ≤ zs.getD i 0 ∧ zs.getD i 0 ≤ 255)

theorem Byts.at0 {w wr : World} {A : Option Addr} {n k : Nat} {zs : List Int} (h : Byts w A n zs) (hb : Below w.heap.size w wr) (hk : k < n) :
    ∃ b off, A = some ⟨b, off, none⟩ ∧ wr.cell? ⟨b, off + k, none⟩ = some (.int .u8 (zs.getD k 0)) ∧ 0 ≤ zs.getD k 0 ∧ zs.getD k 0 ≤ 255 := by
  obtain ⟨b, off, rfl, hlt, hc⟩ := h.2 (by omega)
  obtain ⟨h1, h2, h3⟩ := hc k hk
  exact ⟨b, off, rfl, (hb.cell (p := ⟨b, off + k, none⟩) hlt).trans h1, h2, h3⟩

theorem Byts.lt {w : World} {b off n : Nat} {zs : List Int} (h : Byts w (some ⟨b, off, none⟩) n zs) (hn : 0 < n) : b < w.heap.size := by
  obtain ⟨b', off', e, hlt, _⟩ := h.2 hn
  injection e with e
  injection e with e1 e2
  subst e1
  exact hlt
theorem Spans.lt {w : World} {b off n : Nat} {zs : List S4} (h : Spans w (some ⟨b, off, none⟩) n zs) (hn : 0 < n) : b < w.heap.size := by
  obtain ⟨b', off', e, hlt, _⟩ := h.2 hn
  injection e with e
  injection e with e1 e2
  subst e1
  exact hlt
theorem Byts.cell {w wr : World} {b off n k : Nat} {zs : List Int} (h : Byts w (some ⟨b, off, none⟩) n zs) (hb : Below w.heap.size w wr) (hk : k < n) :
    wr.cell? ⟨b, off + k, none⟩ = some (.int .u8 (zs.getD k 0)) ∧ 0 ≤ zs.getD k 0 ∧ zs.getD k 0 ≤ 255 := by
  obtain ⟨b', off', e, h1, h2⟩ := h.at0 hb hk
  injection e with e
  injection e with e1 e2
  subst e1 e2
  exact ⟨h1, h2⟩

theorem Spans.cells {w wr : World} {b off n k : Nat} {zs : List S4} {x y z u : Int} (h : Spans w (some ⟨b, off, none⟩) n zs) (hb : Below w.heap.size w wr) (hk : k < n) (hg : zs[k]? = some (x, y, z, u)) :
    wr.cell? ⟨b, off + k * 4, none⟩ = some (.int .i64 x) ∧ wr.cell? ⟨b, off + k * 4 + 1, none⟩ = some (.int .i64 y) ∧ wr.cell? ⟨b, off + k * 4 + 2, none⟩ = some (.int .i64 z) ∧ wr.cell? ⟨b, off + k * 4 + 3, none⟩ = some (.int .i64 u) := by
  obtain ⟨b', off', e, hlt, hc⟩ := h.2 (by omega)
  injection e with e
  injection e with e1 e2
  subst e1 e2
  have hz : zs.getD k (0, 0, 0, 0) = (x, y, z, u) := by rw [List.getD_eq_getElem?_getD, hg]; rfl
  obtain ⟨c0, c1, c2, c3⟩ := hc k hk
  rw [hz] at c0 c1 c2 c3
  exact ⟨(hb.cell (p := ⟨b, _, none⟩) hlt).trans c0, (hb.cell (p := ⟨b, _, none⟩) hlt).trans c1, (hb.cell (p := ⟨b, _, none⟩) hlt).trans c2, (hb.cell (p := ⟨b, _, none⟩) hlt).trans c3⟩

/-- a row of spans of one's own, as a slice -/
theorem own_spans {w : World} {B n : Nat} {v : Value} {zs : List S4} (hl : zs.length = n) (h : w.ownsRow B 43 4 v n (zs.flatMap enc4)) : ∃ A c, v = .slice A n c ∧ Spans w A n zs := by
  rcases h.2 with ⟨rfl, h0⟩ | ⟨g, cap, cur, rfl, hB, hg, _, _, _, ht⟩
  · subst h0
    exact ⟨none, 0, rfl, hl, fun h => absurd h (by omega)⟩
  · refine ⟨some ⟨g, 0, none⟩, cap, rfl, hl, fun hn => ⟨g, 0, rfl, ?_, fun i hi => ?_⟩⟩
    · rcases Nat.lt_or_ge g w.heap.size with h | h
      · exact h
      · rw [Array.getElem?_eq_none h] at hg; cases hg
    · have key : ∀ c, c < 4 → w.cell? ⟨g, 0 + i * 4 + c, none⟩ = (enc4 (zs.getD i (0, 0, 0, 0)))[c]? := by
        intro c hc
        have h1 := h.cellAt (i * 4 + c) (by omega)
        rw [Nat.zero_add, h1, flat4_get zs i c hc]
        have hlt : i < zs.length := by omega
        rw [List.getElem?_eq_getElem hlt, List.getD_eq_getElem?_getD, List.getElem?_eq_getElem hlt]
        rfl
      exact ⟨key 0 (by omega), key 1 (by omega), key 2 (by omega), key 3 (by omega)⟩

/-- an append of one span to a row of the call's own -/
theorem list_own4 {ops : Array Oper} {rest : List Oper} {o : Oper} {a : Act} {w : World} {Q : Exit → Act → World → Prop}
    (hg : o.guard = none) (s x : Operand) (hop : o.op = Op.call { callee := Callee.builtin Builtin.append, args := #[s, x], argTypes := #[28, 28] })
    (B n : Nat) (v : Value) (xs : List S4) (hs : a.eval s = v) (hown : w.ownsRow B 43 4 v n (xs.flatMap enc4))
    (b : Nat) (y : S4) (hx : a.eval x = .slice (some ⟨b, 0, none⟩) 1 1) (hy : ∀ j u, (enc4 y)[j]? = some u → w.cell? ⟨b, j, none⟩ = some u) (hn : n ≤ 1000) (hB : B ≤ w.heap.size)
    (hK : ∀ g c w', w'.ownsRow B 43 4 (.slice (some ⟨g, 0, none⟩) (n + 1) c) (n + 1) ((xs ++ [y]).flatMap enc4) → Below B w w' → wpList Tryz.prog ops Q rest (a.put o.dst (.slice (some ⟨g, 0, none⟩) (n + 1) c)) w') :
    wpList Tryz.prog ops Q (o :: rest) a w := by
  obtain ⟨i0, hi0, hz0, hz1, hz2⟩ := info_parts span_info
  refine wpList_append_own w hg s x 28 hop B 43 i0 (.agg #[.int .i64 0, .int .i64 0, .int .i64 0, .int .i64 0]) 4 32 Tryz.underlying28 hi0 hz0 hz1 hz2 rfl (by omega) v n (xs.flatMap enc4) hs hown ⟨b, 0, none⟩ 1 1 (enc4 y) hx rfl ?_ ?_ (by unfold maxLen; omega) (by omega) hB ?_
  · intro j u hu
    rw [addr_add, Nat.zero_add]; exact hy j u hu
  · intro u hu
    simp [enc4] at hu
    rcases hu with rfl | rfl | rfl | rfl <;> rfl
  · intro v' w' h1 h2 _
    obtain ⟨g, c, rfl, _, _⟩ := World.ownsRow.form h1 (by omega)
    refine hK g c w' (by rw [List.flatMap_append]; simpa using h1) ((Below.refl B w).grown h2 hB (own_block hown))

set_option maxHeartbeats 1000000 in
theorem inside_any (a b c d t : Int) (w : World) (h : spanB (a, b, c, d) = true) (h0 : 0 ≤ t) (h1 : t ≤ 255) :
    Calls Tryz.prog 12 #[.agg #[.int .i64 a, .int .i64 b, .int .i64 c, .int .i64 d], .int .u8 t] w fun e w' => e = .returned (.agg #[.int .i64 (Um.inside (a, b, c, d) t).1, .int .i64 (Um.inside (a, b, c, d) t).2]) ∧ Below w.heap.size w w' := by
  have f1 : t.tmod 3 = t % 3 := Int.tmod_eq_emod_of_nonneg h0
  have f2 : IntKind.u8.wrap (t % 3) = t % 3 := IntWalk.u8_in _ (by omega)
  obtain ⟨g1, g2, g3⟩ := (Um.spanB_iff _).1 h
  obtain ⟨a1, a2, b1, b2⟩ := Um.frac_bd (n := a) (d := b) g1
  obtain ⟨c1, c2, d1, d2⟩ := Um.frac_bd (n := c) (d := d) g2
  clear h g1 g2 g3
  by_cases e0 : t % 3 = 0
  · have hI : Um.inside (a, b, c, d) t = (a, b) := by unfold Um.inside; rw [if_pos e0]
    rw [hI]
    have x0 : (t % 3 == 0) = true := by simp [e0]
    clear hI
    go_enter Tryz.func12, Tryz.ntmps12
    go_wp2_with fail
    exact bodyPost_ret (v := .agg #[.int .i64 a, .int .i64 b]) (by simp [results, Tryz.results12, go_sem]) rfl ⟨rfl, (by repeat (first | with_reducible exact Below.refl _ _ | with_reducible assumption | with_reducible refine balloc ?_ _ | with_reducible refine bdrewN ?_ _ | with_reducible refine Below.drew ?_ | (with_reducible refine bset ?_ ?_ _; rotate_left; focus (first | assumption | omega | (simp; done) | (simp; omega))) | with_reducible refine bstep ?_ (by assumption) | assumption))⟩
  · by_cases e1 : t % 3 = 1
    · have hI : Um.inside (a, b, c, d) t = (c, d) := by unfold Um.inside; rw [if_neg e0, if_pos e1]
      rw [hI]
      have x0 : (t % 3 == 0) = false := by simp [e0]
      have x1 : (t % 3 == 1) = true := by simp [e1]
      clear hI
      go_enter Tryz.func12, Tryz.ntmps12
      go_wp2_with fail
      exact bodyPost_ret (v := .agg #[.int .i64 c, .int .i64 d]) (by simp [results, Tryz.results12, go_sem]) rfl ⟨rfl, (by repeat (first | with_reducible exact Below.refl _ _ | with_reducible assumption | with_reducible refine balloc ?_ _ | with_reducible refine bdrewN ?_ _ | with_reducible refine Below.drew ?_ | (with_reducible refine bset ?_ ?_ _; rotate_left; focus (first | assumption | omega | (simp; done) | (simp; omega))) | with_reducible refine bstep ?_ (by assumption) | assumption))⟩
    · have hI : Um.inside (a, b, c, d) t = if frac ((a + c) / (Int.gcd (a + c) (b + d) : Int)) ((b + d) / (Int.gcd (a + c) (b + d) : Int)) = true then ((a + c) / (Int.gcd (a + c) (b + d) : Int), (b + d) / (Int.gcd (a + c) (b + d) : Int)) else (a, b) := by unfold Um.inside; rw [if_neg e0, if_neg e1]
      rw [hI]
      have x0 : (t % 3 == 0) = false := by simp [e0]
      have x1 : (t % 3 == 1) = false := by simp [e1]
      have f3 : IntKind.i64.wrap (a + c) = a + c := IntWalk.i64_in _ (by omega)
      have f4 : IntKind.i64.wrap (b + d) = b + d := IntWalk.i64_in _ (by omega)
      have k1 := fun W => reduced_any (a + c) (b + d) W (by omega) (by omega) (by omega) (by omega)
      clear hI a1 a2 b1 b2 c1 c2 d1 d2
      generalize (a + c) / (Int.gcd (a + c) (b + d) : Int) = p at *
      generalize (b + d) / (Int.gcd (a + c) (b + d) : Int) = q at *
      have k2 := fun W => risFraction_any p q W
      cases hf : frac p q with
      | true =>
        rw [hf] at k2
        rw [if_pos rfl]
        clear hf
        go_enter Tryz.func12, Tryz.ntmps12
        go_wp2_with fail
        refine (k1 _).mono ?_
        rintro e w1 ⟨rfl, hb1⟩
        replace B0 : Cs w1 (w.heap.size) #[.int .i64 a, .int .i64 b, .int .i64 c, .int .i64 d] := Cs.keep (by repeat (first | with_reducible assumption | (with_reducible refine Cs.new _ _ _ _ ?_; first | rfl | (simp; done)) | with_reducible refine Cs.alloc ?_ _ | with_reducible refine Cs.drewN ?_ _ | with_reducible refine Cs.drew ?_ | with_reducible refine Cs.set4 ?_ _ _ _ _ | (with_reducible refine Cs.other4 ?_ ?_ _ _ _ _; rotate_left; focus (first | assumption | omega | (simp; done) | (simp; omega))) | with_reducible refine Cs.set2 ?_ _ _ | (with_reducible refine Cs.other2 ?_ ?_ _ _; rotate_left; focus (first | assumption | omega | (simp; done) | (simp; omega))) | (with_reducible refine Cs.other ?_ ?_ _; rotate_left; focus (first | assumption | omega | (simp; done) | (simp; omega))) | with_reducible refine Cs.keep ?_ (by assumption) | assumption)) hb1
        replace B1 : Cs w1 (w.heap.size + 1) #[.int .i64 0, .int .i64 0] := Cs.keep (by repeat (first | with_reducible assumption | (with_reducible refine Cs.new _ _ _ _ ?_; first | rfl | (simp; done)) | with_reducible refine Cs.alloc ?_ _ | with_reducible refine Cs.drewN ?_ _ | with_reducible refine Cs.drew ?_ | with_reducible refine Cs.set4 ?_ _ _ _ _ | (with_reducible refine Cs.other4 ?_ ?_ _ _ _ _; rotate_left; focus (first | assumption | omega | (simp; done) | (simp; omega))) | with_reducible refine Cs.set2 ?_ _ _ | (with_reducible refine Cs.other2 ?_ ?_ _ _; rotate_left; focus (first | assumption | omega | (simp; done) | (simp; omega))) | (with_reducible refine Cs.other ?_ ?_ _; rotate_left; focus (first | assumption | omega | (simp; done) | (simp; omega))) | with_reducible refine Cs.keep ?_ (by assumption) | assumption)) hb1
        replace hbw : Below w.heap.size w w1 := (by repeat (first | with_reducible exact Below.refl _ _ | with_reducible assumption | with_reducible refine balloc ?_ _ | with_reducible refine bdrewN ?_ _ | with_reducible refine Below.drew ?_ | (with_reducible refine bset ?_ ?_ _; rotate_left; focus (first | assumption | omega | (simp; done) | (simp; omega))) | with_reducible refine bstep ?_ (by assumption) | assumption))
        replace cB0 := B0.c
        replace fB0 := B0.f
        replace lB0 := B0.lt
        replace cB1 := B1.c
        replace fB1 := B1.f
        replace lB1 := B1.lt
        clear hb1
        go_wp2_with fail
        refine (k2 _).mono ?_
        rintro e w2 ⟨rfl, hb2⟩
        try clear cB0 fB0 lB0
        try clear B0
        replace B1 : Cs w2 (w.heap.size + 1) #[.int .i64 0, .int .i64 0] := Cs.keep (by repeat (first | with_reducible assumption | (with_reducible refine Cs.new _ _ _ _ ?_; first | rfl | (simp; done)) | with_reducible refine Cs.alloc ?_ _ | with_reducible refine Cs.drewN ?_ _ | with_reducible refine Cs.drew ?_ | with_reducible refine Cs.set4 ?_ _ _ _ _ | (with_reducible refine Cs.other4 ?_ ?_ _ _ _ _; rotate_left; focus (first | assumption | omega | (simp; done) | (simp; omega))) | with_reducible refine Cs.set2 ?_ _ _ | (with_reducible refine Cs.other2 ?_ ?_ _ _; rotate_left; focus (first | assumption | omega | (simp; done) | (simp; omega))) | (with_reducible refine Cs.other ?_ ?_ _; rotate_left; focus (first | assumption | omega | (simp; done) | (simp; omega))) | with_reducible refine Cs.keep ?_ (by assumption) | assumption)) hb2
        replace B2 : Cs w2 (w1.heap.size) #[.int .i64 p, .int .i64 q] := Cs.keep (by repeat (first | with_reducible assumption | (with_reducible refine Cs.new _ _ _ _ ?_; first | rfl | (simp; done)) | with_reducible refine Cs.alloc ?_ _ | with_reducible refine Cs.drewN ?_ _ | with_reducible refine Cs.drew ?_ | with_reducible refine Cs.set4 ?_ _ _ _ _ | (with_reducible refine Cs.other4 ?_ ?_ _ _ _ _; rotate_left; focus (first | assumption | omega | (simp; done) | (simp; omega))) | with_reducible refine Cs.set2 ?_ _ _ | (with_reducible refine Cs.other2 ?_ ?_ _ _; rotate_left; focus (first | assumption | omega | (simp; done) | (simp; omega))) | (with_reducible refine Cs.other ?_ ?_ _; rotate_left; focus (first | assumption | omega | (simp; done) | (simp; omega))) | with_reducible refine Cs.keep ?_ (by assumption) | assumption)) hb2
        replace hbw : Below w.heap.size w w2 := (by repeat (first | with_reducible exact Below.refl _ _ | with_reducible assumption | with_reducible refine balloc ?_ _ | with_reducible refine bdrewN ?_ _ | with_reducible refine Below.drew ?_ | (with_reducible refine bset ?_ ?_ _; rotate_left; focus (first | assumption | omega | (simp; done) | (simp; omega))) | with_reducible refine bstep ?_ (by assumption) | assumption))
        replace cB1 := B1.c
        replace fB1 := B1.f
        replace lB1 := B1.lt
        replace cB2 := B2.c
        replace fB2 := B2.f
        replace lB2 := B2.lt
        clear hb2
        go_wp2_with fail
        exact bodyPost_ret (v := .agg #[.int .i64 p, .int .i64 q]) (by simp [results, Tryz.results12, go_sem, cB1, fB1, lB1, cB2, fB2, lB2]) rfl ⟨rfl, (by repeat (first | with_reducible exact Below.refl _ _ | with_reducible assumption | with_reducible refine balloc ?_ _ | with_reducible refine bdrewN ?_ _ | with_reducible refine Below.drew ?_ | (with_reducible refine bset ?_ ?_ _; rotate_left; focus (first | assumption | omega | (simp; done) | (simp; omega))) | with_reducible refine bstep ?_ (by assumption) | assumption))⟩
      | false =>
        rw [hf] at k2
        rw [if_neg (by decide)]
        clear hf
        go_enter Tryz.func12, Tryz.ntmps12
        go_wp2_with fail
        refine (k1 _).mono ?_
        rintro e w1 ⟨rfl, hb1⟩
        replace B0 : Cs w1 (w.heap.size) #[.int .i64 a, .int .i64 b, .int .i64 c, .int .i64 d] := Cs.keep (by repeat (first | with_reducible assumption | (with_reducible refine Cs.new _ _ _ _ ?_; first | rfl | (simp; done)) | with_reducible refine Cs.alloc ?_ _ | with_reducible refine Cs.drewN ?_ _ | with_reducible refine Cs.drew ?_ | with_reducible refine Cs.set4 ?_ _ _ _ _ | (with_reducible refine Cs.other4 ?_ ?_ _ _ _ _; rotate_left; focus (first | assumption | omega | (simp; done) | (simp; omega))) | with_reducible refine Cs.set2 ?_ _ _ | (with_reducible refine Cs.other2 ?_ ?_ _ _; rotate_left; focus (first | assumption | omega | (simp; done) | (simp; omega))) | (with_reducible refine Cs.other ?_ ?_ _; rotate_left; focus (first | assumption | omega | (simp; done) | (simp; omega))) | with_reducible refine Cs.keep ?_ (by assumption) | assumption)) hb1
        replace B1 : Cs w1 (w.heap.size + 1) #[.int .i64 0, .int .i64 0] := Cs.keep (by repeat (first | with_reducible assumption | (with_reducible refine Cs.new _ _ _ _ ?_; first | rfl | (simp; done)) | with_reducible refine Cs.alloc ?_ _ | with_reducible refine Cs.drewN ?_ _ | with_reducible refine Cs.drew ?_ | with_reducible refine Cs.set4 ?_ _ _ _ _ | (with_reducible refine Cs.other4 ?_ ?_ _ _ _ _; rotate_left; focus (first | assumption | omega | (simp; done) | (simp; omega))) | with_reducible refine Cs.set2 ?_ _ _ | (with_reducible refine Cs.other2 ?_ ?_ _ _; rotate_left; focus (first | assumption | omega | (simp; done) | (simp; omega))) | (with_reducible refine Cs.other ?_ ?_ _; rotate_left; focus (first | assumption | omega | (simp; done) | (simp; omega))) | with_reducible refine Cs.keep ?_ (by assumption) | assumption)) hb1
        replace hbw : Below w.heap.size w w1 := (by repeat (first | with_reducible exact Below.refl _ _ | with_reducible assumption | with_reducible refine balloc ?_ _ | with_reducible refine bdrewN ?_ _ | with_reducible refine Below.drew ?_ | (with_reducible refine bset ?_ ?_ _; rotate_left; focus (first | assumption | omega | (simp; done) | (simp; omega))) | with_reducible refine bstep ?_ (by assumption) | assumption))
        replace cB0 := B0.c
        replace fB0 := B0.f
        replace lB0 := B0.lt
        replace cB1 := B1.c
        replace fB1 := B1.f
        replace lB1 := B1.lt
        clear hb1
        go_wp2_with fail
        refine (k2 _).mono ?_
        rintro e w2 ⟨rfl, hb2⟩
        replace B0 : Cs w2 (w.heap.size) #[.int .i64 a, .int .i64 b, .int .i64 c, .int .i64 d] := Cs.keep (by repeat (first | with_reducible assumption | (with_reducible refine Cs.new _ _ _ _ ?_; first | rfl | (simp; done)) | with_reducible refine Cs.alloc ?_ _ | with_reducible refine Cs.drewN ?_ _ | with_reducible refine Cs.drew ?_ | with_reducible refine Cs.set4 ?_ _ _ _ _ | (with_reducible refine Cs.other4 ?_ ?_ _ _ _ _; rotate_left; focus (first | assumption | omega | (simp; done) | (simp; omega))) | with_reducible refine Cs.set2 ?_ _ _ | (with_reducible refine Cs.other2 ?_ ?_ _ _; rotate_left; focus (first | assumption | omega | (simp; done) | (simp; omega))) | (with_reducible refine Cs.other ?_ ?_ _; rotate_left; focus (first | assumption | omega | (simp; done) | (simp; omega))) | with_reducible refine Cs.keep ?_ (by assumption) | assumption)) hb2
        replace B1 : Cs w2 (w.heap.size + 1) #[.int .i64 0, .int .i64 0] := Cs.keep (by repeat (first | with_reducible assumption | (with_reducible refine Cs.new _ _ _ _ ?_; first | rfl | (simp; done)) | with_reducible refine Cs.alloc ?_ _ | with_reducible refine Cs.drewN ?_ _ | with_reducible refine Cs.drew ?_ | with_reducible refine Cs.set4 ?_ _ _ _ _ | (with_reducible refine Cs.other4 ?_ ?_ _ _ _ _; rotate_left; focus (first | assumption | omega | (simp; done) | (simp; omega))) | with_reducible refine Cs.set2 ?_ _ _ | (with_reducible refine Cs.other2 ?_ ?_ _ _; rotate_left; focus (first | assumption | omega | (simp; done) | (simp; omega))) | (with_reducible refine Cs.other ?_ ?_ _; rotate_left; focus (first | assumption | omega | (simp; done) | (simp; omega))) | with_reducible refine Cs.keep ?_ (by assumption) | assumption)) hb2
        replace hbw : Below w.heap.size w w2 := (by repeat (first | with_reducible exact Below.refl _ _ | with_reducible assumption | with_reducible refine balloc ?_ _ | with_reducible refine bdrewN ?_ _ | with_reducible refine Below.drew ?_ | (with_reducible refine bset ?_ ?_ _; rotate_left; focus (first | assumption | omega | (simp; done) | (simp; omega))) | with_reducible refine bstep ?_ (by assumption) | assumption))
        replace cB0 := B0.c
        replace fB0 := B0.f
        replace lB0 := B0.lt
        replace cB1 := B1.c
        replace fB1 := B1.f
        replace lB1 := B1.lt
        clear hb2
        go_wp2_with fail
        exact bodyPost_ret (v := .agg #[.int .i64 a, .int .i64 b]) (by simp [results, Tryz.results12, go_sem, cB0, fB0, lB0, cB1, fB1, lB1]) rfl ⟨rfl, (by repeat (first | with_reducible exact Below.refl _ _ | with_reducible assumption | with_reducible refine balloc ?_ _ | with_reducible refine bdrewN ?_ _ | with_reducible refine Below.drew ?_ | (with_reducible refine bset ?_ ?_ _; rotate_left; focus (first | assumption | omega | (simp; done) | (simp; omega))) | with_reducible refine bstep ?_ (by assumption) | assumption))⟩

end Go.Proofs.YtminplfgadhnnaaGreatDoor
end
