/- EC4 EC5 EC6 EM3 EM4 -/
import Derived.Test.YtcmllkjgggcghaaEZ08
import Derived.Test.YtcmllkjgggcghaaEZ01
import Derived.Lib.Hide
/- Walks of the reference of layer 10: the answers of an outcome. -/
section
namespace Go.Proofs.Ytcmllkjgggcghaa
open Go.RowKit Go.Shelf
set_option linter.unusedSimpArgs false
set_option linter.unusedVariables false

theorem intT_info : (Try.prog.info? 3).map (fun i => (i.zero, i.size, i.bytes)) = some (some (.int .i64 0), 1, 8) := by kernel_rfl
theorem make_ints (n : Nat) (hn : n ≤ 1000) (w : World) :
    (Instr.makeSlice 23 (.int .i64 (n : Int)) (.int .i64 (n : Int))).run Try.prog w = .ok (.slice (some ⟨w.heap.size, 0, none⟩) n n) (w.alloc (.cells (madeCells #[.int .i64 0] (n * 1)) 3)) := by
  obtain ⟨i, hi, hzz⟩ := Option.map_eq_some_iff.1 intT_info
  simp only [Prod.mk.injEq] at hzz
  obtain ⟨hz, hs, hb⟩ := hzz
  have hr := run_make (P := Try.prog) w 23 3 i (.int .i64 0) (by kernel_rfl) hi hz .i64 .i64 n n (by omega) (Int.le_refl _) (by rw [hb]; omega) (by omega)
  simp only [Int.toNat_natCast, hs] at hr
  exact hr

/-- a block of n numbers that can be written -/
structure Row (W : World) (g n : Nat) (h : Nat → Nat) : Prop where
  lt : g < W.heap.size
  c : ∀ i, i < n → W.cell? ⟨g, i, none⟩ = some (.int .i64 (h i : Nat))
  free : ∀ i, W.frozen? ⟨g, i, none⟩ = false

theorem Row.set {W : World} {g n : Nat} {h : Nat → Nat} (hr : Row W g n h) (k v : Nat) (hk : k < n) : Row (W.setCell ⟨g, k, none⟩ (.int .i64 (v : Nat))) g n (upd h k v) := by
  refine ⟨by simpa [World.setCell] using hr.lt, fun i hi => ?_, fun i => by rw [World.frozen?_setCell]; exact hr.free i⟩
  by_cases e : i = k
  · subst e
    rw [World.cell?_setCell_same' _ _ _ (by rw [hr.c i hi]; simp), upd_same]
  · rw [World.cell?_setCell_other _ _ _ _ (by intro h; injection h with _ h; exact e h.symm), hr.c i hi, upd_ne h v e]
theorem Row.drewN {W : World} {g n : Nat} {h : Nat → Nat} (hr : Row W g n h) (k : Nat) : Row (W.drewN k) g n h := ⟨hr.lt, hr.c, hr.free⟩
theorem Row.drew {W : World} {g n : Nat} {h : Nat → Nat} (hr : Row W g n h) : Row W.drew g n h := ⟨hr.lt, hr.c, hr.free⟩

set_option maxRecDepth 10000 in
set_option maxHeartbeats 4000000 in
theorem answers_any (A : Option Addr) (n c N : Nat) (zs : List Pl) (w : World) (hz : Plates w A n zs) (hn : n ≤ 6) (hg : ∀ p ∈ zs, Good p) (hN : N ≤ 1000000) :
    Calls Try.prog 78 #[.slice A n c, .int .i64 (N : Nat)] w fun e w' => ∃ g cc : Nat, e = .returned (.slice (some ⟨g, 0, none⟩) n cc) ∧ w.heap.size ≤ g ∧ Row w' g n (digF (fun i => (plAt zs i).gn) n N (fun _ => 0)) ∧ Below w.heap.size w w' := by
  have Hz := Lib.hid hz
  have Hg := Lib.hid hg
  have km := make_ints n (by omega)
  have i1 : IntKind.i64.wrap ((n : Int) - 1) = (n : Int) - 1 := IntWalk.i64_in _ (by omega)
  generalize hT : digF (fun i => (plAt zs i).gn) n N (fun _ => 0) = T
  have HT := Lib.hid hT
  clear hz hg hT
  go_enter Try.func78, Try.ntmps78
  go_wp2_with fail
  have R0 : Row (w.alloc (.cells (madeCells #[.int .i64 0] n) 3)) w.heap.size n (fun _ => 0) := by
    refine ⟨by simp, fun i hi => ?_, fun i => by simp⟩
    simp [madeCells, hi, Nat.mod_one]
  clear km
  go_loopw [1, 6] (fun s1 s6 wx => ∃ (k M : Nat) (v : Int) (h : Nat → Nat) (W : World), k ≤ n ∧ s1 = .int .i64 (M : Nat) ∧ s6 = .int .i64 v ∧ Hid (v = (k : Int) - 1) ∧ Hid (W = wx) ∧ M ≤ 1000000 ∧ Hid (digF (fun i => (plAt zs i).gn) k M h = T) ∧ Row W w.heap.size n h ∧ Below w.heap.size w W) (fun _ s6 _ => (intOf s6 + 1).toNat)
  case atStart => exact ⟨n, N, (n : Int) - 1, fun _ => 0, _, Nat.le_refl _, rfl, rfl, Lib.hid rfl, Lib.hid rfl, hN, Lib.hid HT.out, R0, blA⟩
  case round =>
    obtain ⟨k, M, v, h, W, hk, rfl, rfl, Hv, HW, hM, Hd, Rr, hbw⟩ := hrel
    obtain rfl := HW.out
    clear HW
    cases k with
    | succ j =>
      have hv : v = (j : Int) := by rw [Hv.out]; omega
      subst hv
      have hj : j < n := by omega
      have hjI : (0 : Int) ≤ (j : Int) := by omega
      have hjn : (j : Int) < (n : Int) := by omega
      obtain ⟨b, off, p, rfl, hget, c0, c1⟩ := Hz.out.at_ hbw hj
      have hmem := List.mem_of_getElem? hget
      have g2 := (Hg.out p hmem).g2
      have hpa := plAt_eq hget
      have Hd2 : Hid (digF (fun i => (plAt zs i).gn) j (M / p.gn) (upd h j (M % p.gn)) = T) := Lib.hid (by rw [← Hd.out, digF, hpa])
      have hq : M / p.gn ≤ 1000000 := Nat.le_trans (Nat.div_le_self _ _) hM
      have hr : M % p.gn < p.gn := Nat.mod_lt _ (by omega)
      have hr2 : M % p.gn ≤ M := Nat.mod_le _ _
      have f1 : ((M : Nat) : Int).tmod (p.gn : Int) = ((M % p.gn : Nat) : Int) := by rw [Int.tmod_eq_emod_of_nonneg (by omega)]; exact (Int.natCast_emod _ _).symm
      have f2 : ((M : Nat) : Int).tdiv (p.gn : Int) = ((M / p.gn : Nat) : Int) := by rw [Int.tdiv_eq_ediv_of_nonneg (by omega)]; exact (Int.natCast_ediv _ _).symm
      generalize M / p.gn = q at *
      generalize M % p.gn = r at *
      have f3 : IntKind.i64.wrap ((r : Nat) : Int) = ((r : Nat) : Int) := IntWalk.i64_in _ (by omega)
      have f4 : IntKind.i64.wrap ((q : Nat) : Int) = ((q : Nat) : Int) := IntWalk.i64_in _ (by omega)
      have f5 : IntKind.i64.wrap ((j : Int) - 1) = (j : Int) - 1 := IntWalk.i64_in _ (by omega)
      have z1 : ((p.gn : Int) == 0) = false := by simp; omega
      have z2 : ¬ (p.gn : Int) = 0 := by omega
      have z3 : ¬ p.gn = 0 := by omega
      have cr := Rr.c j hj
      have fr := Rr.free
      have lr := Rr.lt
      clear Hd hpa hmem
      have Hget := Lib.hid hget
      clear hget
      have c2 : ∀ x : Value, (W.setCell ⟨w.heap.size, j, none⟩ x).cell? ⟨b, off + j * 2, none⟩ = some (.slice p.gA p.gn p.gc) := fun x => (Hz.out.cell (bset hbw (p := ⟨w.heap.size, j, none⟩) (Nat.le_refl _) x) hj Hget.out).1
      have R2 := Rr.set j r hj
      have hb2 := bset hbw (p := ⟨w.heap.size, j, none⟩) (Nat.le_refl _) (.int .i64 (r : Nat))
      go_wp2_with fail
      go_roundw
      case rel => exact ⟨j, q, (j : Int) - 1, upd h j r, _, by omega, rfl, rfl, Lib.hid rfl, Lib.hid rfl, hq, Hd2, R2, hb2⟩
      case measure => first | (simp [intOf]; done) | (simp [intOf]; omega)
    | zero =>
      have hv : v = -1 := by rw [Hv.out]; rfl
      subst hv
      have hT2 : h = T := Hd.out
      subst hT2
      clear Hd Hv
      go_wp2_with fail
      go_ret
      exact ⟨_, _, rfl, Nat.le_refl _, Rr, hbw⟩

end Go.Proofs.Ytcmllkjgggcghaa
end

/- Walks of the reference of layer 10: the odds of an outcome by its number. -/
section
namespace Go.Proofs.Ytcmllkjgggcghaa
open Go.RowKit Go.Shelf
set_option linter.unusedSimpArgs false
set_option linter.unusedVariables false

/-- how many answers each plate has -/
def lensOf (zs : List Pl) (i : Nat) : Nat := (plAt zs i).gn
/-- the answers of an outcome -/
def digs (zs : List Pl) (n N : Nat) : Nat → Nat := digF (fun i => (plAt zs i).gn) n N (fun _ => 0)

theorem digs_fit {zs : List Pl} {n N : Nat} (hl : zs.length = n) (hg : ∀ p ∈ zs, Good p) (hN : N < mt (fun i => (plAt zs i).gn) n) : Fit zs (digs zs n N) := by
  intro k p hk
  have hkn : k < n := by rw [← hl]; exact (List.getElem?_eq_some_iff.1 hk).1
  have h := (dig_vl (L := fun i => (plAt zs i).gn) n N (fun _ => 0) (fun i hi => by
    have hget : zs[i]? = some zs[i] := List.getElem?_eq_getElem (by omega)
    have := (hg zs[i] (List.getElem_mem (by omega))).g2
    rw [plAt_eq hget]; omega) hN).2.1 k hkn
  rw [plAt_eq hk] at h
  exact h

set_option maxHeartbeats 1000000 in
theorem of10_any (A : Option Addr) (n c N : Nat) (zs : List Pl) (w : World) (hz : Plates w A n zs) (hn : n ≤ 6) (hg : ∀ p ∈ zs, Good p) (hN : N < mt (fun i => (plAt zs i).gn) n) (hN2 : N ≤ 1000000) :
    Calls Try.prog 56 #[.slice A n c, .int .i64 (N : Nat)] w fun e w' => e = .returned (.agg #[.int .i64 (oddG zs (digs zs n N) n), .int .i64 (oddE zs (digs zs n N) n)]) ∧ Below w.heap.size w w' := by
  have hf := digs_fit hz.1 hg hN
  have k1 := fun (W : World) (hb : Below w.heap.size w W) => answers_any A n c N zs W (hz.below hb) hn hg hN2
  have k2 := fun (W : World) (g cc : Nat) (hb : Below w.heap.size w W) (hr : Row W g n (digs zs n N)) => rodds_any A (some ⟨g, 0, none⟩) n c cc zs ((List.range n).map fun i => (digs zs n N i : Int)) (digs zs n N) W (hz.below hb)
    ⟨by simp, fun _ => ⟨g, 0, rfl, hr.lt, fun i hi => by rw [Nat.zero_add, hr.c i hi]; simp [List.getD_eq_getElem?_getD, hi]⟩⟩ hn hg hf (fun i hi => by simp [List.getD_eq_getElem?_getD, hi])
  clear hz hg hf hN
  generalize oddG zs (digs zs n N) n = x at *
  generalize oddE zs (digs zs n N) n = y at *
  go_enter Try.func56, Try.ntmps56
  go_wp2_with fail
  refine (k1 _ blA).mono ?_
  rintro _ w1 ⟨g, cc, rfl, _, hr, hb1⟩
  replace B0 : Cs w1 (w.heap.size) #[.int .i64 0, .int .i64 0] := Cs.keep csA hb1
  replace hbw : Below w.heap.size w w1 := blA
  replace cB0 := B0.c
  replace fB0 := B0.f
  replace lB0 := B0.lt
  clear hb1
  go_wp2_with fail
  refine (k2 _ _ _ blA hr).mono ?_
  rintro _ w2 ⟨rfl, hb2⟩
  replace B0 : Cs w2 (w.heap.size) #[.int .i64 0, .int .i64 0] := Cs.keep csA hb2
  replace hbw : Below w.heap.size w w2 := blA
  replace cB0 := B0.c
  replace fB0 := B0.f
  replace lB0 := B0.lt
  clear hb2
  clear k1 k2 hr
  go_wp2_with fail
  exact bodyPost_ret (v := .agg #[.int .i64 x, .int .i64 y]) (by simp [results, Try.results56, go_sem, cB0, fB0, lB0]) rfl ⟨rfl, blA⟩

end Go.Proofs.Ytcmllkjgggcghaa
end

/- How many outcomes a test has: by digits, and by the product. -/
section
namespace Go.Proofs.Ytcmllkjgggcghaa

theorem mt_many (zs : List Pl) : ∀ k, k ≤ zs.length → mt (fun i => (plAt zs i).gn) k = manyT (zs.take k)
  | 0, _ => by simp [mt, manyT]
  | k + 1, hk => by
    have hget : zs[k]? = some zs[k] := List.getElem?_eq_getElem (by omega)
    rw [mt, mt_many zs k (by omega), many_next hget, plAt_eq hget]

theorem mt_all {zs : List Pl} {n : Nat} (hl : zs.length = n) : mt (fun i => (plAt zs i).gn) n = manyT zs := by
  rw [mt_many zs n (by omega), List.take_of_length_le (by omega)]

end Go.Proofs.Ytcmllkjgggcghaa
end

/- Plain laws of outcomes: the odds of an outcome, where the iterator stands. -/
section
namespace Go.Proofs.Ytcmllkjgggcghaa
set_option linter.unusedSimpArgs false
set_option linter.unusedVariables false

/-- the odds of the outcome with a number -/
def ocG (zs : List Pl) (n N : Nat) : Int := oddG zs (digs zs n N) n
def ocE (zs : List Pl) (n N : Nat) : Int := oddE zs (digs zs n N) n

theorem odd_congr (zs : List Pl) (f g : Nat → Nat) : ∀ k, (∀ i, i < k → f i = g i) → oddG zs f k = oddG zs g k ∧ oddE zs f k = oddE zs g k
  | 0, _ => ⟨rfl, rfl⟩
  | k + 1, h => by
    have h1 := odd_congr zs f g k (fun i hi => h i (by omega))
    simp only [oddG, oddE, h1.1, h1.2, h k (by omega), and_self]

/-- answers that stand at a number -/
structure At (zs : List Pl) (n N : Nat) (f : Nat → Nat) : Prop where
  fit : Fit zs f
  vl : vl (fun i => (plAt zs i).gn) n f = N
  out : ∀ i, n ≤ i → f i = 0

theorem lens_pos {zs : List Pl} {n : Nat} (hl : zs.length = n) (hg : ∀ p ∈ zs, Good p) : ∀ i, i < n → 0 < (plAt zs i).gn := by
  intro i hi
  have hget : zs[i]? = some zs[i] := List.getElem?_eq_getElem (by omega)
  have := (hg zs[i] (List.getElem_mem (by omega))).g2
  rw [plAt_eq hget]; omega

theorem fit_lt {zs : List Pl} {n : Nat} {f : Nat → Nat} (hl : zs.length = n) (hf : Fit zs f) : ∀ i, i < n → f i < (plAt zs i).gn := by
  intro i hi
  have hget : zs[i]? = some zs[i] := List.getElem?_eq_getElem (by omega)
  rw [plAt_eq hget]; exact hf i _ hget
theorem fit_of_lt {zs : List Pl} {n : Nat} {f : Nat → Nat} (hl : zs.length = n) (hf : ∀ i, i < n → f i < (plAt zs i).gn) : Fit zs f := by
  intro k p hk
  have hkn : k < n := by rw [← hl]; exact (List.getElem?_eq_some_iff.1 hk).1
  have := hf k hkn
  rw [plAt_eq hk] at this
  exact this

theorem vl_zero {L : Nat → Nat} : ∀ k, vl L k (fun _ => 0) = 0
  | 0 => rfl
  | k + 1 => by simp [vl, vl_zero k]

theorem At.start {zs : List Pl} {n : Nat} (hl : zs.length = n) (hg : ∀ p ∈ zs, Good p) : At zs n 0 (fun _ => 0) :=
  ⟨fit_of_lt hl (lens_pos hl hg), vl_zero n, fun _ _ => rfl⟩

theorem At.lt {zs : List Pl} {n N : Nat} {f : Nat → Nat} (h : At zs n N f) (hl : zs.length = n) : N < manyT zs := by
  rw [← mt_all hl, ← h.vl]
  exact vl_lt n f (fit_lt hl h.fit)

theorem At.odds {zs : List Pl} {n N : Nat} {f : Nat → Nat} (h : At zs n N f) (hl : zs.length = n) (hg : ∀ p ∈ zs, Good p) : oddG zs f n = ocG zs n N ∧ oddE zs f n = ocE zs n N := by
  have hN : N < mt (fun i => (plAt zs i).gn) n := by rw [mt_all hl]; exact h.lt hl
  have hd := dig_vl (L := fun i => (plAt zs i).gn) n N (fun _ => 0) (lens_pos hl hg) hN
  have := odd_congr zs f (digs zs n N) n (vl_inj n f _ (fit_lt hl h.fit) hd.2.1 (h.vl.trans hd.1.symm))
  exact this

theorem At.next {zs : List Pl} {n N : Nat} {f : Nat → Nat} (h : At zs n N f) (hl : zs.length = n) (hN : N + 1 < manyT zs) : At zs n (N + 1) (nextA (fun i => (plAt zs i).gn) n f) := by
  obtain ⟨h1, h2, h3, h4⟩ := next_vl (L := fun i => (plAt zs i).gn) n f (fit_lt hl h.fit)
  refine ⟨fit_of_lt hl h3, ?_, fun i hi => by rw [h4 i hi, h.out i hi]⟩
  rw [h1 (by rw [h.vl, mt_all hl]; exact hN), h.vl]
theorem At.last {zs : List Pl} {n N : Nat} {f : Nat → Nat} (h : At zs n N f) (hl : zs.length = n) (hN : N + 1 = manyT zs) : ∀ i, nextA (fun i => (plAt zs i).gn) n f i = 0 := by
  obtain ⟨h1, h2, h3, h4⟩ := next_vl (L := fun i => (plAt zs i).gn) n f (fit_lt hl h.fit)
  intro i
  rcases Nat.lt_or_ge i n with hi | hi
  · exact h2 (by rw [h.vl, mt_all hl]; exact hN) i hi
  · rw [h4 i hi, h.out i hi]
theorem At.zero {zs : List Pl} {n N : Nat} {f : Nat → Nat} (h : At zs n N f) (hn : n ≤ 6) (hz : ∀ i, i < 6 → f i = 0) : N = 0 := by
  rw [← h.vl, vl_congr n f (fun _ => 0) (fun i hi => hz i (by omega)), vl_zero]

/-- a first part of a count -/
theorem range_prefix {pre : List Nat} {x M : Nat} (h : (pre ++ [x]) <+: List.range M) : x < M ∧ pre = List.range x := by
  obtain ⟨t, ht⟩ := h
  have hlen := congrArg List.length ht
  simp at hlen
  have hx : pre.length < M := by omega
  have h1 : (List.range M)[pre.length]? = some x := by rw [← ht]; simp
  rw [List.getElem?_range hx] at h1
  injection h1 with h1
  subst h1
  refine ⟨hx, ?_⟩
  have h2 : (List.range M).take pre.length = pre := by rw [← ht]; simp [List.take_append]
  conv => lhs; rw [← h2, List.take_range, Nat.min_eq_left (by omega)]
theorem range_pre {pre : List Nat} {M : Nat} (h : pre <+: List.range M) : pre = List.range pre.length ∧ pre.length ≤ M := by
  have hl := h.length_le
  rw [List.length_range] at hl
  refine ⟨?_, hl⟩
  obtain ⟨t, ht⟩ := h
  have h2 : (List.range M).take pre.length = pre := by rw [← ht]; simp
  conv => lhs; rw [← h2, List.take_range, Nat.min_eq_left hl]

end Go.Proofs.Ytcmllkjgggcghaa
end

/- Plain laws of the strongest region: which threshold it has. -/
section
namespace Go.Proofs.Ytcmllkjgggcghaa
set_option linter.unusedSimpArgs false
set_option linter.unusedVariables false
open Em (red)

/-- the sum of some numbers -/
def sumIf (g : Nat → Int) (p : Nat → Bool) : Nat → Int
  | 0 => 0
  | k + 1 => sumIf g p k + if p k then g k else 0

theorem sumIf_congr {g : Nat → Int} {p q : Nat → Bool} : ∀ k, (∀ i, i < k → p i = q i ∨ g i = 0) → sumIf g p k = sumIf g q k
  | 0, _ => rfl
  | k + 1, h => by
    rw [sumIf, sumIf, sumIf_congr k (fun i hi => h i (by omega))]
    rcases h k (by omega) with h1 | h1
    · rw [h1]
    · rw [h1]; simp
theorem sumIf_le {g : Nat → Int} {p q : Nat → Bool} : ∀ k, (∀ i, i < k → 0 ≤ g i) → (∀ i, i < k → p i = true → q i = true) → sumIf g p k ≤ sumIf g q k
  | 0, _, _ => by simp [sumIf]
  | k + 1, h0, h => by
    have h1 := sumIf_le k (fun i hi => h0 i (by omega)) (fun i hi => h i (by omega))
    have h2 := h0 k (by omega)
    have h3 := h k (by omega)
    rw [sumIf, sumIf]
    by_cases hp : p k = true
    · rw [if_pos hp, if_pos (h3 hp)]; omega
    · rw [if_neg hp]; split <;> omega
theorem sumIf_add {g : Nat → Int} {p q r : Nat → Bool} : ∀ k, (∀ i, i < k → r i = (p i || q i) ∧ (p i && q i) = false) → sumIf g r k = sumIf g p k + sumIf g q k
  | 0, _ => by simp [sumIf]
  | k + 1, h => by
    rw [sumIf, sumIf, sumIf, sumIf_add k (fun i hi => h i (by omega))]
    obtain ⟨h1, h2⟩ := h k (by omega)
    rw [h1]
    cases hp : p k <;> cases hq : q k <;> simp [hp, hq] at h2 ⊢ <;> omega
theorem sumIf_nonneg {g : Nat → Int} {p : Nat → Bool} : ∀ k, (∀ i, i < k → 0 ≤ g i) → 0 ≤ sumIf g p k
  | 0, _ => by simp [sumIf]
  | k + 1, h => by
    have h1 := sumIf_nonneg (p := p) k (fun i hi => h i (by omega))
    have h2 := h k (by omega)
    rw [sumIf]; split <;> omega
theorem sumIf_bound {g : Nat → Int} {p : Nat → Bool} (B : Int) (hB : 0 ≤ B) : ∀ k, (∀ i, i < k → g i ≤ B) → sumIf g p k ≤ k * B
  | 0, _ => by simp [sumIf]
  | k + 1, h => by
    have h1 := sumIf_bound (p := p) B hB k (fun i hi => h i (by omega))
    have h2 := h k (by omega)
    have e : ((k + 1 : Nat) : Int) * B = k * B + B := by rw [Int.natCast_add, Int.add_mul]; simp
    rw [sumIf, e]; split <;> omega

theorem mul_lt {a b c : Int} (h : a < b) (hc : 0 < c) : a * c < b * c := Int.mul_lt_mul_of_pos_right h hc
theorem mul_lt_iff {a b c : Int} (hc : 0 < c) : a * c < b * c ↔ a < b := ⟨fun h => Int.lt_of_mul_lt_mul_right h (by omega), fun h => mul_lt h hc⟩

section
variable (g e : Nat → Int)

/-- an outcome that both can come to -/
def live (k : Nat) : Bool := decide (0 < e k) && decide (0 < g k)
/-- its fraction -/
def key (k : Nat) : Int × Int := red (e k) (g k)
/-- it is above a threshold -/
def above (t : Int × Int) (k : Nat) : Bool := decide (0 < e k * t.2 - g k * t.1)
/-- less, as fractions -/
def lt (t u : Int × Int) : Prop := t.1 * u.2 < u.1 * t.2
/-- the Guess of a region -/
def regG (M : Nat) (t : Int × Int) : Int := sumIf g (above g e t) M
end

/-- a fraction in least terms, above 0 -/
structure Rd (t : Int × Int) : Prop where
  n : 0 < t.1
  d : 0 < t.2
  g : Int.gcd t.1 t.2 = 1

theorem gcd_pos {a b : Int} (hb : 0 < b) : 0 < (Int.gcd a b : Int) := by
  have : Int.gcd a b ≠ 0 := by
    intro h
    rw [Int.gcd_eq_zero_iff] at h
    omega
  omega

theorem red_mul {a b : Int} : (red a b).1 * (Int.gcd a b : Int) = a ∧ (red a b).2 * (Int.gcd a b : Int) = b :=
  ⟨Int.ediv_mul_cancel (Int.gcd_dvd_left ..), Int.ediv_mul_cancel (Int.gcd_dvd_right ..)⟩

theorem red_rd {a b : Int} (ha : 0 < a) (hb : 0 < b) : Rd (red a b) := by
  have hg := gcd_pos (a := a) hb
  obtain ⟨h1, h2⟩ := red_mul (a := a) (b := b)
  refine ⟨?_, ?_, ?_⟩
  · exact Int.pos_of_mul_pos_left (by rw [h1]; exact ha) hg
  · exact Int.pos_of_mul_pos_left (by rw [h2]; exact hb) hg
  · exact Int.gcd_ediv_gcd_ediv_gcd (by omega)

theorem dvd_cop {a b c : Int} (h : a ∣ b * c) (hg : Int.gcd a b = 1) : a ∣ c := by
  rw [← Int.natAbs_dvd_natAbs, Int.natAbs_mul] at h
  rw [← Int.natAbs_dvd_natAbs]
  exact Nat.Coprime.dvd_of_dvd_mul_left hg h

theorem rd_eq {t u : Int × Int} (ht : Rd t) (hu : Rd u) (h : t.1 * u.2 = u.1 * t.2) : t = u := by
  have h1 : t.1 ∣ u.1 := by
    have : t.1 ∣ t.2 * u.1 := ⟨u.2, by rw [Int.mul_comm t.2, ← h]⟩
    exact dvd_cop this ht.g
  have h2 : u.1 ∣ t.1 := by
    have : u.1 ∣ u.2 * t.1 := ⟨t.2, by rw [Int.mul_comm u.2, h]⟩
    exact dvd_cop this hu.g
  have e1 : t.1 = u.1 := Int.le_antisymm (Int.le_of_dvd hu.n h1) (Int.le_of_dvd ht.n h2)
  have e2 : u.2 = t.2 := by
    rw [e1] at h
    exact Int.eq_of_mul_eq_mul_left (by have := hu.n; omega) h
  exact Prod.ext e1 e2.symm

theorem lt_trans' {t u v : Int × Int} (ht : 0 < t.2) (hu : 0 < u.2) (hv : 0 < v.2) (h1 : lt t u) (h2 : lt u v) : lt t v := by
  unfold lt at *
  have a := mul_lt h1 hv
  have b := mul_lt h2 ht
  have c : t.1 * u.2 * v.2 < v.1 * u.2 * t.2 := by
    refine Int.lt_trans a ?_
    rw [show u.1 * t.2 * v.2 = u.1 * v.2 * t.2 by rw [Int.mul_assoc, Int.mul_comm t.2, ← Int.mul_assoc]]
    exact b
  rw [show t.1 * u.2 * v.2 = t.1 * v.2 * u.2 by rw [Int.mul_assoc, Int.mul_comm u.2, ← Int.mul_assoc], show v.1 * u.2 * t.2 = v.1 * t.2 * u.2 by rw [Int.mul_assoc, Int.mul_comm u.2, ← Int.mul_assoc]] at c
  exact (mul_lt_iff hu).1 c
theorem lt_irrefl' {t : Int × Int} : ¬ lt t t := fun h => by unfold lt at h; omega
theorem lt_tri {t u : Int × Int} (ht : Rd t) (hu : Rd u) : lt t u ∨ t = u ∨ lt u t := by
  rcases Int.lt_trichotomy (t.1 * u.2) (u.1 * t.2) with h | h | h
  · exact .inl h
  · exact .inr (.inl (rd_eq ht hu h))
  · exact .inr (.inr h)

variable {g e : Nat → Int}

theorem live_iff {k : Nat} : live g e k = true ↔ 0 < e k ∧ 0 < g k := by simp [live]
theorem key_rd {k : Nat} (h : live g e k = true) : Rd (key g e k) := by
  rw [live_iff] at h
  exact red_rd h.1 h.2

/-- above a threshold: the fraction is greater -/
theorem above_iff {k : Nat} {t : Int × Int} (h : 0 < g k) : above g e t k = true ↔ lt t (key g e k) := by
  have hg := gcd_pos (a := e k) h
  obtain ⟨h1, h2⟩ := red_mul (a := e k) (b := g k)
  unfold above lt key
  rw [decide_eq_true_eq]
  generalize (Int.gcd (e k) (g k) : Int) = d at *
  rw [← mul_lt_iff hg (a := t.1 * (red (e k) (g k)).2), Int.mul_assoc, h2, Int.mul_assoc, Int.mul_comm t.2, ← Int.mul_assoc, h1, Int.mul_comm t.1]
  omega

/-- the threshold of the strongest region -/
def IsBest (g e : Nat → Int) (M : Nat) (most : Int) (t : Int × Int) : Prop :=
  (t = (0, 1) ∧ regG g e M (0, 1) ≤ most) ∨
  (most < regG g e M (0, 1) ∧ (∃ k, k < M ∧ live g e k = true ∧ t = key g e k) ∧ regG g e M t ≤ most ∧ ∀ k, k < M → live g e k = true → lt (key g e k) t → most < regG g e M (key g e k))

theorem isBest_one {M : Nat} {most : Int} {t u : Int × Int} (ht : IsBest g e M most t) (hu : IsBest g e M most u) : t = u := by
  rcases ht with ⟨rfl, h1⟩ | ⟨h1, ⟨k, hk, hlk, rfl⟩, h2, h3⟩
  · rcases hu with ⟨rfl, _⟩ | ⟨h2, _⟩
    · rfl
    · omega
  · rcases hu with ⟨rfl, h4⟩ | ⟨_, ⟨j, hj, hlj, rfl⟩, h4, h5⟩
    · omega
    · rcases lt_tri (key_rd hlk) (key_rd hlj) with h | h | h
      · have := h5 k hk hlk h; omega
      · exact h
      · have := h3 j hj hlj h; omega

theorem above_zero {k : Nat} : above g e (0, 1) k = true ↔ 0 < e k := by simp [above]

/-- how far the search is: which fractions are left, what is taken -/
structure Search (g e : Nat → Int) (M : Nat) (most : Int) (lf : Int × Int → Bool) (taken : Int) : Prop where
  fk : ∀ r, lf r = true → ∃ k, k < M ∧ live g e k = true ∧ r = key g e k
  fd : ∀ k j, k < M → j < M → live g e k = true → live g e j = true → lt (key g e k) (key g e j) → lf (key g e j) = true → lf (key g e k) = true
  ft : taken = sumIf g (fun k => live g e k && !lf (key g e k)) M
  fm : taken ≤ most

variable {M : Nat} {most : Int} {lf : Int × Int → Bool} {taken : Int}

/-- the Guess of a fraction -/
def grp (g e : Nat → Int) (r : Int × Int) (M : Nat) : Int := sumIf g (fun k => live g e k && decide (key g e k = r)) M


theorem Search.start (hm : 0 ≤ most) (h : ∀ r, lf r = true ↔ ∃ k, k < M ∧ live g e k = true ∧ r = key g e k) : Search g e M most lf 0 := by
  refine ⟨fun r hr => (h r).1 hr, fun k j hk hj hlk hlj _ _ => (h _).2 ⟨k, hk, hlk, rfl⟩, ?_, hm⟩
  have : sumIf g (fun k => live g e k && !lf (key g e k)) M = sumIf g (fun _ => false) M := sumIf_congr M (fun i hi => by
    left
    cases hl : live g e i with
    | false => rfl
    | true => simp [(h (key g e i)).2 ⟨i, hi, hl, rfl⟩])
  rw [this]
  clear this h
  induction M with
  | zero => rfl
  | succ n ih => rw [sumIf, ← ih]; simp

/-- the greatest fraction that is left: the Guess of its region is what is taken -/
theorem Search.region (h : Search g e M most lf taken) (hg : ∀ k, k < M → 0 ≤ g k) {top : Int × Int} (ht : lf top = true) (hmax : ∀ r, lf r = true → ¬ lt top r) : regG g e M top = taken := by
  obtain ⟨j, hj, hlj, rfl⟩ := h.fk _ ht
  have hrt := key_rd hlj
  rw [h.ft]
  unfold regG
  refine sumIf_congr M fun i hi => ?_
  have hgi := hg i hi
  rcases Int.lt_or_eq_of_le hgi with hp | hp
  · left
    rw [Bool.eq_iff_iff, above_iff hp]
    simp only [Bool.and_eq_true, Bool.not_eq_true']
    constructor
    · intro hlt
      have he : 0 < e i := by
        have h1 : above g e (key g e j) i = true := (above_iff hp).2 hlt
        unfold above at h1
        rw [decide_eq_true_eq] at h1
        have h2 := Int.mul_pos hp hrt.n
        have h3 : 0 < e i * (key g e j).2 := by omega
        exact Int.pos_of_mul_pos_left h3 hrt.d
      refine ⟨live_iff.2 ⟨he, hp⟩, ?_⟩
      cases hc : lf (key g e i) with
      | false => rfl
      | true => exact absurd hlt (hmax _ hc)
    · rintro ⟨hli, hn⟩
      rcases lt_tri hrt (key_rd hli) with h1 | h1 | h1
      · exact h1
      · rw [h1, hn] at ht; cases ht
      · have := h.fd i j hi hj hli hlj h1 ht
        rw [hn] at this; cases this
  · exact .inr hp.symm

theorem Search.stop (h : Search g e M most lf taken) (hg : ∀ k, k < M → 0 ≤ g k) {top : Int × Int} (ht : lf top = true) (hmax : ∀ r, lf r = true → ¬ lt top r) (hgt : most < taken + grp g e top M) : IsBest g e M most top := by
  have hr := h.region hg ht hmax
  obtain ⟨j, hj, hlj, rfl⟩ := h.fk _ ht
  have hrt := key_rd hlj
  -- what is above or at the top
  have hsum : sumIf g (fun k => (decide (0 < g k) && above g e (key g e j) k) || (live g e k && decide (key g e k = key g e j))) M = taken + grp g e (key g e j) M := by
    rw [← hr]
    unfold regG grp
    rw [show sumIf g (above g e (key g e j)) M = sumIf g (fun k => decide (0 < g k) && above g e (key g e j) k) M from sumIf_congr M (fun i hi => by
      rcases Int.lt_or_eq_of_le (hg i hi) with hp | hp
      · left; simp [hp]
      · right; exact hp.symm)]
    refine sumIf_add M fun i hi => ⟨rfl, ?_⟩
    rw [Bool.eq_false_iff]
    intro hx
    simp only [Bool.and_eq_true, decide_eq_true_eq] at hx
    have := (above_iff hx.1.1).1 hx.1.2
    rw [hx.2.2] at this
    exact lt_irrefl' this
  have hall : ∀ t : Int × Int, (∀ k, k < M → 0 < g k → (above g e (key g e j) k = true ∨ (live g e k = true ∧ key g e k = key g e j)) → above g e t k = true) → most < regG g e M t := by
    intro t ht'
    have : sumIf g (fun k => (decide (0 < g k) && above g e (key g e j) k) || (live g e k && decide (key g e k = key g e j))) M ≤ regG g e M t := sumIf_le M hg (fun i hi hx => by
      simp only [Bool.or_eq_true, Bool.and_eq_true, decide_eq_true_eq] at hx
      rcases hx with hx | hx
      · exact ht' i hi hx.1 (.inl hx.2)
      · exact ht' i hi (live_iff.1 hx.1).2 (.inr hx))
    omega
  refine .inr ⟨?_, ⟨j, hj, hlj, rfl⟩, by rw [hr]; exact h.fm, fun k hk hlk hlt => ?_⟩
  · refine hall _ fun k hk hp hx => above_zero.2 ?_
    rcases hx with hx | hx
    · unfold above at hx
      rw [decide_eq_true_eq] at hx
      have h2 := Int.mul_pos hp hrt.n
      have h3 : 0 < e k * (key g e j).2 := by omega
      exact Int.pos_of_mul_pos_left h3 hrt.d
    · exact (live_iff.1 hx.1).1
  · refine hall _ fun i hi hp hx => (above_iff hp).2 ?_
    rcases hx with hx | hx
    · have h1 := (above_iff hp).1 hx
      have he : 0 < e i := by
        unfold above at hx
        rw [decide_eq_true_eq] at hx
        have h2 := Int.mul_pos hp hrt.n
        have h3 : 0 < e i * (key g e j).2 := by omega
        exact Int.pos_of_mul_pos_left h3 hrt.d
      exact lt_trans' (key_rd hlk).d hrt.d (key_rd (live_iff.2 ⟨he, hp⟩)).d hlt h1
    · rw [hx.2]; exact hlt

theorem Search.next (h : Search g e M most lf taken) {top : Int × Int} (ht : lf top = true) (hmax : ∀ r, lf r = true → ¬ lt top r) (hle : taken + grp g e top M ≤ most) :
    Search g e M most (fun r => lf r && !decide (r = top)) (taken + grp g e top M) := by
  refine ⟨fun r hr => h.fk r (by simp at hr; exact hr.1), fun k j hk hj hlk hlj hlt hl => ?_, ?_, hle⟩
  · simp only [Bool.and_eq_true, Bool.not_eq_true', decide_eq_false_iff_not] at hl ⊢
    refine ⟨h.fd k j hk hj hlk hlj hlt hl.1, fun hx => hmax _ hl.1 (hx ▸ hlt)⟩
  · rw [h.ft]
    unfold grp
    refine (sumIf_add M fun i hi => ⟨?_, ?_⟩).symm
    · cases live g e i <;> cases hl : lf (key g e i) <;> simp
    · cases live g e i <;> cases hl : lf (key g e i) <;> simp
      intro hx
      rw [hx, ht] at hl
      cases hl

theorem Search.all (h : Search g e M most lf taken) (hg : ∀ k, k < M → 0 ≤ g k) (he : ∀ r, lf r = false) : IsBest g e M most (0, 1) := by
  refine .inl ⟨rfl, ?_⟩
  have : regG g e M (0, 1) = taken := by
    rw [h.ft]
    refine sumIf_congr M fun i hi => ?_
    rcases Int.lt_or_eq_of_le (hg i hi) with hp | hp
    · left
      rw [Bool.eq_iff_iff, above_zero]
      simp [live, he, hp]
    · exact .inr hp.symm
  rw [this]; exact h.fm

end Go.Proofs.Ytcmllkjgggcghaa
end
