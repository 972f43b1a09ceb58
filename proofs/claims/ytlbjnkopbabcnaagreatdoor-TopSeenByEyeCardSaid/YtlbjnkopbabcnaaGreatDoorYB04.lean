/- BA4 BA5 BB1 -/
import Derived.Test.YtlbjnkopbabcnaaGreatDoorYB03
import Derived.Test.YtlbjnkopbabcnaaGreatDoorYB02
import Derived.Laws.OwnMore
import Derived.OwnWalk
import Derived.Laws.CopyOwn
import Derived.Laws.Rows
import Derived.Deep.OwnRows
import Derived.Deep.WholeRow
import Derived.WideShapes
import Derived.Laws.AppendOwn
import Derived.Deep.AppendLies
/- Walks of package bench: Run; the reference's run. -/
section
namespace Go.Proofs.YtlbjnkopbabcnaaGreatDoor
open Go.RowKit Go.Shelf
set_option linter.unusedSimpArgs false
set_option linter.unusedVariables false
open Bm (Pr cex runL OkP)

/-- pairs of places as pairs of numbers -/
def cst (p : List Pr) : List (Int × Int) := p.map fun x => ((x.1 : Int), (x.2 : Int))
theorem chk_ok {l : Int} {zs : List (Int × Int)} (h : chkP l zs = 0) : ∃ (n : Nat) (p : List Pr), l = (n : Int) ∧ 2 ≤ n ∧ n ≤ 12 ∧ zs = cst p ∧ OkP n p ∧ p.length ≤ 80 := by
  unfold chkP at h
  by_cases h1 : l < 2 ∨ 12 < l
  · rw [if_pos h1] at h; exact absurd h (by decide)
  rw [if_neg h1] at h
  by_cases h2 : 80 < zs.length
  · rw [if_pos h2] at h; exact absurd h (by decide)
  rw [if_neg h2] at h
  cases h3 : zs.any (fun x => !okI l x) with
  | true => rw [h3] at h; exact absurd h (by decide)
  | false =>
    have h4 : ∀ x ∈ zs, 0 ≤ x.1 ∧ x.1 < x.2 ∧ x.2 < l := fun x hx => by
      have := List.any_eq_false.1 h3 x hx
      simpa [okI] using this
    refine ⟨l.toNat, zs.map fun x => (x.1.toNat, x.2.toNat), by omega, by omega, by omega, ?_, ?_, by rw [List.length_map]; omega⟩
    · unfold cst
      rw [List.map_map]
      conv => lhs; rw [← List.map_id zs]
      refine List.map_congr_left fun x hx => ?_
      have := h4 x hx
      show x = _
      apply Prod.ext
      · show x.1 = ((x.1.toNat : Nat) : Int); omega
      · show x.2 = ((x.2.toNat : Nat) : Int); omega
    · intro y hy
      obtain ⟨x, hx, rfl⟩ := List.mem_map.1 hy
      have := h4 x hx
      exact ⟨by show x.1.toNat < x.2.toNat; omega, by show x.2.toNat < l.toNat; omega⟩
theorem chk_of {n : Nat} {p : List Pr} (h1 : 2 ≤ n) (h2 : n ≤ 12) (h3 : OkP n p) (h4 : p.length ≤ 80) : chkP (n : Int) (cst p) = 0 := by
  unfold chkP
  rw [if_neg (by omega), if_neg (by simp [cst]; omega), if_neg]
  intro ha
  obtain ⟨x, hx, hb⟩ := List.any_eq_true.1 ha
  obtain ⟨y, hy, rfl⟩ := List.mem_map.1 hx
  have := h3 y hy
  have : okI (n : Int) ((y.1 : Int), (y.2 : Int)) = true := by simp [okI]; omega
  rw [this] at hb; cases hb
theorem cst_get {p : List Pr} {k : Nat} {x y : Int} (h : (cst p)[k]? = some (x, y)) : ∃ a b : Nat, p[k]? = some (a, b) ∧ x = (a : Int) ∧ y = (b : Int) := by
  unfold cst at h
  rw [List.getElem?_map] at h
  obtain ⟨u, hu, he⟩ := Option.map_eq_some_iff.1 h
  injection he with e1 e2
  exact ⟨u.1, u.2, hu, e1.symm, e2.symm⟩
theorem cst_len (p : List Pr) : (cst p).length = p.length := by simp [cst]

theorem run_take {p : List Pr} {k : Nat} {x : Pr} (h : p[k]? = some x) (l : List Int) : runL (p.take (k + 1)) l = cex x (runL (p.take k) l) := by
  rw [List.take_add_one, h, Bm.runL_append]; rfl

/-- a row of numbers, in a block of its own -/
def Rw (w : World) (g : Nat) (zs : List Int) : Prop := ∃ t, w.heap[g]? = some (.cells (zs.map (Value.int .i64)).toArray t (0, 0))
section
variable {w w' : World} {g k : Nat} {zs : List Int}
theorem Rw.lt (h : Rw w g zs) : g < w.heap.size := by obtain ⟨t, h⟩ := h; exact (Array.getElem?_eq_some_iff.1 h).1
theorem Rw.cell (h : Rw w g zs) (hk : k < zs.length) : w.cell? ⟨g, k, none⟩ = some (.int .i64 (zs.getD k 0)) := by
  obtain ⟨t, h⟩ := h
  rw [cell_of_row w g k _ t _ h]
  simp [hk]
theorem Rw.frozen (h : Rw w g zs) (k : Nat) : w.frozen? ⟨g, k, none⟩ = false := by
  obtain ⟨t, h⟩ := h
  exact frozen_of_row w g k _ t h
theorem Rw.set (h : Rw w g zs) (k : Nat) (v : Int) : Rw (w.setCell ⟨g, k, none⟩ (.int .i64 v)) g (zs.set k v) := by
  obtain ⟨t, h⟩ := h
  refine ⟨t, ?_⟩
  rw [heap_setCell_same w g k _ t _ h, List.setIfInBounds_toArray, List.map_set]
theorem Rw.other (h : Rw w g zs) {p : Addr} (hp : g ≠ p.block) (v : Value) : Rw (w.setCell p v) g zs := by
  obtain ⟨t, h⟩ := h
  exact ⟨t, (heap_setCell_other w p g v hp).trans h⟩
theorem Rw.below (h : Rw w g zs) (hb : Below w.heap.size w w') : Rw w' g zs := by
  have hl := h.lt
  obtain ⟨t, h⟩ := h
  exact ⟨t, (hb.block g hl).trans h⟩
theorem Rw.alloc (h : Rw w g zs) (o : Obj) : Rw (w.alloc o) g zs := h.below (balloc (Below.refl _ _) o)
theorem Rw.drewN (h : Rw w g zs) (n : Nat) : Rw (w.drewN n) g zs := h
theorem Rw.drew (h : Rw w g zs) : Rw w.drew g zs := h
theorem Rw.ints (h : Rw w g zs) {n : Nat} (hn : zs.length = n) : Ints w (some ⟨g, 0, none⟩) n zs :=
  ⟨hn, fun _ => ⟨g, 0, rfl, h.lt, fun i hi => by rw [Nat.zero_add]; exact h.cell (by omega)⟩⟩
end

theorem int64R_info : (Tryz.prog.info? 2).map (fun i => (i.zero, i.size, i.bytes)) = some (some (.int .i64 0), 1, 8) := by kernel_rfl
theorem info3R {T : TypeId} {z : Value} {s b : Nat} (h : (Tryz.prog.info? T).map (fun i => (i.zero, i.size, i.bytes)) = some (some z, s, b)) : ∃ i, Tryz.prog.info? T = some i ∧ i.zero = some z ∧ i.size = s ∧ i.bytes = b := by
  obtain ⟨i, hi, hzz⟩ := Option.map_eq_some_iff.1 h
  simp only [Prod.mk.injEq] at hzz
  exact ⟨i, hi, hzz.1, hzz.2.1, hzz.2.2⟩
/-- cells of noughts -/
def zerosA (n : Nat) : Array Value := ((List.replicate n (0 : Int)).map (Value.int .i64)).toArray
theorem made_zeros (n : Nat) : madeCells #[.int .i64 0] n = zerosA n := by
  unfold madeCells zerosA
  apply Array.ext
  · simp
  · intro i h1 h2
    have : i % 1 = 0 := by omega
    simp [this]
/-- a row of noughts is made -/
theorem run_makeR (n : Nat) (hn : n ≤ 1000) (w : World) : (Instr.makeSlice 30 (.int .i64 (n : Int)) (.int .i64 (n : Int))).run Tryz.prog w = .ok (.slice (some ⟨w.heap.size, 0, none⟩) n n) (w.alloc (.cells (zerosA n) 2)) := by
  obtain ⟨i, hi, hz0, hs, hby⟩ := info3R int64R_info
  rw [← made_zeros]
  exact run_make_row (P := Tryz.prog) 30 2 i (.int .i64 0) Tryz.underlying30 hi hz0 hs rfl .i64 .i64 n (by rw [hby]; omega) (by omega) w
theorem Rw.zeros (w : World) (n H : Nat) (hH : w.heap.size = H) : Rw (w.alloc (.cells (zerosA n) 2)) H (List.replicate n 0) := by
  subst hH
  exact ⟨2, heap_alloc_new w _⟩

/-- a row is copied into a row of noughts -/
theorem run_copyR {n : Nat} {ys : List Int} (hl : ys.length = n) (hn : 0 < n) {B : Option Addr} {w W : World} (hy : Ints w B n ys) (hW : Below w.heap.size w W) (c : Nat) (ty : TypeId) :
    (Builtin.copy_ #[30, 30] ty #[.slice (some ⟨W.heap.size, 0, none⟩) n n, .slice B n c]).run Tryz.prog (W.alloc (.cells (zerosA n) 2)) = .ok (.int .i64 (n : Int)) (W.alloc (.cells (ys.map (Value.int .i64)).toArray 2)) := by
  obtain ⟨b, off, rfl, hlt, hc⟩ := hy.2 hn
  have hs : ∀ j v, (ys.map (Value.int .i64))[j]? = some v → (W.alloc (.cells (zerosA n) 2)).cell? ((⟨b, off, none⟩ : Addr).add j) = some v := by
    intro j v hv
    rw [List.getElem?_map] at hv
    obtain ⟨x, hx, rfl⟩ := Option.map_eq_some_iff.1 hv
    have hj : j < n := by rw [← hl]; exact (List.getElem?_eq_some_iff.1 hx).1
    have := ((balloc hW (.cells (zerosA n) 2)).cell (p := ⟨b, off + j, none⟩) hlt).trans (hc j hj)
    rw [List.getD_eq_getElem?_getD, hx] at this
    rw [Go.WideShapes.add_plain]
    exact this
  have hl2 : (ys.map (Value.int .i64)).length = n := by rw [List.length_map]; exact hl
  have h := run_copy_row (P := Tryz.prog) (W.alloc (.cells (zerosA n) 2)) 30 30 ty 2 W.heap.size 0 n n ⟨b, off, none⟩ n c (zerosA n) 2 (ys.map (Value.int .i64)) Tryz.underlying30 (by kernel_rfl) (heap_alloc_new W _) (by rw [hl2]; exact (Nat.min_self n).symm) hs (by rw [hl2]; simp [zerosA]) (by
    intro v hv
    obtain ⟨x, -, rfl⟩ := List.mem_map.1 hv
    rfl)
  rw [h, hl2, World.setRow_alloc_new]
  have e : (zerosA n).toList.drop (0 + n) = [] := by simp [zerosA]
  rw [e, List.append_nil]
  rfl
theorem Rw.new (w : World) (ys : List Int) (t : TypeId) (H : Nat) (hH : w.heap.size = H) : Rw (w.alloc (.cells (ys.map (Value.int .i64)).toArray t)) H ys := by
  subst hH
  exact ⟨t, heap_alloc_new w _⟩

/-- a list and an error are returned -/
def RetLE (l : List Int) (er : Int) (w : World) (e : Ending) (w' : World) : Prop :=
  ∃ A n c, e = .returned (.tuple #[.slice A n c, .int .i64 er]) ∧ Ints w' A n l ∧ (n ≤ 1000 ∧ n ≤ c) ∧ Below w.heap.size w w'
theorem RetLE.no {er : Int} {w w' : World} (hb : Below w.heap.size w w') {er' : Int} (h : er' = er) : RetLE [] er w (.returned (.tuple #[.slice none 0 0, .int .i64 er'])) w' :=
  ⟨none, 0, 0, by rw [h], Ints.nil _ _, ⟨by omega, by omega⟩, hb⟩

def natP (zs : List (Int × Int)) : List Pr := zs.map fun x => (x.1.toNat, x.2.toNat)
theorem natP_cst (p : List Pr) : natP (cst p) = p := by
  unfold natP cst
  rw [List.map_map]
  conv => rhs; rw [← List.map_id p]
  rfl
/-- a row made by a programme, or the error -/
def runE (zs : List (Int × Int)) (ys : List Int) : List Int × Int :=
  if ys.length < 2 ∨ 12 < ys.length then ([], 6) else if ys.any (out 0 100000) then ([], 2) else if chkP (ys.length : Int) zs = 0 then (runL (natP zs) ys, 0) else ([], chkP (ys.length : Int) zs)

theorem cex_if (x : Pr) (l : List Int) (_ : True := trivial) : cex x l = (l.set x.1 (if l.getD x.1 0 < l.getD x.2 0 then l.getD x.2 0 else l.getD x.1 0)).set x.2 (if l.getD x.2 0 < l.getD x.1 0 then l.getD x.2 0 else l.getD x.1 0) := by
  unfold cex
  generalize l.getD x.1 0 = a
  generalize l.getD x.2 0 = b
  have e1 : max a b = if a < b then b else a := by split <;> omega
  have e2 : min a b = if b < a then b else a := by split <;> omega
  rw [e1, e2]

set_option maxRecDepth 100000 in
set_option maxHeartbeats 4000000 in
theorem run_ok (A B : Option Addr) (n c m C : Nat) (p : List Pr) (ys : List Int) (w : World) (hz : Prs w A m (cst p)) (hm : m ≤ 80) (hy : Ints w B n ys) (h2 : 2 ≤ n) (h12 : n ≤ 12) (hb : ys.any (out 0 100000) = false) (hp : OkP n p) :
    Calls Tryz.prog 32 #[.slice A m C, .slice B n c] w (RetLE (runL p ys) 0 w) := by
  have hyl := hy.1
  have hpl : p.length = m := by have := hz.1; rwa [cst_len] at this
  have k1 := fun (W : World) (hb' : Below w.heap.size w W) => within_any 0 100000 B n c ys W (hy.below hb') (by omega)
  have e1 : (ys.all fun x => !out 0 100000 x) = true := by rw [List.all_eq_not_any_not]; simp [hb]
  rw [e1] at k1
  have k2 := fun (W : World) (hb' : Below w.heap.size w W) => checkP_any (n : Int) A m C (cst p) W (hz.below hb') (by omega)
  rw [chk_of h2 h12 hp (by omega)] at k2
  have hmk := run_makeR n (by omega)
  have hcp := fun (W : World) (hW : Below w.heap.size w W) => run_copyR (n := n) hyl (by omega) hy hW c
  have Hz := Lib.hid hz
  have Hyl := Lib.hid hyl
  have Hpl := Lib.hid hpl
  have Hp := Lib.hid hp
  have n1 : ¬ (n : Int) < 2 := by omega
  have n2 : ¬ (12 : Int) < (n : Int) := by omega
  clear hz hy hyl hpl e1 hb hp
  go_enter Tryz.func32, Tryz.ntmps32
  go_wp2_with fail
  refine (k1 _ blA).mono ?_
  rintro _ w1 ⟨rfl, hb1⟩
  replace hbw : Below w.heap.size w w1 := blA
  clear hb1
  go_wp2_with fail
  refine (k2 _ blA).mono ?_
  rintro _ w2 ⟨rfl, hb2⟩
  replace hbw : Below w.heap.size w w2 := blA
  clear hb2
  clear k1 k2
  have hcp := hcp w2 hbw
  go_wp2_with fail
  have hR0 : Rw (w2.alloc (.cells (ys.map (Value.int .i64)).toArray 2)) w2.heap.size (runL (p.take 0) ys) := Rw.new _ _ _ _ rfl
  have HR0 := Lib.hid hR0
  clear hR0 hcp hmk
  go_loopw [40] (fun s40 wx => ∃ (k : Nat) (W : World), k ≤ m ∧ s40 = .int .i64 (k : Nat) ∧ Hid (W = wx) ∧ Hid (Rw W w2.heap.size (runL (p.take k) ys)) ∧ Below w.heap.size w W) (fun s40 _ => m - (intOf s40).toNat)
  case atStart => exact ⟨0, _, Nat.zero_le _, rfl, Lib.hid rfl, HR0, blA⟩
  case round =>
    clear HR0
    have h2s := hbw.size
    clear hbw
    obtain ⟨k, W, hk, rfl, HW, HR, hbw⟩ := hrel
    obtain rfl := HW.out
    clear HW
    by_cases hkm : k < m
    · obtain ⟨b, off, x, y, rfl, hget, c0, c1⟩ := Hz.out.at_ hbw hkm
      obtain ⟨a', b', hp', rfl, rfl⟩ := cst_get hget
      obtain ⟨hab, hbn⟩ := Hp.out _ (List.mem_of_getElem? hp')
      dsimp only at hab hbn
      have HN : Hid (runL (p.take (k + 1)) ys = cex (a', b') (runL (p.take k) ys)) := Lib.hid (run_take hp' ys)
      have hll : (runL (p.take k) ys).length = n := by rw [Bm.runL_len]; exact Hyl.out
      have Hll := Lib.hid hll
      clear hget hp' hll
      generalize runL (p.take k) ys = zz at *
      have d0 := HR.out.cell (k := a') (by rw [Hll.out]; omega)
      have d1 := HR.out.cell (k := b') (by rw [Hll.out]; omega)
      have fr := HR.out.frozen
      have lr := HR.out.lt
      obtain ⟨va, hva⟩ : ∃ v, zz.getD a' 0 = v := ⟨_, rfl⟩
      obtain ⟨vb, hvb⟩ : ∃ v, zz.getD b' 0 = v := ⟨_, rfl⟩
      rw [hva] at d0
      rw [hvb] at d1
      have HN2 : Hid (runL (p.take (k + 1)) ys = (zz.set a' (if va < vb then vb else va)).set b' (if vb < va then vb else va)) := Lib.hid (by rw [HN.out, ← hva, ← hvb]; exact cex_if _ _)
      clear hva hvb HN
      go_wp2_with fail
      go_quiet (fail)
      go_wp2_with fail
      go_region
      go_wp2_with fail
      go_roundw
      case rel =>
        refine ⟨k + 1, _, by omega, by go_num, Lib.hid rfl, Lib.hid ?_, ?_⟩
        · rw [HN2.out]
          exact (((HR.out.alloc _).drewN _).set _ _).set _ _
        · exact bset (bset blA (p := ⟨w2.heap.size, a', none⟩) h2s _) (p := ⟨w2.heap.size, b', none⟩) h2s _
      case measure => simp [intOf]; omega
    · obtain rfl : k = m := by omega
      have HR1 : Rw W w2.heap.size (runL p ys) := by
        have h1 := HR.out
        rwa [List.take_of_length_le (by rw [Hpl.out]; exact Nat.le_refl _)] at h1
      have HI := Lib.hid (HR1.ints (n := n) (by rw [Bm.runL_len]; exact Hyl.out))
      clear HR HR1
      go_wp2_with fail
      go_ret2
      exact ⟨_, n, n, rfl, HI.out, ⟨by omega, by omega⟩, hbw⟩

end Go.Proofs.YtlbjnkopbabcnaaGreatDoor
end

/- Walks: Run, with its errors; the reference's run and Run. -/
section
namespace Go.Proofs.YtlbjnkopbabcnaaGreatDoor
open Go.RowKit Go.Shelf
set_option linter.unusedSimpArgs false
set_option linter.unusedVariables false
open Bm (Pr cex runL OkP)

theorem list_nil_of {α : Type} {a b : List α} {x y : Int} (h : (a, x) = (b, y)) : a = b ∧ x = y := by injection h with h1 h2; exact ⟨h1, h2⟩

set_option maxRecDepth 100000 in
set_option maxHeartbeats 4000000 in
theorem run_any (A B : Option Addr) (n c m C : Nat) (zs : List (Int × Int)) (ys : List Int) (w : World) (hz : Prs w A m zs) (hm : m ≤ 9223372036854775807) (hy : Ints w B n ys) (hn : n ≤ 9223372036854775807) :
    Calls Tryz.prog 32 #[.slice A m C, .slice B n c] w (RetLE (runE zs ys).1 (runE zs ys).2 w) := by
  have hyl := hy.1
  by_cases h1 : n < 2
  · have e : runE zs ys = ([], 6) := by unfold runE; rw [if_pos (.inl (by omega))]
    rw [e]
    have h1i : (n : Int) < 2 := by omega
    clear hz hy e hyl
    go_enter Tryz.func32, Tryz.ntmps32
    go_wp2_with fail
    go_ret2
    exact RetLE.no blA rfl
  by_cases h2 : 12 < n
  · have e : runE zs ys = ([], 6) := by unfold runE; rw [if_pos (.inr (by omega))]
    rw [e]
    have h1i : ¬ (n : Int) < 2 := by omega
    have h2i : (12 : Int) < (n : Int) := by omega
    clear hz hy e hyl
    go_enter Tryz.func32, Tryz.ntmps32
    go_wp2_with fail
    go_ret2
    exact RetLE.no blA rfl
  have h12 : ¬ (ys.length < 2 ∨ 12 < ys.length) := by omega
  cases ho : ys.any (out 0 100000) with
  | true =>
    have e : runE zs ys = ([], 2) := by unfold runE; rw [if_neg h12, if_pos ho]
    rw [e]
    have k1 := fun (W : World) (hb' : Below w.heap.size w W) => within_any 0 100000 B n c ys W (hy.below hb') (by omega)
    have e1 : (ys.all fun x => !out 0 100000 x) = false := by rw [List.all_eq_not_any_not]; simp [ho]
    rw [e1] at k1
    have h1i : ¬ (n : Int) < 2 := by omega
    have h2i : ¬ (12 : Int) < (n : Int) := by omega
    clear hz hy e hyl e1 ho h12
    go_enter Tryz.func32, Tryz.ntmps32
    go_wp2_with fail
    refine (k1 _ blA).mono ?_
    rintro _ w1 ⟨rfl, hb1⟩
    clear k1
    go_wp2_with fail
    go_ret2
    exact RetLE.no blA rfl
  | false =>
    by_cases hc : chkP (n : Int) zs = 0
    · obtain ⟨n', p, e0, -, -, rfl, hp, hl⟩ := chk_ok hc
      obtain rfl : n = n' := by omega
      have e : runE (cst p) ys = (runL p ys, 0) := by unfold runE; rw [if_neg h12, ho, if_neg (by decide), hyl, if_pos hc, natP_cst]
      rw [e]
      exact run_ok A B n c m C p ys w hz (by have := hz.1; rw [cst_len] at this; omega) hy (by omega) (by omega) ho hp
    · have e : runE zs ys = ([], chkP (n : Int) zs) := by unfold runE; rw [if_neg h12, ho, if_neg (by decide), hyl, if_neg hc]
      rw [e]
      have k1 := fun (W : World) (hb' : Below w.heap.size w W) => within_any 0 100000 B n c ys W (hy.below hb') (by omega)
      have e1 : (ys.all fun x => !out 0 100000 x) = true := by rw [List.all_eq_not_any_not]; simp [ho]
      rw [e1] at k1
      have k2 := fun (W : World) (hb' : Below w.heap.size w W) => checkP_any (n : Int) A m C zs W (hz.below hb') (by omega)
      generalize chkP (n : Int) zs = q at *
      have h1i : ¬ (n : Int) < 2 := by omega
      have h2i : ¬ (12 : Int) < (n : Int) := by omega
      have hq : (q != 0) = true := by simp [hc]
      have hqE : (q == 0) = false := by simp [hc]
      clear hz hy e hyl e1 ho h12
      go_enter Tryz.func32, Tryz.ntmps32
      go_wp2_with fail
      refine (k1 _ blA).mono ?_
      rintro _ w1 ⟨rfl, hb1⟩
      replace hbw : Below w.heap.size w w1 := blA
      clear hb1
      clear k1
      go_wp2_with fail
      refine (k2 _ blA).mono ?_
      rintro _ w2 ⟨rfl, hb2⟩
      clear k2
      go_wp2_with fail
      go_ret2
      exact RetLE.no blA rfl

end Go.Proofs.YtlbjnkopbabcnaaGreatDoor
end

/- Rows of the call's own: numbers, and pairs of numbers, of whatever element type. -/
section
namespace Go.Proofs.YtlbjnkopbabcnaaGreatDoor
open Go.RowKit Go.Shelf
set_option linter.unusedSimpArgs false
set_option linter.unusedVariables false

/-- a slice type, its element type, that one's nought, cells and bytes -/
def ElemT (T e : TypeId) (z : Value) (s by_ : Nat) : Prop :=
  Tryz.prog.underlying T = some (.slice e) ∧ (Tryz.prog.info? e).map (fun i => (i.zero, i.size, i.bytes)) = some (some z, s, by_) ∧ z.cells.size = s ∧ 0 < s ∧ by_ ≤ 32
theorem elI64 : ElemT 30 2 (.int .i64 0) 1 8 := ⟨Tryz.underlying30, by kernel_rfl, rfl, by omega, by omega⟩
theorem elInt : ElemT 59 3 (.int .i64 0) 1 8 := ⟨by kernel_rfl, by kernel_rfl, rfl, by omega, by omega⟩
theorem elPair : ElemT 79 78 (.agg #[.int .i64 0, .int .i64 0]) 2 16 := ⟨Tryz.underlying79, by kernel_rfl, rfl, by omega, by omega⟩
theorem elRange : ElemT 23 41 (.agg #[.int .i64 0, .int .i64 0]) 2 16 := ⟨Tryz.underlying23, by kernel_rfl, rfl, by omega, by omega⟩

theorem balloc' (B : Nat) (W : World) (o : Obj) (h : B ≤ W.heap.size) : Below B W (W.alloc o) := (balloc (Below.refl _ _) o).mono h
theorem below_grown {B : Nat} {w w' : World} {v : Value} {base : Nat} {e : TypeId} {size n : Nat} {xs : List Value} (hg : w.grownBy w' v.ownBlock) (hown : w.ownsRow base e size v n xs) (hB : B ≤ base) (hw : B ≤ w.heap.size) : Below B w w' :=
  ⟨hg.os, hg.tape, hg.output, hg.size, fun i hi => hg.block i (by omega) (fun h => by have := hown.lt i h.symm; omega)⟩
theorem own_keep {w w' : World} {base : Nat} {e : TypeId} {s : Nat} {v : Value} {n : Nat} {xs : List Value} (h : w.ownsRow base e s v n xs) (hb : Below w.heap.size w w') : w'.ownsRow base e s v n xs := by
  refine ⟨h.1, ?_⟩
  rcases h.2 with h2 | ⟨g, cap, cur, e1, hB, hg, rest⟩
  · exact Or.inl h2
  · have hlt : g < w.heap.size := (Array.getElem?_eq_some_iff.1 hg).1
    exact Or.inr ⟨g, cap, cur, e1, hB, (hb.block g hlt).trans hg, rest⟩

/-- an append of some elements to a row of the call's own -/
theorem list_ownG {T e : TypeId} {z : Value} {size by_ : Nat} (hT : ElemT T e z size by_) {ops : Array Oper} {rest : List Oper} {o : Oper} {a : Act} {w : World} {Q : Exit → Act → World → Prop}
    (hg : o.guard = none) (s x : Operand) (hop : o.op = Op.call { callee := Callee.builtin Builtin.append, args := #[s, x], argTypes := #[T, T] })
    (B n : Nat) (v : Value) (xs : List Value) (hs : a.eval s = v) (hown : w.ownsRow B e size v n xs)
    (ad : Addr) (m c : Nat) (news : List Value) (hx : a.eval x = .slice (some ad) m c) (hl : news.length = m * size) (hnews : ∀ j u, news[j]? = some u → w.cell? (ad.add j) = some u) (h1 : ∀ u ∈ news, u.oneCell' = true)
    (hm : 0 < m) (hn : n + m ≤ 6000) (hB : B ≤ w.heap.size)
    (hK : ∀ g c w', w'.ownsRow B e size (.slice (some ⟨g, 0, none⟩) (n + m) c) (n + m) (xs ++ news) → Below B w w' → wpList Tryz.prog ops Q rest (a.put o.dst (.slice (some ⟨g, 0, none⟩) (n + m) c)) w') :
    wpList Tryz.prog ops Q (o :: rest) a w := by
  obtain ⟨hu, hinf, hzc, hs0, hby⟩ := hT
  obtain ⟨i0, hi0, hzz⟩ := Option.map_eq_some_iff.1 hinf
  simp only [Prod.mk.injEq] at hzz
  obtain ⟨hz0, hz1, hz2⟩ := hzz
  have hbb : (n + m) * by_ ≤ 6000 * 32 := Nat.mul_le_mul hn hby
  refine wpList_append_own w hg s x T hop B e i0 z size by_ hu hi0 hz0 hz1 hz2 hzc hs0 v n _ hs hown ad m c news hx hl hnews h1 (by unfold maxLen; omega) (by omega) hB ?_
  intro v' w' h1 h2 _
  have hlt := hown.lt
  rcases h1.2 with ⟨rfl, h0⟩ | ⟨g, cap, cur, rfl, hrest⟩
  · omega
  · refine hK g cap w' h1 ⟨h2.os, h2.tape, h2.output, h2.size, fun i hi => h2.block i (by omega) (fun e => ?_)⟩
    have := hlt i e.symm
    omega
/-- an append of one number -/
theorem list_one {T e : TypeId} (hT : ElemT T e (.int .i64 0) 1 8) {ops : Array Oper} {rest : List Oper} {o : Oper} {a : Act} {w : World} {Q : Exit → Act → World → Prop}
    (hg : o.guard = none) (s x : Operand) (hop : o.op = Op.call { callee := Callee.builtin Builtin.append, args := #[s, x], argTypes := #[T, T] })
    (B n : Nat) (v : Value) (xs : List Int) (hs : a.eval s = v) (hown : w.ownsRow B e 1 v n (xs.map (Value.int .i64)))
    (b : Nat) (y : Int) (hx : a.eval x = .slice (some ⟨b, 0, none⟩) 1 1) (hy : w.cell? ⟨b, 0, none⟩ = some (.int .i64 y)) (hn : n ≤ 5000) (hB : B ≤ w.heap.size)
    (hK : ∀ g c w', w'.ownsRow B e 1 (.slice (some ⟨g, 0, none⟩) (n + 1) c) (n + 1) ((xs ++ [y]).map (Value.int .i64)) → Below B w w' → wpList Tryz.prog ops Q rest (a.put o.dst (.slice (some ⟨g, 0, none⟩) (n + 1) c)) w') :
    wpList Tryz.prog ops Q (o :: rest) a w := by
  refine list_ownG hT hg s x hop B n v _ hs hown ⟨b, 0, none⟩ 1 1 [.int .i64 y] hx rfl ?_ ?_ (by omega) (by omega) hB ?_
  · intro j u hu
    match j, hu with
    | 0, hu => simp at hu; subst hu; simpa [Addr.add] using hy
    | j + 1, hu => simp at hu
  · intro u hu
    simp at hu
    subst hu; rfl
  · intro g c w' h1 h2
    exact hK g c w' (by simpa using h1) h2
/-- a pair as two cells -/
def encR (x : Int × Int) : List Value := [.int .i64 x.1, .int .i64 x.2]
theorem flatR_len (zs : List (Int × Int)) : (zs.flatMap encR).length = zs.length * 2 := by
  induction zs with
  | nil => rfl
  | cons p zs ih => rw [List.flatMap_cons, List.length_append, ih, List.length_cons]; simp [encR]; omega
theorem flatR_get : ∀ (zs : List (Int × Int)) (i : Nat) (x y : Int), zs[i]? = some (x, y) → (zs.flatMap encR)[i * 2]? = some (.int .i64 x) ∧ (zs.flatMap encR)[i * 2 + 1]? = some (.int .i64 y)
  | [], i, x, y, h => by simp at h
  | q :: zs, 0, x, y, h => by simp at h; subst h; simp [encR]
  | q :: zs, i + 1, x, y, h => by
    rw [List.getElem?_cons_succ] at h
    obtain ⟨h1, h2⟩ := flatR_get zs i x y h
    rw [List.flatMap_cons]
    have e1 : (i + 1) * 2 = (encR q).length + i * 2 := by simp [encR]; omega
    have e2 : (i + 1) * 2 + 1 = (encR q).length + (i * 2 + 1) := by simp [encR]; omega
    rw [e2, e1, List.getElem?_append_right (by omega), List.getElem?_append_right (by omega), Nat.add_sub_cancel_left, Nat.add_sub_cancel_left]
    exact ⟨h1, h2⟩
/-- an append of one pair -/
theorem list_pair {T e : TypeId} (hT : ElemT T e (.agg #[.int .i64 0, .int .i64 0]) 2 16) {ops : Array Oper} {rest : List Oper} {o : Oper} {a : Act} {w : World} {Q : Exit → Act → World → Prop}
    (hg : o.guard = none) (s x : Operand) (hop : o.op = Op.call { callee := Callee.builtin Builtin.append, args := #[s, x], argTypes := #[T, T] })
    (B n : Nat) (v : Value) (xs : List (Int × Int)) (hs : a.eval s = v) (hown : w.ownsRow B e 2 v n (xs.flatMap encR))
    (b : Nat) (y y' : Int) (hx : a.eval x = .slice (some ⟨b, 0, none⟩) 1 1) (hy : w.cell? ⟨b, 0, none⟩ = some (.int .i64 y)) (hy' : w.cell? ⟨b, 1, none⟩ = some (.int .i64 y')) (hn : n ≤ 5000) (hB : B ≤ w.heap.size)
    (hK : ∀ g c w', w'.ownsRow B e 2 (.slice (some ⟨g, 0, none⟩) (n + 1) c) (n + 1) ((xs ++ [(y, y')]).flatMap encR) → Below B w w' → wpList Tryz.prog ops Q rest (a.put o.dst (.slice (some ⟨g, 0, none⟩) (n + 1) c)) w') :
    wpList Tryz.prog ops Q (o :: rest) a w := by
  refine list_ownG hT hg s x hop B n v _ hs hown ⟨b, 0, none⟩ 1 1 (encR (y, y')) hx rfl ?_ ?_ (by omega) (by omega) hB ?_
  · intro j u hu
    match j, hu with
    | 0, hu => simp [encR] at hu; subst hu; simpa [Addr.add] using hy
    | 1, hu => simp [encR] at hu; subst hu; simpa [Addr.add] using hy'
    | j + 2, hu => simp [encR] at hu
  · intro u hu
    simp [encR] at hu
    rcases hu with rfl | rfl <;> rfl
  · intro g c w' h1 h2
    exact hK g c w' (by simpa using h1) h2

/-- a row of the call's own as a slice -/
theorem own_ints {w : World} {B n : Nat} {e : TypeId} {v : Value} {zs : List Int} (hl : zs.length = n) (h : w.ownsRow B e 1 v n (zs.map (Value.int .i64))) : ∃ A c, v = .slice A n c ∧ Ints w A n zs ∧ n ≤ c := by
  rcases h.2 with ⟨rfl, h0⟩ | ⟨g, cap, cur, rfl, hB, hg, hnc, _, hsz, ht⟩
  · subst h0
    exact ⟨none, 0, rfl, ⟨hl, fun h => absurd h (by omega)⟩, by omega⟩
  · refine ⟨some ⟨g, 0, none⟩, cap, rfl, ⟨hl, fun hn => ⟨g, 0, rfl, (Array.getElem?_eq_some_iff.1 hg).1, fun i hi => ?_⟩⟩, hnc⟩
    rw [Nat.zero_add, h.cellAt i (by omega), List.getElem?_map, List.getD_eq_getElem?_getD, List.getElem?_eq_getElem (show i < zs.length by omega)]
    rfl
theorem own_prs {w : World} {B n : Nat} {e : TypeId} {v : Value} {zs : List (Int × Int)} (hl : zs.length = n) (h : w.ownsRow B e 2 v n (zs.flatMap encR)) : ∃ A c, v = .slice A n c ∧ Prs w A n zs ∧ n ≤ c := by
  rcases h.2 with ⟨rfl, h0⟩ | ⟨g, cap, cur, rfl, hB, hg, hnc, _, hsz, ht⟩
  · subst h0
    exact ⟨none, 0, rfl, ⟨hl, fun h => absurd h (by omega)⟩, by omega⟩
  · refine ⟨some ⟨g, 0, none⟩, cap, rfl, ⟨hl, fun hn => ⟨g, 0, rfl, (Array.getElem?_eq_some_iff.1 hg).1, fun i x y hp => ?_⟩⟩, hnc⟩
    have hi : i < n := by rw [← hl]; exact (List.getElem?_eq_some_iff.1 hp).1
    obtain ⟨h1, h2⟩ := flatR_get zs i x y hp
    rw [Nat.zero_add]
    exact ⟨(h.cellAt (i * 2) (by omega)).trans h1, (h.cellAt (i * 2 + 1) (by omega)).trans h2⟩

/-- an append of some numbers to an empty row that is not nil -/
theorem app_empty {W : World} {b : Nat} {A : Option Addr} {m cc : Nat} {zs : List Int} (hz : Ints W A m zs) (hm : 0 < m) (hm2 : m ≤ 1000) :
    ∃ c' W', (∀ ty, (Builtin.append_ #[30, 30] ty #[.slice (some ⟨b, 0, none⟩) 0 0, .slice A m cc]).run Tryz.prog W = .ok (.slice (some ⟨W.heap.size, 0, none⟩) m c') W') ∧ W'.ownsRow W.heap.size 2 1 (.slice (some ⟨W.heap.size, 0, none⟩) m c') m (zs.map (Value.int .i64)) ∧ Below W.heap.size W W' ∧ W.heap.size < W'.heap.size ∧ m ≤ c' := by
  obtain ⟨i, hi, hz0, hs, hby⟩ := info3R int64R_info
  obtain ⟨bb, oo, rfl, hlt, hc⟩ := hz.2 hm
  have hnews : ∀ j u, (zs.map (Value.int .i64))[j]? = some u → W.cell? ((⟨bb, oo, none⟩ : Addr).add j) = some u := by
    intro j u hu
    rw [List.getElem?_map] at hu
    obtain ⟨x, hx, rfl⟩ := Option.map_eq_some_iff.1 hu
    have hj : j < m := by rw [← hz.1]; exact (List.getElem?_eq_some_iff.1 hx).1
    have := hc j hj
    rw [List.getD_eq_getElem?_getD, hx] at this
    rw [Go.WideShapes.add_plain]
    exact this
  have hr := fun ty => run_append_grow (P := Tryz.prog) W 30 ty 2 i (.int .i64 0) Tryz.underlying30 hi hz0 ⟨b, 0, none⟩ 0 0 [] (by simp) (fun j u h => by simp at h) ⟨bb, oo, none⟩ m cc (zs.map (Value.int .i64)) (by rw [hs, List.length_map, hz.1, Nat.mul_one]) hnews (by omega) (by omega) (growslice_fits (by omega) (by rw [hby]; omega))
  simp only [Nat.zero_add] at hr
  have hge := grownCap_ge W m 0 2
  have hcm : grownCap W m 0 2 ≤ maxLen := grownCap_le_maxLen W m 0 2 (by unfold maxLen; omega)
  refine ⟨_, _, hr, ⟨by simp [hz.1], .inr ⟨W.heap.size, _, _, rfl, Nat.le_refl _, heap_alloc_new W.drew _, hge, hcm, ?_, ?_⟩⟩, balloc (Below.drew (Below.refl _ _)) _, by simp, hge⟩
  · simp only [Array.size_append, List.size_toArray, List.length_map, size_zeroCells, Value.cells, hz.1, List.length_nil]
    show 0 + m + (grownCap W m 0 2 - m) * 1 = grownCap W m 0 2 * 1
    omega
  · simp only [Array.toList_append, List.append_assoc, List.nil_append]
    rw [Nat.mul_one]
    have : m = (zs.map (Value.int .i64)).length := by simp [hz.1]
    conv => lhs; rw [this]
    exact List.take_left

/-- an append whose run is known -/
theorem list_app {T : TypeId} {ops : Array Oper} {rest : List Oper} {o : Oper} {a : Act} {w : World} {Q : Exit → Act → World → Prop} (hg : o.guard = none) (s x : Operand)
    (hop : o.op = Op.call { callee := Callee.builtin Builtin.append, args := #[s, x], argTypes := #[T, T] }) {v v2 v' : Value} {w' : World} (hs : a.eval s = v) (hx : a.eval x = v2)
    (hr : ∀ ty, (Builtin.append_ #[T, T] ty #[v, v2]).run Tryz.prog w = .ok v' w') (hK : wpList Tryz.prog ops Q rest (a.put o.dst v') w') : wpList Tryz.prog ops Q (o :: rest) a w := by
  refine wpList_plain hg fun K hK' => ?_
  unfold Oper.wp execOp
  simp only [hop, resolve, invoke, builtin, Sem.run_bind, Sem.run_pure, Result.andThen_ok, List.map_toArray, List.map_cons, List.map_nil, hs, hx, hr]
  exact hK' _ _ hK

/-- a row of numbers in a block of its own, whatever the block has besides -/
def Rx (w : World) (g : Nat) (zs : List Int) : Prop := g < w.heap.size ∧ (∀ k, k < zs.length → w.cell? ⟨g, k, none⟩ = some (.int .i64 (zs.getD k 0))) ∧ ∀ k, w.frozen? ⟨g, k, none⟩ = false
section
variable {w w' : World} {g k : Nat} {zs : List Int}
theorem Rw.x (h : Rw w g zs) : Rx w g zs := ⟨h.lt, fun k hk => h.cell hk, h.frozen⟩
theorem Rx.of_own {B n c : Nat} {e : TypeId} (hl : zs.length = n) (h : w.ownsRow B e 1 (.slice (some ⟨g, 0, none⟩) n c) n (zs.map (Value.int .i64))) : Rx w g zs :=
  ⟨(h.lt g rfl).2, fun k hk => by rw [h.cellAt k (by omega), List.getElem?_map, List.getD_eq_getElem?_getD, List.getElem?_eq_getElem hk]; rfl, fun k => World.ownsRow.frozenAt h k⟩
theorem Rx.lt (h : Rx w g zs) : g < w.heap.size := h.1
theorem Rx.cell (h : Rx w g zs) (hk : k < zs.length) : w.cell? ⟨g, k, none⟩ = some (.int .i64 (zs.getD k 0)) := h.2.1 k hk
theorem Rx.frozen (h : Rx w g zs) (k : Nat) : w.frozen? ⟨g, k, none⟩ = false := h.2.2 k
theorem Rx.set (h : Rx w g zs) (k : Nat) (v : Int) : Rx (w.setCell ⟨g, k, none⟩ (.int .i64 v)) g (zs.set k v) := by
  refine ⟨by simpa [World.setCell] using h.1, fun j hj => ?_, fun j => by rw [World.frozen?_setCell]; exact h.2.2 j⟩
  rw [List.length_set] at hj
  by_cases hjk : j = k
  · subst hjk
    rw [World.cell?_setCell_same' _ _ _ (by rw [h.2.1 j hj]; rfl)]
    simp [hj]
  · rw [World.cell?_setCell_other _ _ _ _ (by intro e; injection e with _ e; exact hjk e.symm), h.2.1 j hj]
    simp [List.getElem?_set, show ¬ k = j from fun e => hjk e.symm]
theorem Rx.other (h : Rx w g zs) {p : Addr} (hp : g ≠ p.block) (v : Value) : Rx (w.setCell p v) g zs :=
  ⟨by simpa [World.setCell] using h.1, fun j hj => by rw [World.cell?_setCell_other _ _ _ _ (by intro e; apply hp; rw [e])]; exact h.2.1 j hj, fun j => by rw [World.frozen?_setCell]; exact h.2.2 j⟩
theorem Rx.below (h : Rx w g zs) (hb : Below w.heap.size w w') : Rx w' g zs :=
  ⟨Nat.lt_of_lt_of_le h.1 hb.size, fun k hk => (hb.cell (p := ⟨g, k, none⟩) h.1).trans (h.2.1 k hk), fun k => (hb.frozen (p := ⟨g, k, none⟩) h.1).trans (h.2.2 k)⟩
theorem Rx.alloc (h : Rx w g zs) (o : Obj) : Rx (w.alloc o) g zs := h.below (balloc (Below.refl _ _) o)
theorem Rx.drewN (h : Rx w g zs) (n : Nat) : Rx (w.drewN n) g zs := h
theorem Rx.drew (h : Rx w g zs) : Rx w.drew g zs := h
theorem Rx.ints (h : Rx w g zs) {n : Nat} (hn : zs.length = n) : Ints w (some ⟨g, 0, none⟩) n zs :=
  ⟨hn, fun _ => ⟨g, 0, rfl, h.lt, fun i hi => by rw [Nat.zero_add]; exact h.cell (by omega)⟩⟩
end

end Go.Proofs.YtlbjnkopbabcnaaGreatDoor
end
