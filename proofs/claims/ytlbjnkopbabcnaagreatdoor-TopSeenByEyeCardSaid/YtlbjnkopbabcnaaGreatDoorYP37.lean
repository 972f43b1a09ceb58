/- PH6 -/
import Derived.Test.YtlbjnkopbabcnaaGreatDoorYP36
/- Walks of package atlas: newPage of a valid plan. -/
section
namespace Go.Proofs.YtlbjnkopbabcnaaGreatDoor
open Go.RowKit Go.Shelf
set_option linter.unusedSimpArgs false
set_option linter.unusedVariables false

set_option maxHeartbeats 400000 in
theorem indexCs_any (A : Option Addr) (n c g : Nat) (zs : List (Int × Int)) (lb : Array Value) (p : Int × Int → Bool) (w : World) (eg : ∀ args w, (callFunc g args).run Tryz.prog w = .ok (.enter g args) w)
    (hz : Prs w A n zs) (hn : n ≤ 9223372036854775807) (hp : PredPrs Tryz.prog g lb p zs w) :
    Calls Tryz.prog 253 #[.slice A n c, .func (.func g) #[] lb] w fun e w' => e = .returned (.int .i64 (Um.idx p zs)) ∧ Below w.heap.size w w' := by
  have Hz := Lib.hid hz
  have Hp := Lib.hid hp
  clear hp hz
  go_enter Tryz.func253, Tryz.ntmps253
  go_wp2
  go_loopw [5, 8] (fun _ i wr => ∃ k : Nat, k ≤ n ∧ i = .int .i64 k ∧ Hid (∀ i y, i < k → zs[i]? = some y → p y = false) ∧ Below w.heap.size w wr) (fun _ i _ => n - (intOf i).toNat)
  case atStart => exact ⟨0, Nat.zero_le _, rfl, fun i y hi => by omega, Below.refl _ _⟩
  case round =>
    obtain ⟨k, hk, rfl, hpre, hbl⟩ := hrel
    by_cases hlt : k < n
    · obtain ⟨b, off, x, y, rfl, hget, c0, c1⟩ := Hz.out.at_ hbl hlt
      have Hget := Lib.hid hget
      have hcall := Hp.out (x, y) (List.mem_of_getElem? hget) wr hbl
      dsimp only at hcall
      clear hget
      cases hq : p (x, y) with
      | true =>
        rw [hq] at hcall
        have Hq := Lib.hid hq
        clear hq
        go_wp2_with (go_at_fn g; refine hcall.mono ?_; rintro e w' ⟨rfl, hb'⟩)
        go_ret
        exact ⟨ret_int (Um.idx_at p k zs (x, y) hpre.out Hget.out Hq.out).symm, hb'⟩
      | false =>
        rw [hq] at hcall
        have Hq := Lib.hid hq
        clear hq
        go_wp2_with (go_at_fn g; refine hcall.mono ?_; rintro e w' ⟨rfl, hb'⟩)
        go_roundw
        case rel =>
          refine ⟨k + 1, by omega, by go_num, fun i v hi hy => ?_, hb'⟩
          by_cases hik : i < k
          · exact hpre.out i v hik hy
          · have : i = k := by omega
            subst this
            have := Hget.out
            rw [hy] at this
            injection this with this
            rw [this]; exact Hq.out
        case measure => simp [intOf]; omega
    · go_wp2
      go_ret
      refine ⟨ret_int (Um.idx_none p zs (fun y hy => ?_)).symm, hbl⟩
      obtain ⟨i, hi, hiy⟩ := List.mem_iff_getElem.1 hy
      exact hpre.out i y (by have := Hz.out.1; omega) (by rw [List.getElem?_eq_getElem hi, hiy])

set_option maxHeartbeats 400000 in
theorem containsCs_any (A : Option Addr) (n c g : Nat) (zs : List (Int × Int)) (lb : Array Value) (p : Int × Int → Bool) (w : World) (eg : ∀ args w, (callFunc g args).run Tryz.prog w = .ok (.enter g args) w)
    (hz : Prs w A n zs) (hn : n ≤ 9223372036854775807) (hp : PredPrs Tryz.prog g lb p zs w) :
    Calls Tryz.prog 158 #[.slice A n c, .func (.func g) #[] lb] w fun e w' => e = .returned (.bool (zs.any p)) ∧ Below w.heap.size w w' := by
  have h1 := indexCs_any A n c g zs lb p w eg hz hn hp
  have h2 := Um.idx_any p zs
  have H2 := Lib.hid h2
  clear h2 hz hp eg
  generalize zs.any p = r at *
  generalize Um.idx p zs = ix at *
  go_enter Tryz.func158, Tryz.ntmps158
  go_wp2_with (go_at_call 253; refine h1.mono ?_; rintro e w' ⟨rfl, hb'⟩)
  go_ret
  exact ⟨ret_bool H2.out, hb'⟩



/-- what the cells of a page are: a plan, and 39 codes of 4 numbers -/
structure PgA (arr : Array Value) (k : Nat) (R : Option Addr) (m cr : Nat) (g : Nat → Int) : Prop where
  sz : arr.size = 158
  c0 : arr[0]? = some (.int .i64 (k : Nat))
  c1 : arr[1]? = some (.slice R m cr)
  c : ∀ j, j < 156 → arr[2 + j]? = some (.int .i64 (g j))
theorem PgA.set {arr : Array Value} {k : Nat} {R : Option Addr} {m cr : Nat} {g g' : Nat → Int} (h : PgA arr k R m cr g) {j : Nat} (hj : j < 156) (x : Int) (hg : ∀ i, i < 156 → g' i = if i = j then x else g i) : PgA (arr.setIfInBounds (2 + j) (.int .i64 x)) k R m cr g' := by
  have hs := h.sz
  refine ⟨by simpa using hs, ?_, ?_, fun i hi => ?_⟩
  · rw [Array.getElem?_setIfInBounds, if_neg (by omega)]; exact h.c0
  · rw [Array.getElem?_setIfInBounds, if_neg (by omega)]; exact h.c1
  · rw [Array.getElem?_setIfInBounds, hg i hi]
    by_cases e : i = j
    · subst e; rw [if_pos rfl, if_pos rfl, if_pos (by omega)]
    · rw [if_neg (by omega), if_neg e]; exact h.c i hi
theorem PgA.congr {arr : Array Value} {k : Nat} {R : Option Addr} {m cr : Nat} {g g' : Nat → Int} (h : PgA arr k R m cr g) (hg : ∀ i, i < 156 → g' i = g i) : PgA arr k R m cr g' := ⟨h.sz, h.c0, h.c1, fun j hj => by rw [hg j hj]; exact h.c j hj⟩
/-- the numbers of the codes, behind i rows and b numbers of the next one -/
def gC (rs : List (RowR Int)) (k i b j : Nat) : Int := if (j % 4 < i ∧ j / 4 < k) ∨ (j % 4 = i ∧ j / 4 < b) then rcI rs (j % 4) (j / 4) else 0
/-- a page of a valid plan -/
def Page (w : World) (P k : Nat) (R : Option Addr) (m cr : Nat) (rs : List (RowR Int)) : Prop := ∃ arr, Cs w P arr ∧ PgA arr k R m cr (gC rs k m 0)
theorem Page.keep {w w' : World} {P k : Nat} {R : Option Addr} {m cr : Nat} {rs : List (RowR Int)} (h : Page w P k R m cr rs) (hb : Below w.heap.size w w') : Page w' P k R m cr rs := by
  obtain ⟨arr, h1, h2⟩ := h
  exact ⟨arr, h1.keep hb, h2⟩
theorem page0 (k : Nat) (R : Option Addr) (m cr : Nat) (rs : List (RowR Int)) : PgA ((Tryz.zeroCells260.setIfInBounds 0 (.int .i64 (k : Nat))).setIfInBounds 1 (.slice R m cr)) k R m cr (gC rs k 0 0) := by
  have hs : Tryz.zeroCells260.size = 158 := by kernel_rfl
  have hz : ∀ j, j < 156 → Tryz.zeroCells260[2 + j]? = some (.int .i64 0) := by
    have h : Tryz.zeroCells260.toList.drop 2 = List.replicate 156 (.int .i64 0) := by kernel_rfl
    intro j hj
    rw [← Array.getElem?_toList, ← List.getElem?_drop, h, List.getElem?_replicate, if_pos hj]
  refine ⟨by simp, ?_, ?_, fun j hj => ?_⟩
  · rw [Array.getElem?_setIfInBounds, if_neg (by omega), Array.getElem?_setIfInBounds, if_pos rfl, if_pos (by rw [hs]; omega)]
  · rw [Array.getElem?_setIfInBounds, if_pos rfl, if_pos (by simp [hs])]
  · rw [Array.getElem?_setIfInBounds, if_neg (by omega), Array.getElem?_setIfInBounds, if_neg (by omega), hz j hj]
    unfold gC
    rw [if_neg (by omega)]

set_option maxHeartbeats 1000000 in
theorem pageHas_ok (P k : Nat) (R : Option Addr) (m cr : Nat) (rs : List (RowR Int)) (c s : Int) (w : World) (hp : Page w P k R m cr rs) (hc : IsCs k c s) :
    Calls Tryz.prog 160 #[.pointer (some ⟨P, 0, none⟩), .agg #[.int .i64 c, .int .i64 s]] w fun e w' => e = .returned (.bool true) ∧ Below w.heap.size w w' := by
  obtain ⟨arr, h1, h2⟩ := hp
  have c0 : w.cell? ⟨P, 0, none⟩ = some (.int .i64 (k : Nat)) := (h1.c 0).trans h2.c0
  have lP := h1.lt
  clear h1 h2
  rcases hc with ⟨rfl, rfl⟩ | ⟨h1, h2, rfl | rfl⟩
  · go_enter Tryz.func160, Tryz.ntmps160
    go_wp2_with fail
    go_ret
    exact ⟨rfl, blA⟩
  · go_enter Tryz.func160, Tryz.ntmps160
    go_wp2_with fail
    go_quiet (fail)
    go_wp2_with fail
    go_ret
    exact ⟨rfl, blA⟩
  · go_enter Tryz.func160, Tryz.ntmps160
    go_wp2_with fail
    go_quiet (fail)
    go_wp2_with fail
    go_ret
    exact ⟨rfl, blA⟩

set_option maxHeartbeats 1000000 in
theorem pageNo_ok (P q k : Nat) (R : Option Addr) (m cr : Nat) (rs : List (RowR Int)) (c s : Int) (w : World) (hp : Page w P k R m cr rs) (hq : w.cell? ⟨q, 0, none⟩ = some (.pointer (some ⟨P, 0, none⟩))) (hc : IsCs k c s) :
    Calls Tryz.prog 159 #[.agg #[.int .i64 c, .int .i64 s], .pointer (some ⟨q, 0, none⟩)] w fun e w' => e = .returned (.bool false) ∧ Below w.heap.size w w' := by
  have k1 := fun (V : World) (hV : Below w.heap.size w V) => pageHas_ok P k R m cr rs c s V (hp.keep hV) hc
  have lq := World.block_lt_of_cell? _ _ hq
  clear hp hc
  go_enter Tryz.func159, Tryz.ntmps159
  go_wp2_with fail
  refine (k1 _ blA).mono ?_
  rintro _ w1 ⟨rfl, hb1⟩
  have hbw : Below w.heap.size w w1 := blA
  have HB := Lib.hid hbw
  clear hb1 hbw k1
  go_wp2_with fail
  go_ret
  exact ⟨rfl, HB.out⟩

/-- what newPage hands back -/
def PagePost (k : Nat) (R : Option Addr) (m cr : Nat) (rs : List (RowR Int)) (w : World) (e : Ending) (w' : World) : Prop := ∃ P, e = .returned (.tuple #[.pointer (some ⟨P, 0, none⟩), .int .i64 0]) ∧ Page w' P k R m cr rs ∧ w.heap.size ≤ P ∧ Below w.heap.size w w'
set_option maxRecDepth 100000 in
set_option maxHeartbeats 8000000 in
theorem newPage_ok (k : Nat) (R : Option Addr) (m cr : Nat) (rs : List (RowR Int)) (C : Option Addr) (n c : Nat) (cs : List (Int × Int)) (w : World) (h : RowsI w R m rs) (hP : PlanOk k m rs) (hC : Prs w C n cs) (hn : n ≤ 9223372036854775807) (hcs : ∀ x ∈ cs, IsCs k x.1 x.2) :
    Calls Tryz.prog 85 #[.agg #[.int .i64 (k : Nat), .slice R m cr], .slice C n c] w (PagePost k R m cr rs w) := by
  have hk1 := hP.k1
  have hk39 := hP.k39
  have hm4 := hP.m4
  have kc := fun (V : World) (hV : Below w.heap.size w V) => checkPlan_ok k R m cr rs V (h.below hV) hP
  have kn := fun (V : World) (P q : Nat) (hV : Below w.heap.size w V) (hp : Page V P k R m cr rs) (hq : ∀ U, Below V.heap.size V U → U.cell? ⟨q, 0, none⟩ = some (.pointer (some ⟨P, 0, none⟩))) => containsCs_any C n c 159 cs #[.pointer (some ⟨q, 0, none⟩)] (fun _ => false) V
    (enters_of Tryz.func159 (by kernel_rfl) rfl) (hC.below hV) hn (fun x hx U hU => (pageNo_ok P q k R m cr rs x.1 x.2 U (hp.keep hU) (hq U hU) (hcs x hx)).mono fun e W' ⟨he, hb⟩ => ⟨he, hU.trans (hb.mono hU.size)⟩)
  rw [show cs.any (fun _ => false) = false by rw [List.any_eq_false]; intro x hx; decide] at kn
  have Hr := Lib.hid h
  have HP := Lib.hid hP
  have KN := Lib.hid kn
  clear h hP hC hcs kn
  go_enter Tryz.func85, Tryz.ntmps85
  go_wp2_with fail
  refine (kc _ blA).mono ?_
  rintro _ w1 ⟨rfl, hb1⟩
  have B1 : Cs w1 w.heap.size #[.int .i64 (k : Nat), .slice R m cr] := Cs.keep csA hb1
  have hbw : Below w.heap.size w w1 := blA
  have cB1 := B1.c
  have lB1 := B1.lt
  clear hb1 kc
  go_upto_region 5 with fail
  obtain ⟨arr0, ha0⟩ : ∃ arr, ((Tryz.zeroCells260.setIfInBounds 0 (.int .i64 (k : Nat))).setIfInBounds 1 (.slice R m cr)) = arr := ⟨_, rfl⟩
  have hA0 : PgA arr0 k R m cr (gC rs k 0 0) := by rw [← ha0]; exact page0 k R m cr rs
  rw [ha0]
  clear ha0
  obtain ⟨W0, hW0⟩ : ∃ W0, (w1.alloc (.cells arr0 260)).alloc (.cells #[.pointer (some ⟨w1.heap.size, 0, none⟩)] 161) = W0 := ⟨_, rfl⟩
  have HG : Hid (Cs W0 (w1.heap.size + 1) #[.pointer (some ⟨w1.heap.size, 0, none⟩)]) := Lib.hid (by rw [← hW0]; exact csA)
  have HA : Hid (Cs W0 w1.heap.size arr0) := Lib.hid (by rw [← hW0]; exact (Cs.new w1 _ arr0 _ rfl).alloc _)
  have HB1 : Hid (Cs W0 w.heap.size #[.int .i64 (k : Nat), .slice R m cr]) := Lib.hid (by rw [← hW0]; exact (B1.alloc _).alloc _)
  have Hbw : Hid (Below w.heap.size w W0) := Lib.hid (by rw [← hW0]; exact balloc (balloc hbw _) _)
  rw [hW0]
  have hlt : w1.heap.size + 1 < W0.heap.size := HG.out.lt
  clear hW0 cB1 B1 hbw
  have cB1 := HB1.out.c
  have HG0 := HG
  obtain ⟨P, hPd⟩ : ∃ P, w1.heap.size = P := ⟨_, rfl⟩
  rw [hPd] at lB1 HG HA hlt HG0
  have hwP := Hbw.out.size
  have hA0' := Lib.hid hA0
  clear hA0
  go_wp2_with fail
  clear cB1
  rw [hPd]
  have HPd := Lib.hid hPd
  clear hPd
  go_loopw [23] (fun s23 wx => ∃ (i : Nat) (arr : Array Value) (W : World), i ≤ m ∧ s23 = .int .i64 (i : Nat) ∧ Hid (W = wx) ∧ Hid (Cs W P arr) ∧ Hid (PgA arr k R m cr (gC rs k i 0)) ∧ Hid (Cs W (P + 1) #[.pointer (some ⟨P, 0, none⟩)]) ∧ Hid (Below P W0 W)) (fun s23 _ => m - (intOf s23).toNat)
  case atStart => exact ⟨0, arr0, _, Nat.zero_le _, rfl, Lib.hid rfl, HA, hA0', HG, Lib.hid (Below.refl _ _)⟩
  case round =>
    obtain ⟨i, arr, W, hi, rfl, HW, HAi, HPi, HGi, HB⟩ := hrel
    obtain rfl := HW.out
    clear HW HG0 HA hA0'
    have hbW := Hbw.out.trans (HB.out.mono (by omega))
    by_cases hin : i < m
    · obtain ⟨xb, xo, A', n', c', zs', rfl, hg, xlt, xc, hI, hn', _⟩ := Hr.out.atA (Below.refl _ _) hin
      have e1 : n' = k := by have := HP.out.len i hin; rw [hg] at this; exact this
      subst e1
      obtain ⟨sb, so, rfl, slt, sc⟩ := hI.2 (by omega)
      have hii : (i : Int) < (m : Int) := by omega
      have xcW := (hbW.cell (p := ⟨xb, xo + i, none⟩) xlt).trans xc
      have Hsc : Hid (∀ b, b < n' → w.cell? ⟨sb, so + b, none⟩ = some (.int .i64 (rcI rs i b))) := Lib.hid (fun b hb => by unfold rcI; rw [hg]; exact sc b hb)
      clear hg hI sc xc
      go_wp2_with fail
      clear xcW
      go_loopw [30] (fun s30 wx => ∃ (b : Nat) (arr : Array Value) (W : World), b ≤ n' ∧ s30 = .int .i64 (b : Nat) ∧ Hid (W = wx) ∧ Hid (Cs W P arr) ∧ Hid (PgA arr n' (some ⟨xb, xo, none⟩) m cr (gC rs n' i b)) ∧ Hid (Cs W (P + 1) #[.pointer (some ⟨P, 0, none⟩)]) ∧ Hid (Below P W0 W)) (fun s30 _ => n' - (intOf s30).toNat)
      case atStart => exact ⟨0, arr, _, Nat.zero_le _, rfl, Lib.hid rfl, HAi, HPi, HGi, HB⟩
      case round =>
        clear HAi HPi HGi HB hbW
        obtain ⟨b, arr, W, hb, rfl, HW, HAi, HPi, HGi, HB⟩ := hrel
        obtain rfl := HW.out
        clear HW
        have hbW := Hbw.out.trans (HB.out.mono (by omega))
        by_cases hbk : b < n'
        · have hbb : (b : Int) < (n' : Int) := by omega
          have hb39 : (b : Int) < 39 := by omega
          have hi4 : (i : Int) < 4 := by omega
          have x0 := (hbW.cell (p := ⟨sb, so + b, none⟩) slt).trans (Hsc.out b hbk)
          have cG := HGi.out.c
          have cA := (HAi.out.c (2 + (b * 4 + i))).trans (HPi.out.c (b * 4 + i) (by omega))
          have fA := HAi.out.f (2 + (b * 4 + i))
          have lA := HAi.out.lt
          rw [← Nat.add_assoc] at cA fA
          obtain ⟨x, hx⟩ : ∃ x, rcI rs i b = x := ⟨_, rfl⟩
          rw [hx] at x0
          have Hx := Lib.hid hx
          clear hx hbW
          go_wp2_with fail
          have HA2 : Cs (W.setCell ⟨P, 2 + b * 4 + i, none⟩ (.int .i64 x)) P (arr.setIfInBounds (2 + (b * 4 + i)) (.int .i64 x)) := by
            have := HAi.out.set (2 + (b * 4 + i)) (.int .i64 x) (by have := HPi.out.sz; simp; omega)
            rw [← Nat.add_assoc] at this ⊢
            exact this
          have HPg2 : PgA (arr.setIfInBounds (2 + (b * 4 + i)) (.int .i64 x)) n' (some ⟨xb, xo, none⟩) m cr (gC rs n' i (b + 1)) := HPi.out.set (by omega) x (fun j hj => by
            rw [← Hx.out]
            unfold gC
            by_cases e : j = b * 4 + i
            · subst e
              rw [if_pos rfl, if_pos (.inr ⟨by omega, by omega⟩), show (b * 4 + i) % 4 = i by omega, show (b * 4 + i) / 4 = b by omega]
            · rw [if_neg e]
              by_cases q : (j % 4 < i ∧ j / 4 < n') ∨ (j % 4 = i ∧ j / 4 < b)
              · rw [if_pos q, if_pos (by omega)]
              · rw [if_neg q, if_neg (by omega)])
          have HG2 : Cs (W.setCell ⟨P, 2 + b * 4 + i, none⟩ (.int .i64 x)) (P + 1) #[.pointer (some ⟨P, 0, none⟩)] := HGi.out.other (p := ⟨P, 2 + b * 4 + i, none⟩) (by show P + 1 ≠ P; omega) _
          have HB2 := below_set HB.out (p := ⟨P, 2 + b * 4 + i, none⟩) (Nat.le_refl _) (.int .i64 x)
          have H1 := Lib.hid HA2
          have H2 := Lib.hid HPg2
          have H3 := Lib.hid HG2
          have H4 := Lib.hid HB2
          clear HA2 HPg2 HG2 HB2
          go_wp2_with fail
          go_roundw
          case rel => exact ⟨b + 1, _, _, by omega, by go_num, Lib.hid rfl, H1, H2, H3, H4⟩
          case measure => simp [intOf]; omega
        · have hbb : ¬ (b : Int) < (n' : Int) := by omega
          have HP2 : Hid (PgA arr n' (some ⟨xb, xo, none⟩) m cr (gC rs n' (i + 1) 0)) := Lib.hid (HPi.out.congr (fun j hj => by
            unfold gC
            by_cases q : (j % 4 < i ∧ j / 4 < n') ∨ (j % 4 = i ∧ j / 4 < b)
            · rw [if_pos q, if_pos (by omega)]
            · rw [if_neg q, if_neg (by omega)]))
          go_wp2_with fail
          go_roundw
          case rel => exact ⟨i + 1, _, _, by omega, by go_num, Lib.hid rfl, HAi, HP2, HGi, HB⟩
          case measure => simp [intOf]; omega
    · have hii : ¬ (i : Int) < (m : Int) := by omega
      obtain rfl : i = m := by omega
      have HPage : Hid (Page W P k R i cr rs) := Lib.hid ⟨arr, HAi.out, HPi.out⟩
      have HbW := Lib.hid hbW
      clear hbW
      go_wp2_with fail
      refine (KN.out W P (P + 1) HbW.out HPage.out (fun U hU => (HGi.out.keep hU).c 0)).mono ?_
      rintro _ w5 ⟨rfl, hb5⟩
      have cG := (HGi.out.keep hb5).c
      have HPage5 := Lib.hid (HPage.out.keep hb5)
      have HB5 := Lib.hid (HbW.out.trans (hb5.mono HbW.out.size))
      clear hb5
      go_wp2_with fail
      exact bodyPost_ret (v := .tuple #[.pointer (some ⟨P, 0, none⟩), .int .i64 0]) (by simp [results, Tryz.results85, go_sem]) rfl ⟨P, rfl, HPage5.out, by omega, HB5.out⟩
end Go.Proofs.YtlbjnkopbabcnaaGreatDoor
end
