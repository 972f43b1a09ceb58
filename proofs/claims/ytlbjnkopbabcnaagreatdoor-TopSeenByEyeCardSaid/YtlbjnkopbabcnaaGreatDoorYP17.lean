/- PE4 -/
import Derived.Test.YtlbjnkopbabcnaaGreatDoorYP16
/- Walks of package metamer: the place at which chips part. -/
section
namespace Go.Proofs.YtlbjnkopbabcnaaGreatDoor
open Go.RowKit Go.Shelf
set_option linter.unusedSimpArgs false
set_option linter.unusedVariables false
attribute [local go_sem] Oper.semAt_some

/-- where a spectrum is open first -/
def fstO : List (Nat × Nat) → (Int × Int) × Bool
  | [] => ((-1, -1), false)
  | x :: _ => (((x.1 : Nat), (x.2 : Nat)), true)
/-- a place at which chips part, and whether they do -/
def partR (L : Nat → Int × Int) (E : Nat → Nat → Int × Int) (d : Nat → Int) (n : Nat) : (Int × Int) × Bool :=
  if Mm.seen (Mm.low L E) d n 0 = 0 ∧ Mm.seen (Mm.low L E) d n 1 = 0 ∧ Mm.seen (Mm.low L E) d n 2 = 0 then fstO (opL (opB L E d) 0 (3 * n)) else ((-1, -1), true)

set_option maxHeartbeats 1000000 in
theorem openF_any (M : Array Value) (hM : ∃ a b, M = #[a, b] ∧ a.oneCell' = true ∧ b.oneCell' = true) (A : Option Addr) (n c : Nat) (w : World) :
    Calls Tryz.prog 130 #[.agg M, .slice A n c] w fun e w' => e = .returned (.func (.func 230) #[] #[.pointer (some ⟨w.heap.size + 1, 0, none⟩), .pointer (some ⟨w.heap.size, 0, none⟩)]) ∧ w' = (w.alloc (.cells M 120)).alloc (.cells #[.slice A n c] 30) := by
  obtain ⟨a, b, rfl, ha, hb⟩ := hM
  go_enter Tryz.func130, Tryz.ntmps130
  go_wp2_with fail
  go_ret
  exact ⟨by simp, rfl⟩

@[local go_sem] theorem three_eqd (a b c : Int) (w : World) : (Op.equalIn 10000 126 (.agg #[.int .i64 a, .int .i64 b, .int .i64 c]) (.agg #[.int .i64 0, .int .i64 0, .int .i64 0])).run Tryz.prog w = .ok (decide (a = 0 ∧ b = 0 ∧ c = 0)) w := by
  have hT : ∃ i, Tryz.prog.info? 2 = some i := by
    have h : (Tryz.prog.info? 2).isSome = true := by kernel_rfl
    exact Option.isSome_iff_exists.1 h
  obtain ⟨i, hi⟩ := hT
  rw [show (10000 : Nat) = 9998 + 1 + 1 from rfl, run_equalIn_array w (9998 + 1) _ _ (n := 3) (e := 2) (by kernel_rfl) hi]
  have hc : Tryz.prog.cellsOf 2 = 1 := by kernel_rfl
  rw [hc]
  simp [Op.eqItems, go_sem, List.range, List.range.loop]
  by_cases h1 : a = 0 <;> by_cases h2 : b = 0 <;> by_cases h3 : c = 0 <;> simp [h1, h2, h3]

set_option maxRecDepth 100000 in
set_option maxHeartbeats 4000000 in
theorem part_any (E : Option Addr) (ce : Nat) (L : Option Addr) (n cl : Nat) (rs : List (RowR (Int × Int))) (ls : List (Int × Int)) (A : Option Addr) (c : Nat) (ds : List Int) (w : World)
    (hC : Cse w E 3 L n rs ls) (hc : CaseOk n ls 3 rs) (hd : Ints w A n ds) (hb : ∀ b, b < n → -1000 ≤ zF ds b ∧ zF ds b ≤ 1000) :
    Calls Tryz.prog 63 #[.agg #[.slice E 3 ce, .slice L n cl], .slice A n c] w fun e w' => e = .returned (.tuple #[.agg #[.int .i64 (partR (rgA ls) (egA rs) (zF ds) n).1.1, .int .i64 (partR (rgA ls) (egA rs) (zF ds) n).1.2], .bool (partR (rgA ls) (egA rs) (zF ds) n).2]) ∧ Below w.heap.size w w' := by
  have hn8 := hc.2.1
  have k1 := fun (W : World) (hW : Below w.heap.size w W) => see_any E 3 ce L n cl A n c ds 124 #[.agg #[.slice E 3 ce, .slice L n cl]] #[] (Mm.low (rgA ls) (egA rs)) W
    (enters_of Tryz.func124 (by kernel_rfl) rfl) (hd.below hW) hn8 (fun i b V hi hb hV => low_any i b E 3 ce L n cl rs ls V (hC.below (hW.trans (hV.mono hW.size))) hc hi hb)
    (fun i b hi hb => by have := Mm.low_le hc.ok hi hb; omega) hb
  have k2 := fun (W : World) => openF_any #[.slice E 3 ce, .slice L n cl] ⟨_, _, rfl, rfl, rfl⟩ A n c W
  have k3 := fun (b1 b2 : Nat) (W : World) (hS : OpS w W b1 b2 A n c E ce L cl) => open_in 5 (by omega) b1 b2 A n c E ce L cl rs ls ds w W hC hc hd hS
  have H1 := Lib.hid k1
  have H2 := Lib.hid k2
  have H3 := Lib.hid k3
  obtain ⟨R, hR⟩ : ∃ R, partR (rgA ls) (egA rs) (zF ds) n = R := ⟨_, rfl⟩
  rw [hR]
  unfold partR at hR
  generalize Mm.seen (Mm.low (rgA ls) (egA rs)) (zF ds) n 0 = v0 at *
  generalize Mm.seen (Mm.low (rgA ls) (egA rs)) (zF ds) n 1 = v1 at *
  generalize Mm.seen (Mm.low (rgA ls) (egA rs)) (zF ds) n 2 = v2 at *
  generalize opL (opB (rgA ls) (egA rs) (zF ds)) 0 (3 * n) = xs at *
  have HR := Lib.hid hR
  clear hC hc hd hb k1 k2 k3 hR
  have k1 := H1.out
  refine (callsIn_wide (n := 6)).1 ?_
  refine callsIn_of_wp_marks Tryz.func63 rfl trivial ?_ rfl
  simp only [Tryz.ntmps63, List.size_toArray, List.length_cons, List.length_nil, Nat.reduceAdd, Nat.reduceSub, Array.replicate_succ, Array.replicate_zero, List.push_toArray, List.append_toArray, List.nil_append, List.cons_append]
  gi_wp2_with fail
  refine wpIn_scopeP ?_
  gi_wp2_with fail
  refine ⟨trivial, (callsIn_wide.2 (k1 _ blA)).mono ?_⟩
  rintro e w1 ⟨rfl, hb1⟩
  have B1 : Cs w1 w.heap.size #[.slice E 3 ce, .slice L n cl] := Cs.keep csA hb1
  have B4 : Cs w1 (w.heap.size + 1) #[.int .i64 0, .int .i64 0] := Cs.keep csA hb1
  have B6 : Cs w1 (w.heap.size + 1 + 1) #[.int .i64 (-1), .int .i64 (-1)] := Cs.keep csA hb1
  have hbw : Below w.heap.size w w1 := blA
  have hs1 : w.heap.size + 3 ≤ w1.heap.size := by have := hb1.size; simpa using this
  clear hb1 k1 H1
  have cB1 := B1.c
  have lB1 := B1.lt
  have cB4 := B4.c
  have fB4 := B4.f
  have lB4 := B4.lt
  have cB6 := B6.c
  have lB6 := B6.lt
  by_cases hv : v0 = 0 ∧ v1 = 0 ∧ v2 = 0
  · have hR : fstO xs = R := by have := HR.out; rwa [if_pos hv] at this
    obtain ⟨rfl, rfl, rfl⟩ := hv
    have HR2 := Lib.hid hR
    clear hR HR
    gi_wp2_with fail
    refine wpIn_label ?_
    gi_wp2_with fail
    refine ⟨trivial, (callsIn_wide.2 (H2.out _)).mono ?_⟩
    rintro e w2 ⟨rfl, rfl⟩
    gi_wp2_with fail
    obtain ⟨Wl, hWl⟩ : ∃ Wl, ((w1.alloc (.cells #[.int .i64 (-1), .int .i64 (-1)] 134)).alloc (.cells #[.slice E 3 ce, .slice L n cl] 120)).alloc (.cells #[.slice A n c] 30) = Wl := ⟨_, rfl⟩
    have C4 : Cs Wl (w.heap.size + 1) #[.int .i64 0, .int .i64 0] := by rw [← hWl]; exact csA
    have C6 : Cs Wl (w.heap.size + 1 + 1) #[.int .i64 (-1), .int .i64 (-1)] := by rw [← hWl]; exact csA
    have C7 : Cs Wl w1.heap.size #[.int .i64 (-1), .int .i64 (-1)] := by rw [← hWl]; exact csA
    have CM : Cs Wl (w1.heap.size + 1) #[.slice E 3 ce, .slice L n cl] := by rw [← hWl]; exact csA
    have CS : Cs Wl (w1.heap.size + 1 + 1) #[.slice A n c] := by rw [← hWl]; exact csA
    have hbl : Below w.heap.size w Wl := by rw [← hWl]; exact blA
    have hsz : Wl.heap.size = w1.heap.size + 3 := by rw [← hWl]; simp
    try simp only [World.size_alloc]
    rw [hWl]
    clear hWl B1 B4 B6 hbw cB1 lB1 cB4 fB4 lB4 cB6 lB6
    have h3 := H3.out (w1.heap.size + 1 + 1) (w1.heap.size + 1) Wl ⟨hbl, CS, CM⟩
    obtain ⟨I, hIdef⟩ : ∃ I : List (Nat × Nat) → World → Prop, I = fun pre W => pre = [] ∧ Cs W (w.heap.size + 1) #[.int .i64 0, .int .i64 0] ∧ Cs W (w.heap.size + 1 + 1) #[.int .i64 (-1), .int .i64 (-1)] ∧ Cs W w1.heap.size #[.int .i64 (-1), .int .i64 (-1)] ∧ Below w.heap.size w W := ⟨_, rfl⟩
    obtain ⟨Ix, hXdef⟩ : ∃ Ix : Code → List (Nat × Nat) → World → Prop, Ix = fun cd pre W => cd = .exit 0 ∧ ∃ x, pre = [x] ∧ Cs W (w.heap.size + 1) #[.int .i64 0, .int .i64 0] ∧ Cs W (w.heap.size + 1 + 1) #[.int .i64 (-1), .int .i64 (-1)] ∧ Cs W w1.heap.size #[.int .i64 (x.1 : Nat), .int .i64 (x.2 : Nat)] ∧ Below w.heap.size w W := ⟨_, rfl⟩
    have hI : Bears (fun i => False ∨ i = Wl.heap.size + 1) I := by
      intro pre W W' h ht
      rw [hIdef] at h ⊢
      obtain ⟨h1, h2, h3, h4, h5⟩ := h
      exact ⟨h1, h2.turnsP ht (by rintro (k | k); exact k; omega), h3.turnsP ht (by rintro (k | k); exact k; omega), h4.turnsP ht (by rintro (k | k); exact k; omega), Turns.below h5 ht (by rintro i (k | k); exact k.elim; omega) (by have := h2.lt; omega)⟩
    have hIx : ∀ cd, Bears (fun i => False ∨ i = Wl.heap.size + 1) (Ix cd) := by
      intro cd pre W W' h ht
      rw [hXdef] at h ⊢
      obtain ⟨h0, x, h1, h2, h3, h4, h5⟩ := h
      exact ⟨h0, x, h1, h2.turnsP ht (by rintro (k | k); exact k; omega), h3.turnsP ht (by rintro (k | k); exact k; omega), h4.turnsP ht (by rintro (k | k); exact k; omega), Turns.below h5 ht (by rintro i (k | k); exact k.elim; omega) (by have := h2.lt; omega)⟩
    have hput : ∀ (B : Nat) (W : World) (o' : Obj), KpO w (w1.heap.size + 1 + 1) (w1.heap.size + 1) B W (W.putObj (Wl.heap.size + 1) o') := fun B W o' =>
      ⟨by simp, fun q => Turns.below (O := fun i => i = Wl.heap.size + 1) q (Turns.putObj o' rfl) (by rintro i k; omega) q.size, World.putObj_heap_other (by omega), World.putObj_heap_other (by omega)⟩
    refine wpIn_rangeList rfl (by omega) (gf := 230) (lb := #[.pointer (some ⟨w1.heap.size + 1 + 1, 0, none⟩), .pointer (some ⟨w1.heap.size + 1, 0, none⟩)]) rfl trivial (enters_of Tryz.func230 (by kernel_rfl) rfl)
      h3 (fun i hi => hi.elim) (fun h1 h2 => h1.trans h2) (fun W o' => hput _ W o') (fun _ _ _ => trivial) (Below.refl _ _) (fun _ => rfl)
      I Ix hI hIx (by rw [hIdef]; exact ⟨rfl, C4, C6, C7, hbl⟩)
      (fun pre x a' W => I pre W ∧ a' = { tmps := #[.agg #[.slice E 3 ce, .slice L n cl], .slice A n c, .pointer (some ⟨w.heap.size, 0, none⟩), undef, .pointer (some ⟨w.heap.size + 1, 0, none⟩), .bool false, .pointer (some ⟨w.heap.size + 1 + 1, 0, none⟩), .pointer (some ⟨w1.heap.size, 0, none⟩), .int .i64 (x.1 : Nat), .int .i64 (x.2 : Nat), .agg #[.int .i64 (-1), .int .i64 (-1)], .agg #[.slice E 3 ce, .slice L n cl], .slice A n c, .agg #[.slice E 3 ce, .slice L n cl], .func (.func 124) #[.agg #[.slice E 3 ce, .slice L n cl]] #[], .agg #[.int .i64 0, .int .i64 0, .int .i64 0], .agg #[.int .i64 0, .int .i64 0, .int .i64 0], .bool false, undef, .agg #[.int .i64 (-1), .int .i64 (-1)], .agg #[.slice E 3 ce, .slice L n cl], .slice A n c, .func (.func 230) #[] #[.pointer (some ⟨w1.heap.size + 1 + 1, 0, none⟩), .pointer (some ⟨w1.heap.size + 1, 0, none⟩)], .int .i64 (x.1 : Nat), .int .i64 (x.2 : Nat), undef, undef, undef, undef, undef, undef, undef], defers := [] }) ?hax ?assign ?body ?done ?stop
    case assign =>
      intro l pre x W K hpx hi hW hK
      gi_wp2_with fail
      exact hK _ _ ⟨Nat.le_refl _, rfl, rfl⟩ ⟨Nat.le_refl _, id, rfl, rfl⟩ ⟨hi, rfl⟩
    case hax =>
      rintro pre x a' W o' ⟨hi, rfl⟩
      exact ⟨hI _ _ _ hi (Turns.putObj o' (.inr rfl)), rfl⟩
    case body =>
      rintro l pre x a' W hpx ⟨hi, rfl⟩ hW
      have hi' := hi
      rw [hIdef] at hi'
      obtain ⟨rfl, hi1, hi2, hi3, hi4⟩ := hi'
      have T : Turns (fun i => i = w1.heap.size) W ((W.setCell ⟨w1.heap.size, 0, none⟩ (.int .i64 (x.1 : Nat))).setCell ⟨w1.heap.size, 1, none⟩ (.int .i64 (x.2 : Nat))) :=
        (Turns.setCell (O := fun i => i = w1.heap.size) (p := ⟨w1.heap.size, 0, none⟩) _ rfl).trans (Turns.setCell (O := fun i => i = w1.heap.size) (p := ⟨w1.heap.size, 1, none⟩) _ rfl)
      have hpost : Ix (.exit 0) ([] ++ [x]) ((W.setCell ⟨w1.heap.size, 0, none⟩ (.int .i64 (x.1 : Nat))).setCell ⟨w1.heap.size, 1, none⟩ (.int .i64 (x.2 : Nat))) := by
        rw [hXdef]
        exact ⟨rfl, x, rfl, hi1.other2 (by omega) _ _, hi2.other2 (by omega) _ _, hi3.set2 _ _, bset2 hi4 (by omega) _ _⟩
      have Hpost := Lib.hid hpost
      have hT := Lib.hid T
      have chi3 := hi3.c
      have fhi3 := hi3.f
      have lhi3 := hi3.lt
      clear hpost T
      gi_wp2_with fail
      exact ⟨Keeps2.of_turns hT.out (fun k => by have k' : Wl.heap.size = w1.heap.size := k; omega) (fun k => by have k' : Wl.heap.size + 1 = w1.heap.size := k; omega) hW, Hpost.out⟩
    case done =>
      intro W _ hi hD
      rw [hIdef] at hi
      obtain ⟨e1, hi1, hi2, hi3, hi4⟩ := hi
      subst e1
      have HD := Lib.hid hD
      clear hD
      have c1 := hi1.c
      have f1 := hi1.f
      have l1 := hi1.lt
      have c2 := hi2.c
      have l2 := hi2.lt
      have c3 := hi3.c
      have l3 := hi3.lt
      have T : Turns (fun i => i = w.heap.size + 1) W ((W.setCell ⟨w.heap.size + 1, 0, none⟩ (.int .i64 (-1))).setCell ⟨w.heap.size + 1, 1, none⟩ (.int .i64 (-1))) := (Turns.setCell (O := fun i => i = w.heap.size + 1) (p := ⟨w.heap.size + 1, 0, none⟩) _ rfl).trans (Turns.setCell (O := fun i => i = w.heap.size + 1) (p := ⟨w.heap.size + 1, 1, none⟩) _ rfl)
      have HD6 : Hid (((W.setCell ⟨w.heap.size + 1, 0, none⟩ (.int .i64 (-1))).setCell ⟨w.heap.size + 1, 1, none⟩ (.int .i64 (-1))).drew.heap[Wl.heap.size]? = some (.deferred (some []))) := Lib.hid ((T.block Wl.heap.size (Array.getElem?_eq_some_iff.1 HD.out).1 (fun k => by have k' : Wl.heap.size = w.heap.size + 1 := k; omega)).trans HD.out)
      have HB6 := Lib.hid (Cs.drew (hi1.set2 (.int .i64 (-1)) (.int .i64 (-1))))
      have Hb6 := Lib.hid (Below.drew (bset2 (g := w.heap.size + 1) hi4 (by omega) (.int .i64 (-1)) (.int .i64 (-1))))
      have hlt := l1
      clear T hi1 hi2 hi3 hi4 HD
      gi_wp2_with fail
      gi_region
      gi_wp2_with fail
      try rw [Exit.noGoto_ret]
      gi_wp2_with fail
      clear c1 f1 l1 c2 l2 c3 l3
      generalize ((W.setCell ⟨w.heap.size + 1, 0, none⟩ (.int .i64 (-1))).setCell ⟨w.heap.size + 1, 1, none⟩ (.int .i64 (-1))).drew = W6 at *
      have T7 : Turns (fun i => i = Wl.heap.size) W6 (W6.putObj Wl.heap.size (.deferred none)) := Turns.putObj _ rfl
      have B7 := HB6.out.turnsP T7 (fun k => by have k' : w.heap.size + 1 = Wl.heap.size := k; omega)
      have hb7 := Turns.below Hb6.out T7 (fun i k => by have k' : i = Wl.heap.size := k; omega) (by have := HB6.out.lt; omega)
      refine ⟨by simp, .inl ⟨_, _, rfl, run_takeDeferred HD6.out, ?_⟩⟩
      have c7 := B7.c
      exact ⟨.tuple #[.agg #[.int .i64 (-1), .int .i64 (-1)], .bool false], by simp [results, Tryz.results63, go_sem, c7], by rw [← HR2.out]; rfl, hb7⟩
    case stop =>
      intro cd pre W hp hi hD
      rw [hXdef] at hi
      obtain ⟨rfl, x, rfl, hi1, hi2, hi3, hi4⟩ := hi
      have hx1 : (((x.1 : Nat) : Int) = -1) = False := eq_false (by omega)
      have hxs : ∃ r, xs = x :: r := by obtain ⟨r, hr⟩ := hp; exact ⟨r, hr.symm⟩
      obtain ⟨r, rfl⟩ := hxs
      have HD := Lib.hid hD
      clear hD
      have c1 := hi1.c
      have f1 := hi1.f
      have l1 := hi1.lt
      have c2 := hi2.c
      have l2 := hi2.lt
      have c3 := hi3.c
      have l3 := hi3.lt
      have T : Turns (fun i => i = w.heap.size + 1) W ((W.setCell ⟨w.heap.size + 1, 0, none⟩ (.int .i64 (x.1 : Nat))).setCell ⟨w.heap.size + 1, 1, none⟩ (.int .i64 (x.2 : Nat))) := (Turns.setCell (O := fun i => i = w.heap.size + 1) (p := ⟨w.heap.size + 1, 0, none⟩) _ rfl).trans (Turns.setCell (O := fun i => i = w.heap.size + 1) (p := ⟨w.heap.size + 1, 1, none⟩) _ rfl)
      have HD6 : Hid (((W.setCell ⟨w.heap.size + 1, 0, none⟩ (.int .i64 (x.1 : Nat))).setCell ⟨w.heap.size + 1, 1, none⟩ (.int .i64 (x.2 : Nat))).drew.heap[Wl.heap.size]? = some (.deferred (some []))) := Lib.hid ((T.block Wl.heap.size (Array.getElem?_eq_some_iff.1 HD.out).1 (fun k => by have k' : Wl.heap.size = w.heap.size + 1 := k; omega)).trans HD.out)
      have HB6 := Lib.hid (Cs.drew (hi1.set2 (.int .i64 (x.1 : Nat)) (.int .i64 (x.2 : Nat))))
      have Hb6 := Lib.hid (Below.drew (bset2 (g := w.heap.size + 1) hi4 (by omega) (.int .i64 (x.1 : Nat)) (.int .i64 (x.2 : Nat))))
      have hlt := l1
      clear T hi1 hi2 hi3 hi4 HD
      gi_wp2_with fail
      gi_region
      gi_wp2_with fail
      try rw [Exit.noGoto_ret]
      gi_wp2_with fail
      clear c1 f1 l1 c2 l2 c3 l3
      generalize ((W.setCell ⟨w.heap.size + 1, 0, none⟩ (.int .i64 (x.1 : Nat))).setCell ⟨w.heap.size + 1, 1, none⟩ (.int .i64 (x.2 : Nat))).drew = W6 at *
      have T7 : Turns (fun i => i = Wl.heap.size) W6 (W6.putObj Wl.heap.size (.deferred none)) := Turns.putObj _ rfl
      have B7 := HB6.out.turnsP T7 (fun k => by have k' : w.heap.size + 1 = Wl.heap.size := k; omega)
      have hb7 := Turns.below Hb6.out T7 (fun i k => by have k' : i = Wl.heap.size := k; omega) (by have := HB6.out.lt; omega)
      refine ⟨by simp, .inl ⟨_, _, rfl, run_takeDeferred HD6.out, ?_⟩⟩
      have c7 := B7.c
      exact ⟨.tuple #[.agg #[.int .i64 (x.1 : Nat), .int .i64 (x.2 : Nat)], .bool true], by simp [results, Tryz.results63, go_sem, c7], by rw [← HR2.out]; rfl, hb7⟩
  · have hR : ((-1, -1), true) = R := by have := HR.out; rwa [if_neg hv] at this
    subst hR
    have hvd : decide (v0 = 0 ∧ v1 = 0 ∧ v2 = 0) = false := decide_eq_false hv
    have D4 := Lib.hid (B4.set2 (.int .i64 (-1)) (.int .i64 (-1)))
    have HbF := Lib.hid (bset2 (g := w.heap.size + 1) hbw (by omega) (.int .i64 (-1)) (.int .i64 (-1)))
    clear hv HR H2 H3 B1 B4 B6 hbw
    gi_wp2_with fail
    rw [Exit.noGoto_ret]
    gi_wp2_with fail
    have c4 := D4.out.c
    exact ⟨.tuple #[.agg #[.int .i64 (-1), .int .i64 (-1)], .bool true], by simp [results, Tryz.results63, go_sem, c4], rfl, HbF.out⟩
end Go.Proofs.YtlbjnkopbabcnaaGreatDoor
end
