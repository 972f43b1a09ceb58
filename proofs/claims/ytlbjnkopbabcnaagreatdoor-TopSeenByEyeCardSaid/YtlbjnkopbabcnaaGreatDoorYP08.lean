/- PB4 -/
import Derived.Test.YtlbjnkopbabcnaaGreatDoorYP06
import Derived.Test.YtlbjnkopbabcnaaGreatDoorYP05
import Derived.Test.YtlbjnkopbabcnaaGreatDoorYP07
/- Walks of the law package of layer 4: True. -/
section
namespace Go.Proofs.YtlbjnkopbabcnaaGreatDoor
open Go.RowKit Go.Shelf
set_option linter.unusedSimpArgs false
set_option linter.unusedVariables false

/-- what an eye and a lamp truly are, within what is known -/
def rwI (rs : List (RowR Int)) (i : Nat) : RowR Int := rs.getD i ⟨none, 0, 0, []⟩
structure TruIn (n : Nat) (ls : List (Int × Int)) (rs : List (RowR (Int × Int))) (tl : List Int) (te : List (RowR Int)) : Prop where
  len : te.length = 3
  L : ∀ b, b < n → (rgA ls b).1 ≤ tl.getD b 0 ∧ tl.getD b 0 ≤ (rgA ls b).2
  N : ∀ i, i < 3 → (rwI te i).n = n
  E : ∀ i b, i < 3 → b < n → (egA rs i b).1 ≤ (rwI te i).zs.getD b 0 ∧ (rwI te i).zs.getD b 0 ≤ (egA rs i b).2
/-- the first numbers lie in the first ranges -/
def InF (f : Nat → Int × Int) (k : Nat) (tl : List Int) : Prop := tl.length = k ∧ ∀ b, b < k → (f b).1 ≤ tl.getD b 0 ∧ tl.getD b 0 ≤ (f b).2
theorem InF.push {f : Nat → Int × Int} {k : Nat} {tl : List Int} (h : InF f k tl) {v : Int} (h1 : (f k).1 ≤ v) (h2 : v ≤ (f k).2) : InF f (k + 1) (tl ++ [v]) := by
  refine ⟨by simp [h.1], fun b hb => ?_⟩
  have hl := h.1
  by_cases e : b < k
  · rw [show (tl ++ [v]).getD b 0 = tl.getD b 0 by simp [List.getD_eq_getElem?_getD, List.getElem?_append_left (show b < tl.length by omega)]]
    exact h.2 b e
  · have : b = k := by omega
    subst this
    rw [show (tl ++ [v]).getD b 0 = v by rw [← hl]; simp [List.getD_eq_getElem?_getD]]
    exact ⟨h1, h2⟩

/-- what a round over the lamp keeps -/
structure J1 (w : World) (C : Array Value) (n k : Nat) (ls : List (Int × Int)) (v : Value) (tl : List Int) (W : World) : Prop where
  c0 : Cs W w.heap.size C
  c1 : Cs W (w.heap.size + 1) #[.slice none 0 0, .slice none 0 0]
  c2 : Cs W (w.heap.size + 1 + 1) #[.slice none 0 0, v]
  o : W.ownsRow (w.heap.size + 1 + 1 + 1) 2 1 v k (tl.map (Value.int .i64))
  t : InF (rgA ls) k tl
  s : w.heap.size + 1 + 1 + 1 ≤ W.heap.size
  b : Below w.heap.size w W
def ST1 (N0 : Nat) (L : Value) (b o : Nat) (x y : Int) (U : World) : Prop :=
  U.cell? ⟨N0, 1, none⟩ = some L ∧ U.cell? ⟨b, o, none⟩ = some (.int .i64 x) ∧ U.cell? ⟨b, o + 1, none⟩ = some (.int .i64 y)
theorem J1.keep {w : World} {C : Array Value} {n k : Nat} {ls : List (Int × Int)} {v : Value} {tl : List Int} {W W' : World} (h : J1 w C n k ls v tl W) (hb : Below W.heap.size W W') : J1 w C n k ls v tl W' :=
  ⟨h.c0.keep hb, h.c1.keep hb, h.c2.keep hb, own_keep h.o hb, h.t, Nat.le_trans h.s hb.size, h.b.trans (hb.mono h.b.size)⟩

/-- what a round over the eye keeps -/
structure J2 (w : World) (C : Array Value) (n i gl cL : Nat) (rs : List (RowR (Int × Int))) (tl : List Int) (v : Value) (te : List (RowR Int)) (W : World) : Prop where
  c0 : Cs W w.heap.size C
  c1 : Cs W (w.heap.size + 1) #[.slice none 0 0, .slice none 0 0]
  c2 : Cs W (w.heap.size + 1 + 1) #[v, .slice (some ⟨gl, 0, none⟩) n cL]
  o : W.ownsRow (w.heap.size + 1 + 1 + 1) 30 1 v i (te.map rrV)
  l : Ints W (some ⟨gl, 0, none⟩) n tl ∧ w.heap.size + 1 + 1 + 1 ≤ gl ∧ v.ownBlock ≠ some gl ∧ gl < W.heap.size
  r : ∀ r ∈ te, r.n = n ∧ ∃ g, r.A = some ⟨g, 0, none⟩ ∧ Ints W (some ⟨g, 0, none⟩) n r.zs ∧ w.heap.size + 1 + 1 + 1 ≤ g ∧ v.ownBlock ≠ some g ∧ g < W.heap.size
  t : te.length = i ∧ ∀ j, j < i → InF (egA rs j) n (rwI te j).zs
  s : w.heap.size + 1 + 1 + 1 ≤ W.heap.size
  b : Below w.heap.size w W
theorem J2.keep {w : World} {C : Array Value} {n i gl cL : Nat} {rs : List (RowR (Int × Int))} {tl : List Int} {v : Value} {te : List (RowR Int)} {W W' : World} (h : J2 w C n i gl cL rs tl v te W) (hb : Below W.heap.size W W') : J2 w C n i gl cL rs tl v te W' :=
  ⟨h.c0.keep hb, h.c1.keep hb, h.c2.keep hb, own_keep h.o hb, ⟨h.l.1.below hb, h.l.2.1, h.l.2.2.1, Nat.lt_of_lt_of_le h.l.2.2.2 hb.size⟩,
    fun r hr => by obtain ⟨q1, g, q2, q3, q4, q5, q6⟩ := h.r r hr; exact ⟨q1, g, q2, q3.below hb, q4, q5, Nat.lt_of_lt_of_le q6 hb.size⟩, h.t, Nat.le_trans h.s hb.size, h.b.trans (hb.mono h.b.size)⟩
theorem J2.next {w : World} {C : Array Value} {n i gl cL : Nat} {rs : List (RowR (Int × Int))} {tl : List Int} {v : Value} {te : List (RowR Int)} {W W7 : World} (h : J2 w C n i gl cL rs tl v te W) {gr cr : Nat} {tr : List Int}
    (hr : Ints W (some ⟨gr, 0, none⟩) n tr) (hgr : w.heap.size + 1 + 1 + 1 ≤ gr) (hgl : gr < W.heap.size) (hne : v.ownBlock ≠ some gr) (hin : InF (egA rs i) n tr)
    {g7 c7 : Nat} (ho : W7.ownsRow (w.heap.size + 1 + 1 + 1) 30 1 (.slice (some ⟨g7, 0, none⟩) (i + 1) c7) (i + 1) (te.map rrV ++ [.slice (some ⟨gr, 0, none⟩) n cr])) (hg : W.grownBy W7 v.ownBlock) (hw : v.ownBlock = some g7 ∨ W.heap.size ≤ g7) :
    Cs W7 (w.heap.size + 1 + 1) #[v, .slice (some ⟨gl, 0, none⟩) n cL] ∧
    J2 w C n (i + 1) gl cL rs tl (.slice (some ⟨g7, 0, none⟩) (i + 1) c7) (te ++ [⟨some ⟨gr, 0, none⟩, n, cr, tr⟩]) (W7.setCell ⟨w.heap.size + 1 + 1, 0, none⟩ (.slice (some ⟨g7, 0, none⟩) (i + 1) c7)) := by
  have hov := h.o.lt
  have hb7 : Below (w.heap.size + 1 + 1 + 1) W W7 := below_grewB hg (fun g e => (hov g e).1) h.s
  have D0 := h.c0.keepB (by omega) hb7
  have D1 := h.c1.keepB (by omega) hb7
  have D2 := h.c2.keepB (by omega) hb7
  have key : ∀ g, v.ownBlock ≠ some g → g < W.heap.size → g7 ≠ g := fun g h1 h2 e => by
    rcases hw with h3 | h3
    · exact h1 (by rw [h3, e])
    · omega
  have put : ∀ {g : Nat} {zs : List Int}, Ints W (some ⟨g, 0, none⟩) n zs → w.heap.size + 1 + 1 + 1 ≤ g → v.ownBlock ≠ some g → Ints (W7.setCell ⟨w.heap.size + 1 + 1, 0, none⟩ (.slice (some ⟨g7, 0, none⟩) (i + 1) c7)) (some ⟨g, 0, none⟩) n zs := fun hz h1 h2 =>
    (hz.grew hg h2).other (p := ⟨w.heap.size + 1 + 1, 0, none⟩) (by show _ ≠ w.heap.size + 1 + 1; omega) _
  have hsz : (W7.setCell ⟨w.heap.size + 1 + 1, 0, none⟩ (.slice (some ⟨g7, 0, none⟩) (i + 1) c7)).heap.size = W7.heap.size := by simp [World.setCell]
  refine ⟨D2, D0.other (p := ⟨w.heap.size + 1 + 1, 0, none⟩) (by show w.heap.size ≠ w.heap.size + 1 + 1; omega) _, D1.other (p := ⟨w.heap.size + 1 + 1, 0, none⟩) (by show w.heap.size + 1 ≠ w.heap.size + 1 + 1; omega) _, D2.set 0 _ (by simp),
    own_set (by simpa [rrV] using ho) (p := ⟨w.heap.size + 1 + 1, 0, none⟩) (by show w.heap.size + 1 + 1 < w.heap.size + 1 + 1 + 1; omega) _, ?_, ?_, ?_, ?_, ?_⟩
  · refine ⟨put h.l.1 h.l.2.1 h.l.2.2.1, h.l.2.1, ?_, by rw [hsz]; exact Nat.lt_of_lt_of_le h.l.2.2.2 hg.size⟩
    simp only [Value.ownBlock]
    intro e; injection e with e
    exact key gl h.l.2.2.1 h.l.2.2.2 e
  · intro r hr'
    rcases List.mem_append.1 hr' with h1 | h1
    · obtain ⟨q1, g, q2, q3, q4, q5, q6⟩ := h.r r h1
      refine ⟨q1, g, q2, put q3 q4 q5, q4, ?_, by rw [hsz]; exact Nat.lt_of_lt_of_le q6 hg.size⟩
      simp only [Value.ownBlock]
      intro e; injection e with e
      exact key g q5 q6 e
    · simp at h1
      subst h1
      refine ⟨rfl, gr, rfl, put hr hgr hne, hgr, ?_, by rw [hsz]; exact Nat.lt_of_lt_of_le hgl hg.size⟩
      simp only [Value.ownBlock]
      intro e; injection e with e
      exact key gr hne hgl e
  · have hl := h.t.1
    refine ⟨by simp [hl], fun j hj => ?_⟩
    by_cases e : j < i
    · have : rwI (te ++ [⟨some ⟨gr, 0, none⟩, n, cr, tr⟩]) j = rwI te j := by unfold rwI; simp [List.getD_eq_getElem?_getD, List.getElem?_append_left (show j < te.length by omega)]
      rw [this]
      exact h.t.2 j e
    · have e : j = i := by omega
      subst e
      have : rwI (te ++ [⟨some ⟨gr, 0, none⟩, n, cr, tr⟩]) j = ⟨some ⟨gr, 0, none⟩, n, cr, tr⟩ := by unfold rwI; rw [← hl]; simp [List.getD_eq_getElem?_getD]
      rw [this]
      exact hin
  · rw [hsz]; exact Nat.le_trans h.s hg.size
  · exact bset (h.b.trans (hb7.mono (by omega))) (p := ⟨w.heap.size + 1 + 1, 0, none⟩) (by show w.heap.size ≤ w.heap.size + 1 + 1; omega) _

set_option maxRecDepth 100000 in
set_option maxHeartbeats 8000000 in
theorem true4_any (E : Option Addr) (m ce : Nat) (L : Option Addr) (n cl : Nat) (rs : List (RowR (Int × Int))) (ls : List (Int × Int)) (A : Option Addr) (kb c : Nat) (zs : List Int) (w : World) (h : Cse w E m L n rs ls) (hc : CaseOk n ls m rs) (hz : U16s w A kb zs) (hk : kb ≤ 1000) :
    Calls Tryz.prog 13 #[.agg #[.slice E m ce, .slice L n cl], .slice A kb c] w fun e w' => ∃ AE cE AL cL tl te, e = .returned (.agg #[.slice AE 3 cE, .slice AL n cL]) ∧ RowsI w' AE 3 te ∧ Ints w' AL n tl ∧ TruIn n ls rs tl te ∧ Below w.heap.size w w' := by
  have Hc := Lib.hid hc
  have He := Lib.hid h.e
  have Hl := Lib.hid h.l
  have Hz := Lib.hid hz
  have hm3 : m = 3 := hc.2.2.1
  subst hm3
  have hn8 : n ≤ 8 := hc.2.1
  clear h hc hz
  go_enter Tryz.func13, Tryz.ntmps13
  have HJ : Hid (J1 w #[.slice E 3 ce, .slice L n cl] n 0 ls (.slice none 0 0) [] (((w.alloc (.cells #[.slice E 3 ce, .slice L n cl] 25)).alloc (.cells #[.slice none 0 0, .slice none 0 0] 32)).alloc (.cells #[.slice none 0 0, .slice none 0 0] 32))) :=
    Lib.hid ⟨csA, csA, csA, World.ownsRow_nil _ _ _ _, ⟨rfl, fun b hb => by omega⟩, by simp, blA⟩
  go_wp2_with fail
  go_loopw [6, 7] (fun s6 s7 wx => ∃ (i : Nat) (v : Value) (tl : List Int) (W : World), i ≤ n ∧ s6 = .int .i64 (i : Nat) ∧ s7 = .int .i64 (i : Nat) ∧ Hid (W = wx) ∧ Hid (J1 w #[.slice E 3 ce, .slice L n cl] n i ls v tl W)) (fun _ s7 _ => n - (intOf s7).toNat)
  case atStart => exact ⟨0, _, [], _, Nat.zero_le _, rfl, rfl, Lib.hid rfl, HJ⟩
  case round =>
    clear HJ
    obtain ⟨i, v, tl, W, hi, rfl, rfl, HW, HJ⟩ := hrel
    obtain rfl := HW.out
    clear HW
    have hbw := HJ.out.b
    by_cases hin : i < n
    · obtain ⟨b, off, rfl, hlt, q0, q1⟩ := Hl.out.atA hbw hin
      obtain ⟨x, y, hxy⟩ : ∃ x y, rgA ls i = (x, y) := ⟨_, _, rfl⟩
      have hok := (Hc.out.2.2.2.2 i hin).1
      rw [hxy] at q0 q1 hok
      obtain ⟨o1, o2, o3⟩ := hok
      dsimp only at q0 q1 o1 o2 o3
      have Hxy := Lib.hid hxy
      have B0 := HJ.out.c0
      have B2 := HJ.out.c2
      have cB0 := B0.c
      have fB0 := B0.f
      have lB0 := B0.lt
      have cB2 := B2.c
      have fB2 := B2.f
      have lB2 := B2.lt
      clear hxy
      go_wp2_with fail
      have HSt : Hid (∀ V, Below w.heap.size w V → Cs V w.heap.size #[.slice E 3 ce, .slice (some ⟨b, off, none⟩) n cl] → ST1 w.heap.size (.slice (some ⟨b, off, none⟩) n cl) b (off + i * 2) x y V) := Lib.hid (fun V hV hC => by
        obtain ⟨b', off', e, _, p0, p1⟩ := Hl.out.atA hV hin
        injection e with e
        injection e with e1 e2
        subst e1 e2
        rw [Hxy.out] at p0 p1
        exact ⟨hC.c 1, p0, p1⟩)
      refine wp_region_tree (S := ST1 w.heap.size (.slice (some ⟨b, off, none⟩) n cl) b (off + i * 2) x y) (.t 0 1 (.t 2 5 (.t 3 13 (.t 4 29 (.t 5 61 (.t 6 125 (.t 7 253 (.t 8 509 (.c 1 9 511 1021 (.o 9 1023 (.o 10 2047 (.o 11 4095 (.t 12 8191 (.o 13 16383 .nil))))) (.c 1 10 1023 2045 (.o 10 2047 (.o 11 4095 (.t 12 8191 (.o 13 16383 .nil)))) (.o 1 2047 (.o 11 4095 (.t 12 8191 (.o 13 16383 .nil)))))))))))))) (by kernel_rfl) (by kernel_rfl) (by as_aux_lemma => kernel_rfl) (by kernel_rfl) (fun c a d v w h => by cases d <;> exact h) ⟨cB0 1, q0, q1⟩ (fun hHeld => ?_)
      clear hHeld
      have hJ0 := HJ.out.keep (W' := W.drew) blA
      clear cB0 fB0 lB0 cB2 fB2 lB2 B0 B2 q0 q1 HJ hbw
      generalize W.drew = V0 at *
      iterate 8 (refine tree_take (v := ?_) rfl (by rfl) ?_ ?_; rotate_left; focus (intro w9 hSw; obtain ⟨s1, s2, s3⟩ := hSw; (go_simp; (try simp only [and_self, if_true, if_false]) <;> with_reducible rfl)); try simp only [Act.put, List.setIfInBounds_toArray, List.set_cons_zero, List.set_cons_succ])
      refine tree_two ?_ ?_
      case' refine_1 =>
        have c2 := hJ0.c2.c 1
        refine tree_one rfl (fun K9 hS9 => ?_)
        go_simp
        refine hS9.out _ _ (HSt.out _ hJ0.b hJ0.c0) (fun _ => ?_)
        clear hS9 K9 c2
        try simp only [Act.put, List.setIfInBounds_toArray, List.set_cons_zero, List.set_cons_succ]
        refine tree_one rfl (fun K9 hS9 => ?_)
        go_simp
        refine (pick4_any x y A kb c i zs _ (Hz.out.below hJ0.b) hk (by omega) o1 o2 (by omega)).mono ?_
        rintro e9 V1 ⟨⟨r, rfl, r1, r2⟩, hy⟩
        have hJ1 := hJ0.keep hy
        refine hS9.out _ _ (HSt.out _ hJ1.b hJ1.c0) (fun _ => ?_)
        clear hS9 K9 hJ0 hy
        try simp only [Act.put, List.setIfInBounds_toArray, List.set_cons_zero, List.set_cons_succ]
        refine tree_one rfl (fun K9 hS9 => ?_)
        go_simp
        have hJ2 := hJ1.keep (W' := V1.alloc (.cells #[.int .i64 r] 2)) blA
        have hg : (V1.alloc (.cells #[.int .i64 r] 2)).cell? ⟨V1.heap.size, 0, none⟩ = some (.int .i64 r) := by simp
        refine hS9.out _ _ (HSt.out _ hJ2.b hJ2.c0) (fun _ => ?_)
        clear hS9 K9 hJ1
        try simp only [Act.put, List.setIfInBounds_toArray, List.set_cons_zero, List.set_cons_succ]
        generalize V1.alloc (.cells #[.int .i64 r] 2) = V2 at *
        generalize V1.heap.size = g2 at *
      case' refine_2 =>
        refine tree_one rfl (fun K9 hS9 => ?_)
        go_simp
        refine (pick4_any x y A kb c i zs _ (Hz.out.below hJ0.b) hk (by omega) o1 o2 (by omega)).mono ?_
        rintro e9 V1 ⟨⟨r, rfl, r1, r2⟩, hy⟩
        have hJ1 := hJ0.keep hy
        refine hS9.out _ _ (HSt.out _ hJ1.b hJ1.c0) (fun _ => ?_)
        clear hS9 K9 hJ0 hy
        try simp only [Act.put, List.setIfInBounds_toArray, List.set_cons_zero, List.set_cons_succ]
        refine tree_two ?_ ?_
        case' refine_1 =>
          have c2 := hJ1.c2.c 1
          refine tree_one rfl (fun K9 hS9 => ?_)
          go_simp
          refine hS9.out _ _ (HSt.out _ hJ1.b hJ1.c0) (fun _ => ?_)
          clear hS9 K9 c2
          try simp only [Act.put, List.setIfInBounds_toArray, List.set_cons_zero, List.set_cons_succ]
          refine tree_one rfl (fun K9 hS9 => ?_)
          go_simp
          have hJ2 := hJ1.keep (W' := V1.alloc (.cells #[.int .i64 r] 2)) blA
          have hg : (V1.alloc (.cells #[.int .i64 r] 2)).cell? ⟨V1.heap.size, 0, none⟩ = some (.int .i64 r) := by simp
          refine hS9.out _ _ (HSt.out _ hJ2.b hJ2.c0) (fun _ => ?_)
          clear hS9 K9 hJ1
          try simp only [Act.put, List.setIfInBounds_toArray, List.set_cons_zero, List.set_cons_succ]
          generalize V1.alloc (.cells #[.int .i64 r] 2) = V2 at *
          generalize V1.heap.size = g2 at *
        case' refine_2 =>
          refine tree_one rfl (fun K9 hS9 => ?_)
          go_simp
          have hJ2 := hJ1.keep (W' := V1.alloc (.cells #[.int .i64 r] 2)) blA
          have hg : (V1.alloc (.cells #[.int .i64 r] 2)).cell? ⟨V1.heap.size, 0, none⟩ = some (.int .i64 r) := by simp
          refine hS9.out _ _ (HSt.out _ hJ2.b hJ2.c0) (fun _ => ?_)
          clear hS9 K9 hJ1
          try simp only [Act.put, List.setIfInBounds_toArray, List.set_cons_zero, List.set_cons_succ]
          generalize V1.alloc (.cells #[.int .i64 r] 2) = V2 at *
          generalize V1.heap.size = g2 at *
          have c2 := hJ2.c2.c 1
          refine tree_one rfl (fun K9 hS9 => ?_)
          go_simp
          refine hS9.out _ _ (HSt.out _ hJ2.b hJ2.c0) (fun _ => ?_)
          clear hS9 K9 c2
          try simp only [Act.put, List.setIfInBounds_toArray, List.set_cons_zero, List.set_cons_succ]
      all_goals
        refine tree_one rfl (fun K9 hS9 => ?_)
        rw [if_pos (by rfl)]
        refine wp_oneG elI64 _ _ rfl (w.heap.size + 1 + 1 + 1) i v _ (by rfl) hJ2.o g2 (.int .i64 r) (by rfl) hg rfl (by omega) hJ2.s ?_
        intro g6 c6 V3 hO6 hb6
        have D0 := hJ2.c0.keepB (by omega) hb6
        have D1 := hJ2.c1.keepB (by omega) hb6
        have D2 := hJ2.c2.keepB (by omega) hb6
        have hb3 : Below w.heap.size w V3 := hJ2.b.trans (hb6.mono (by omega))
        have hs3 : w.heap.size + 1 + 1 + 1 ≤ V3.heap.size := Nat.le_trans hJ2.s hb6.size
        have hT := hJ2.t
        refine hS9.out _ _ (HSt.out _ hb3 D0) (fun _ => ?_)
        clear hS9 K9 hJ2 hg hb6
        try simp only [Act.put, List.setIfInBounds_toArray, List.set_cons_zero, List.set_cons_succ]
        iterate 1 (refine tree_take (v := ?_) rfl (by rfl) ?_ ?_; rotate_left; focus (intro w9 hSw; obtain ⟨s1, s2, s3⟩ := hSw; (go_simp; (try simp only [and_self, if_true, if_false]) <;> with_reducible rfl)); try simp only [Act.put, List.setIfInBounds_toArray, List.set_cons_zero, List.set_cons_succ])
        have c2 := D2.c 1
        have f2 := D2.f 1
        refine tree_one rfl (fun K9 hS9 => ?_)
        go_simp
        have hK : J1 w #[.slice E 3 ce, .slice (some ⟨b, off, none⟩) n cl] n (i + 1) ls (.slice (some ⟨g6, 0, none⟩) (i + 1) c6) (tl ++ [r]) (V3.setCell ⟨w.heap.size + 1 + 1, 1, none⟩ (.slice (some ⟨g6, 0, none⟩) (i + 1) c6)) :=
          ⟨D0.other (p := ⟨w.heap.size + 1 + 1, 1, none⟩) (by show w.heap.size ≠ w.heap.size + 1 + 1; omega) _, D1.other (p := ⟨w.heap.size + 1 + 1, 1, none⟩) (by show w.heap.size + 1 ≠ w.heap.size + 1 + 1; omega) _, D2.set 1 _ (by simp),
            own_set (by simpa using hO6) (p := ⟨w.heap.size + 1 + 1, 1, none⟩) (by show w.heap.size + 1 + 1 < w.heap.size + 1 + 1 + 1; omega) _, hT.push (by rw [Hxy.out]; exact r1) (by rw [Hxy.out]; exact r2), by simpa [World.setCell] using hs3, bset hb3 (p := ⟨w.heap.size + 1 + 1, 1, none⟩) (by show w.heap.size ≤ w.heap.size + 1 + 1; omega) _⟩
        refine hS9.out _ _ (HSt.out _ hK.b hK.c0) (fun _ => ?_)
        clear hS9 K9 c2 f2 D0 D1 D2 hb3 hs3 hO6 hT
        try simp only [Act.put, List.setIfInBounds_toArray, List.set_cons_zero, List.set_cons_succ]
        refine tree_done (fun U => J1 w #[.slice E 3 ce, .slice (some ⟨b, off, none⟩) n cl] n (i + 1) ls (.slice (some ⟨g6, 0, none⟩) (i + 1) c6) (tl ++ [r]) U) hK (fun U hU => ?_)
        clear hK
        have HU := Lib.hid hU
        clear hU
        go_wp2_with fail
        go_roundw
        case rel => exact ⟨i + 1, _, _, _, by omega, by go_num, by go_num, Lib.hid rfl, HU⟩
        case measure => simp [intOf]; omega
    · obtain rfl : i = n := by omega
      have hn1 := Hc.out.1
      obtain ⟨gl, cL, rfl, hBl, hgl⟩ : ∃ gl cL, v = .slice (some ⟨gl, 0, none⟩) i cL ∧ w.heap.size + 1 + 1 + 1 ≤ gl ∧ gl < W.heap.size := by
        rcases HJ.out.o.2 with ⟨_, h0⟩ | ⟨g, cap, cur, e, hB, hg, _⟩
        · omega
        · exact ⟨g, cap, e, hB, (Array.getElem?_eq_some_iff.1 hg).1⟩
      have Htl := Lib.hid HJ.out.t
      have HJ2 : Hid (J2 w #[.slice E 3 ce, .slice L i cl] i 0 gl cL rs tl (.slice none 0 0) [] W) := by
        obtain ⟨A', c', e, hI, _⟩ := own_ints HJ.out.t.1 HJ.out.o
        injection e with e _ _
        subst e
        exact Lib.hid ⟨HJ.out.c0, HJ.out.c1, HJ.out.c2, World.ownsRow_nil _ _ _ _, ⟨hI, hBl, by simp [Value.ownBlock], hgl⟩, fun r hr => (by cases hr), ⟨rfl, fun j hj => by omega⟩, HJ.out.s, HJ.out.b⟩
      have B0 := HJ.out.c0
      clear HJ hbw hBl hgl
      have cB0 := B0.c
      have fB0 := B0.f
      have lB0 := B0.lt
      go_wp2_with fail
      clear B0 cB0 fB0 lB0
      go_loopw [6, 8] (fun s6 s8 wx => ∃ (k : Nat) (q : Nat) (v : Value) (te : List (RowR Int)) (W : World), k ≤ 3 ∧ q ≤ 8 + 8 * k ∧ s6 = .int .i64 (q : Nat) ∧ s8 = .int .i64 (k : Nat) ∧ Hid (W = wx) ∧ Hid (J2 w #[.slice E 3 ce, .slice L i cl] i k gl cL rs tl v te W)) (fun _ s8 _ => 3 - (intOf s8).toNat)
      case atStart => exact ⟨0, i, _, [], _, Nat.zero_le _, by omega, rfl, rfl, Lib.hid rfl, HJ2⟩
      case round =>
        clear HJ2
        obtain ⟨k, q, v, te, W, hk3, hq, rfl, rfl, HW, HJ⟩ := hrel
        obtain rfl := HW.out
        clear HW
        have B0 := HJ.out.c0
        have cB0 := B0.c
        have fB0 := B0.f
        have lB0 := B0.lt
        by_cases hkn : k < 3
        · have hki : (k : Int) < 3 := by omega
          have hbw := HJ.out.b
          obtain ⟨eb, eo, A', n', c', zs', rfl, hg, elt, c0, hp, hn'⟩ := He.out.atA hbw hkn
          obtain rfl : n' = i := by have := Hc.out.2.2.2.1 k hkn; rw [hg] at this; exact this
          have Hg := Lib.hid hg
          clear hg hp c0
          go_wp2_with fail
          clear B0 cB0 fB0 lB0
          go_loopw [6, 9, 10] (fun s6 s9 s10 wx => ∃ (j q' : Nat) (v' : Value) (tr : List Int) (V : World), j ≤ n' ∧ q' ≤ 8 + 8 * k + j ∧ s6 = .int .i64 (q' : Nat) ∧ v' = s9 ∧ s10 = .int .i64 (j : Nat) ∧ Hid (V = wx) ∧ Hid (V.ownsRow W.heap.size 2 1 v' j (tr.map (Value.int .i64))) ∧ Hid (InF (egA rs k) j tr) ∧ Below W.heap.size W V) (fun _ _ s10 _ => n' - (intOf s10).toNat)
          case atStart => exact ⟨0, q, _, [], _, Nat.zero_le _, by omega, rfl, rfl, rfl, Lib.hid rfl, Lib.hid (World.ownsRow_nil _ _ _ _), Lib.hid ⟨rfl, fun b hb => by omega⟩, blA⟩
          case round =>
            obtain ⟨j, q', v', tr, V, hj, hq', rfl, rfl, rfl, HV, HO, HI, hbV⟩ := hrel
            obtain rfl := HV.out
            clear HV
            have hJV := HJ.out.keep hbV
            have B0 := hJV.c0
            have hbwV := hJV.b
            obtain ⟨eb', eo', A2, n2, c2, zs2, ee, hg2, elt', c0, hp, hn2⟩ := He.out.atA hbwV hkn
            injection ee with ee
            injection ee with e1 e2
            subst e1 e2
            rw [Hg.out] at hg2
            injection hg2 with e1 e2 e3 e4
            subst e1 e2 e3 e4
            have cB0 := B0.c
            have fB0 := B0.f
            have lB0 := B0.lt
            by_cases hjn : j < n'
            · obtain ⟨pb, po, rfl, plt, p0, p1⟩ := hp.atA (Below.refl _ _) hjn
              obtain ⟨x, y, hxy⟩ : ∃ x y, rgA zs' j = (x, y) := ⟨_, _, rfl⟩
              have hok := (Hc.out.2.2.2.2 j hjn).2 k hkn
              have hxy2 : egA rs k j = (x, y) := by unfold egA; rw [Hg.out]; exact hxy
              rw [hxy] at p0 p1
              rw [hxy2] at hok
              obtain ⟨o1, o2, o3⟩ := hok
              dsimp only at p0 p1 o1 o2 o3
              have Hxy := Lib.hid hxy2
              have hbz := Hz.out.below hbwV
              have Hbz := Lib.hid hbz
              have hV0 := hbV.size
              clear hxy hxy2 hp hbz hJV
              go_wp2_with fail
              refine (pick4_any x y A kb c q' zs _ Hbz.out hk (by omega) o1 o2 (by omega)).mono ?_
              rintro e9 V1 ⟨⟨r, rfl, r1, r2⟩, hy⟩
              have hO1 := own_keep HO.out hy
              have hbV1 : Below W.heap.size W V1 := hbV.trans (hy.mono hV0)
              have hsV1 : W.heap.size ≤ V1.heap.size := hbV1.size
              have HI1 : Hid (InF (egA rs k) (j + 1) (tr ++ [r])) := Lib.hid (HI.out.push (by rw [Hxy.out]; exact r1) (by rw [Hxy.out]; exact r2))
              clear HO HI hbV Hbz Hxy r1 r2 B0 cB0 fB0 lB0 c0 p0 p1 hbwV hy hV0 o1 o2 o3
              go_wp2_with (at_builtin; refine list_one elI64 rfl _ _ rfl W.heap.size j _ tr (by rfl) (hO1.alloc _) V1.heap.size r (by rfl) (by simp) (by omega) (by simp; omega) ?_; intro g6 c6 V6 hO6 hb6)
              have hb6' : Below W.heap.size W V6 := hbV1.trans ((balloc' _ _ _ hsV1).trans hb6)
              clear hO1 hbV1 hsV1 hb6
              go_wp2_with fail
              go_roundw
              case rel => exact ⟨j + 1, q' + 1, _, _, _, by omega, by omega, by go_num, rfl, by go_num, Lib.hid rfl, Lib.hid hO6, HI1, hb6'⟩
              case measure => simp [intOf]; omega
            · obtain rfl : j = n' := by omega
              obtain ⟨gr, cr, rfl, hgr, hgl⟩ : ∃ gr cr, v' = .slice (some ⟨gr, 0, none⟩) j cr ∧ W.heap.size ≤ gr ∧ gr < V.heap.size := by
                rcases HO.out.2 with ⟨_, h0⟩ | ⟨g, cap, cur, e, hB, hg, _⟩
                · omega
                · exact ⟨g, cap, e, hB, (Array.getElem?_eq_some_iff.1 hg).1⟩
              have hI : Ints V (some ⟨gr, 0, none⟩) j tr := by
                obtain ⟨A', c', e, hI, _⟩ := own_ints HI.out.1 HO.out
                injection e with e _ _
                subst e
                exact hI
              have hov := HJ.out.o.lt
              have hne : v.ownBlock ≠ some gr := fun e => by have := hov gr e; omega
              have hws := HJ.out.s
              have hJ9 := hJV.keep (W' := V.alloc (.cells #[.slice (some ⟨gr, 0, none⟩) j cr] 30)) blA
              have Hn := Lib.hid (fun (g7 c7 : Nat) (W7 : World) ho hg hw => hJ9.next (hI.alloc (.cells #[.slice (some ⟨gr, 0, none⟩) j cr] 30)) (by omega) (by simp; omega) hne HI.out (cr := cr) (g7 := g7) (c7 := c7) (W7 := W7) ho hg hw)
              have HJ9 := Lib.hid hJ9
              have B2 := hJV.c2
              have cB2 := B2.c
              have fB2 := B2.f
              have lB2 := B2.lt
              clear hJ9 hJV hI hne hov HO HI hbV hbwV hp
              go_wp2_with (at_builtin; refine list_sliceG elRowI rfl _ _ rfl (w.heap.size + 1 + 1 + 1) k v (te.map rrV) (by rfl) HJ9.out.o V.heap.size (A := some ⟨gr, 0, none⟩) (m := j) (c := cr) (by rfl) (by simp) (by omega) HJ9.out.s ?_; intro g7 c7 W7 ho hg hw; obtain ⟨D2, hK⟩ := Hn.out g7 c7 W7 ho hg hw; have cD2 := D2.c; have fD2 := D2.f; have HK := Lib.hid hK; clear ho hg hw hK cB2 fB2 lB2 B2 cB0 fB0 lB0 B0)
              go_wp2_with fail
              go_roundw
              case rel => exact ⟨k + 1, q', _, _, _, by omega, by omega, rfl, by go_num, Lib.hid rfl, HK⟩
              case measure => simp [intOf]; omega
        · obtain rfl : k = 3 := by omega
          have B1 := HJ.out.c1
          have B2 := HJ.out.c2
          have cB1 := B1.c
          have fB1 := B1.f
          have lB1 := B1.lt
          have cB2 := B2.c
          have fB2 := B2.f
          have lB2 := B2.lt
          have hq : ∀ r ∈ te, Ints W r.A r.n r.zs ∧ r.n ≤ 9223372036854775807 := fun r hr => by
            obtain ⟨q1, g, q2, q3, _⟩ := HJ.out.r r hr
            rw [q1, q2]; exact ⟨q3, by omega⟩
          obtain ⟨AE, cE, rfl, -, -⟩ := own_rows HJ.out.t.1 HJ.out.o hq
          clear hq
          go_wp2_with fail
          have hle : w.heap.size + 1 < w.heap.size + 1 + 1 + 1 := by omega
          have hfin : ∃ te' : List (RowR Int), RowsI ((W.setCell ⟨w.heap.size + 1, 0, none⟩ (.slice AE 3 cE)).setCell ⟨w.heap.size + 1, 1, none⟩ (.slice (some ⟨gl, 0, none⟩) i cL)) AE 3 te' ∧ Ints ((W.setCell ⟨w.heap.size + 1, 0, none⟩ (.slice AE 3 cE)).setCell ⟨w.heap.size + 1, 1, none⟩ (.slice (some ⟨gl, 0, none⟩) i cL)) (some ⟨gl, 0, none⟩) i tl ∧ TruIn i ls rs tl te' := by
            have put : ∀ {g : Nat} {zs : List Int}, Ints W (some ⟨g, 0, none⟩) i zs → w.heap.size + 1 + 1 + 1 ≤ g → Ints ((W.setCell ⟨w.heap.size + 1, 0, none⟩ (.slice AE 3 cE)).setCell ⟨w.heap.size + 1, 1, none⟩ (.slice (some ⟨gl, 0, none⟩) i cL)) (some ⟨g, 0, none⟩) i zs := fun hz h1 =>
              (hz.other (p := ⟨w.heap.size + 1, 0, none⟩) (by show _ ≠ w.heap.size + 1; omega) _).other (p := ⟨w.heap.size + 1, 1, none⟩) (by show _ ≠ w.heap.size + 1; omega) _
            have ho2 := own_set (own_set HJ.out.o (p := ⟨w.heap.size + 1, 0, none⟩) hle (.slice AE 3 cE)) (p := ⟨w.heap.size + 1, 1, none⟩) hle (.slice (some ⟨gl, 0, none⟩) i cL)
            obtain ⟨A', c', e, hR, -⟩ := own_rows (Q := Ints) HJ.out.t.1 ho2 (fun r hr => by
              obtain ⟨q1, g, q2, q3, q4, _⟩ := HJ.out.r r hr
              rw [q1, q2]; exact ⟨put q3 q4, by omega⟩)
            injection e with e _ _
            subst e
            refine ⟨te, hR, put HJ.out.l.1 HJ.out.l.2.1, HJ.out.t.1, Htl.out.2, fun j hj => ?_, fun j b hj hb => (HJ.out.t.2 j hj).2 b hb⟩
            have hl := HJ.out.t.1
            have : rwI te j ∈ te := by unfold rwI; rw [List.getD_eq_getElem?_getD, List.getElem?_eq_getElem (by omega)]; exact List.getElem_mem _
            exact (HJ.out.r _ this).1
          have hbF : Below w.heap.size w ((W.setCell ⟨w.heap.size + 1, 0, none⟩ (.slice AE 3 cE)).setCell ⟨w.heap.size + 1, 1, none⟩ (.slice (some ⟨gl, 0, none⟩) i cL)) :=
            bset (bset HJ.out.b (p := ⟨w.heap.size + 1, 0, none⟩) (by show w.heap.size ≤ w.heap.size + 1; omega) _) (p := ⟨w.heap.size + 1, 1, none⟩) (by show w.heap.size ≤ w.heap.size + 1; omega) _
          obtain ⟨te', f1, f2, f3⟩ := hfin
          have D1 := B1.set2 (.slice AE 3 cE) (.slice (some ⟨gl, 0, none⟩) i cL)
          have cD1 := D1.c
          have fD1 := D1.f
          have lD1 := D1.lt
          exact bodyPost_ret (v := .agg #[.slice AE 3 cE, .slice (some ⟨gl, 0, none⟩) i cL]) (by simp [results, Tryz.results13, go_sem, cD1, fD1, lD1]) rfl ⟨AE, cE, some ⟨gl, 0, none⟩, cL, tl, te', rfl, f1, f2, f3, hbF⟩

end Go.Proofs.YtlbjnkopbabcnaaGreatDoor
end
