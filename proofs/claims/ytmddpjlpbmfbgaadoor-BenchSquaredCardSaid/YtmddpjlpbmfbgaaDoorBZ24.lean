/- BF1 BF2 BF3 BM8 -/
import Derived.Test.YtmddpjlpbmfbgaaDoorBZ16
import Derived.Test.YtmddpjlpbmfbgaaDoorBZ21
import Derived.Test.YtmddpjlpbmfbgaaDoorBZ01
import Derived.BigQuiet
import Derived.Test.YtmddpjlpbmfbgaaDoorBZ06
import Derived.Test.YtmddpjlpbmfbgaaDoorBZ05
/- Walks of the law package of layer 2: Powers, reached, number, pick, True, before. -/
section
namespace Go.Proofs.YtmddpjlpbmfbgaaDoor
open Go.RowKit Go.Shelf
set_option linter.unusedSimpArgs false
set_option linter.unusedVariables false

/-- a number of some numbers, turn by turn -/
def turnL (by_ : List Int) (i : Nat) : Int := if by_.length = 0 then 0 else by_.getD (i % by_.length) 0
/-- powers by numbers -/
def powL (n : Nat) (by_ : List Int) : List Int := (List.range n).map fun i => turnL by_ i % 100001
theorem powL_len (n : Nat) (by_ : List Int) : (powL n by_).length = n := by simp [powL]
theorem powL_succ (n : Nat) (by_ : List Int) : powL (n + 1) by_ = powL n by_ ++ [turnL by_ n % 100001] := by unfold powL; rw [List.range_succ]; simp
theorem powL_out (n : Nat) (by_ : List Int) : (powL n by_).any (out 0 100000) = false := by
  rw [List.any_eq_false]
  intro x hx
  unfold powL at hx
  obtain ⟨i, _, rfl⟩ := List.mem_map.1 hx
  unfold out
  simp; omega

set_option maxHeartbeats 4000000 in
theorem powers_any (n : Nat) (A : Option Addr) (m C : Nat) (zs : List Int) (w : World) (hz : U32s w A m zs) (hm : m ≤ 1000) (hn : n ≤ 12) :
    Calls Tryd.prog 29 #[.int .i64 (n : Nat), .slice A m C] w fun e w' => ∃ A' c, e = .returned (.slice A' n c) ∧ Ints w' A' n (powL n zs) ∧ n ≤ c ∧ Below w.heap.size w w' := by
  have Hz := Lib.hid hz
  have hl := hz.1
  clear hz
  go_enter Tryd.func29, Tryd.ntmps29
  go_wp2_with fail
  go_loopw [5, 6] (fun s5 s6 wx => ∃ (i : Nat) (W : World), i ≤ n ∧ s6 = .int .i64 (i : Nat) ∧ Hid (W = wx) ∧ Hid (W.ownsRow w.heap.size 2 1 s5 i ((powL i zs).map (Value.int .i64))) ∧ Below w.heap.size w W) (fun _ s6 _ => n - (intOf s6).toNat)
  case atStart => exact ⟨0, _, Nat.zero_le _, rfl, Lib.hid rfl, Lib.hid (by simp [powL]; exact World.ownsRow_nil _ _ _ _), blA⟩
  case round =>
    obtain ⟨i, W, hi, rfl, HW, HO, hbw⟩ := hrel
    obtain rfl := HW.out
    clear HW
    have hsw := hbw.size
    by_cases hin : i < n
    · have hs := powL_succ i zs
      by_cases hm0 : m = 0
      · subst hm0
        have ht : turnL zs i = 0 := by unfold turnL; rw [if_pos hl]
        have Hn : Hid (powL (i + 1) zs = powL i zs ++ [0]) := Lib.hid (by rw [hs, ht]; simp)
        clear hs ht
        go_wp2_with (at_builtin; refine list_one elI64 rfl _ _ rfl w.heap.size i _ (powL i zs) (by rfl) (HO.out.alloc _) W.heap.size 0 (by rfl) (by simp) (by omega) (by simp; omega) ?_; intro g6 c6 w6 hO6 hb6)
        go_wp2_with fail
        go_roundw
        case rel => exact ⟨i + 1, _, by omega, by go_num, Lib.hid rfl, Lib.hid (by rw [Hn.out]; exact hO6), hbw.trans ((balloc' _ _ _ hbw.size).trans hb6)⟩
        case measure => simp [intOf]; omega
      · have hmod : i % m < m := Nat.mod_lt _ (by omega)
        obtain ⟨b, off, rfl, hc, h1, h2⟩ := Hz.out.at_ hbw hmod
        have ht : turnL zs i = zs.getD (i % m) 0 := by unfold turnL; rw [if_neg (by omega), hl]
        have hm1 : (0 : Int) < (m : Int) := by omega
        have hmod' : (i : Int).tmod (m : Int) = ((i % m : Nat) : Int) := by rw [Int.tmod_eq_emod_of_nonneg (by omega)]; simp
        obtain ⟨q, hq⟩ : ∃ q, i % m = q := ⟨_, rfl⟩
        obtain ⟨y, hy⟩ : ∃ y, zs.getD (i % m) 0 = y := ⟨_, rfl⟩
        rw [hy] at hc h1 h2 ht
        rw [hq] at hc hmod hmod'
        have Hn : Hid (powL (i + 1) zs = powL i zs ++ [y % 100001]) := Lib.hid (by rw [hs, ht])
        have hyt : y.tmod 100001 = y % 100001 := Int.tmod_eq_emod_of_nonneg h1
        clear hs ht hy hq
        go_wp2_with (at_builtin; refine list_one elI64 rfl _ _ rfl w.heap.size i _ (powL i zs) (by rfl) (HO.out.alloc _) W.heap.size (y % 100001) (by rfl) (by simp) (by omega) (by simp; omega) ?_; intro g6 c6 w6 hO6 hb6)
        go_wp2_with fail
        go_roundw
        case rel => exact ⟨i + 1, _, by omega, by go_num, Lib.hid rfl, Lib.hid (by rw [Hn.out]; exact hO6), hbw.trans ((balloc' _ _ _ hbw.size).trans hb6)⟩
        case measure => simp [intOf]; omega
    · obtain rfl : i = n := by omega
      obtain ⟨A', c', rfl, hI, hcc⟩ := own_ints (powL_len _ _) HO.out
      have HI := Lib.hid hI
      clear hI HO
      go_wp2_with fail
      go_ret
      exact ⟨A', c', rfl, HI.out, hcc, hbw⟩

end Go.Proofs.YtmddpjlpbmfbgaaDoor
end

/- Appends to rows of the call's own, with what becomes of the other rows; the walk of sorted. -/
section
namespace Go.Proofs.YtmddpjlpbmfbgaaDoor
open Go.RowKit Go.Shelf
set_option linter.unusedSimpArgs false
set_option linter.unusedVariables false
open Bm (mxAt srt srtL)

/-- a row of numbers of the call's own -/
abbrev OwnI (W : World) (B g n c : Nat) (xs : List Int) : Prop := W.ownsRow B 2 1 (.slice (some ⟨g, 0, none⟩) n c) n (xs.map (Value.int .i64))
theorem OwnI.len {W : World} {B g n c : Nat} {xs : List Int} (h : OwnI W B g n c xs) : xs.length = n := by have := h.1; simpa using this
theorem OwnI.ints {W : World} {B g n c : Nat} {xs : List Int} (h : OwnI W B g n c xs) : Ints W (some ⟨g, 0, none⟩) n xs ∧ n ≤ c := by
  obtain ⟨A, c', e, hI, hc⟩ := own_ints h.len h
  injection e with e1 e2 e3
  subst e1 e3
  exact ⟨hI, hc⟩
theorem OwnI.lt {W : World} {B g n c : Nat} {xs : List Int} (h : OwnI W B g n c xs) : B ≤ g ∧ g < W.heap.size := by
  rcases h.2 with ⟨e, _⟩ | ⟨g1, cap, cur, e1, hbg, hgc, _⟩
  · cases e
  · injection e1 with e1; injection e1 with e1; injection e1 with e1
    subst e1
    exact ⟨hbg, (Array.getElem?_eq_some_iff.1 hgc).1⟩
theorem own_empty (w : World) : OwnI (w.alloc (.cells #[] 2)) w.heap.size w.heap.size 0 0 [] :=
  ⟨rfl, .inr ⟨w.heap.size, 0, #[], rfl, Nat.le_refl _, heap_alloc_new w _, Nat.le_refl _, by unfold maxLen; omega, rfl, rfl⟩⟩
theorem OwnI.cellw {W wr : World} {B g n c : Nat} {xs : List Int} (h : OwnI W B g n c xs) (hb : Below W.heap.size W wr) {k : Nat} (hk : k < n) : wr.cell? ⟨g, k, none⟩ = some (.int .i64 (xs.getD k 0)) := by
  obtain ⟨b, off, e, _, hc⟩ := (h.ints.1.below hb).2 (by omega)
  injection e with e
  injection e with e1 e2
  subst e1 e2
  have := hc k hk
  rwa [Nat.zero_add] at this
theorem own_emptyB {B : Nat} (w : World) (hB : B ≤ w.heap.size) : OwnI (w.alloc (.cells #[] 2)) B w.heap.size 0 0 [] :=
  ⟨rfl, .inr ⟨w.heap.size, 0, #[], rfl, hB, heap_alloc_new w _, Nat.le_refl _, by unfold maxLen; omega, rfl, rfl⟩⟩
theorem own_drew {B n : Nat} {w : World} {v : Value} {e : TypeId} {s : Nat} {xs : List Value} (h : w.ownsRow B e s v n xs) : w.drew.ownsRow B e s v n xs := h
theorem below_grew {B : Nat} {w w' : World} {ob : Option Nat} (hg : w.grownBy w' ob) (hob : ∀ g, ob = some g → B ≤ g) (hB : B ≤ w.heap.size) : Below B w w' :=
  ⟨hg.os, hg.tape, hg.output, hg.size, fun i hi => hg.block i (by omega) (fun h => by have := hob i h.symm; omega)⟩
theorem own_grew {w w' : World} {ob : Option Nat} {B : Nat} {e : TypeId} {s : Nat} {v : Value} {n : Nat} {xs : List Value} (h : w.ownsRow B e s v n xs) (hg : w.grownBy w' ob) (hne : ∀ g, v.ownBlock = some g → ob ≠ some g) : w'.ownsRow B e s v n xs := by
  refine ⟨h.1, ?_⟩
  rcases h.2 with h2 | ⟨g, cap, cur, rfl, hB, hgg, rest⟩
  · exact .inl h2
  · exact .inr ⟨g, cap, cur, rfl, hB, (hg.block g (Array.getElem?_eq_some_iff.1 hgg).1 (fun e => hne g rfl e.symm)).trans hgg, rest⟩

set_option maxRecDepth 100000 in
theorem run_ints {w : World} {B n : Nat} {v : Value} {xs : List Int} (hown : w.ownsRow B 2 1 v n (xs.map (Value.int .i64))) {b off m C : Nat} {ys : List Int} (hy : Ints w (some ⟨b, off, none⟩) m ys) (hv : 0 < m ∨ v ≠ .slice none 0 0) (hn : n + m ≤ 5000) (hB : B ≤ w.heap.size) :
    ∃ g' c' w', (∀ ty, (Builtin.append_ #[23, 23] ty #[v, .slice (some ⟨b, off, none⟩) m C]).run Tryd.prog w = .ok (.slice (some ⟨g', 0, none⟩) (n + m) c') w') ∧ OwnI w' B g' (n + m) c' (xs ++ ys) ∧ w.grownBy w' v.ownBlock ∧ (v.ownBlock = some g' ∨ w.heap.size ≤ g') := by
  obtain ⟨i, hi, hz0, hs, hby⟩ := info3R int64R_info
  have hnews : ∀ j u, (ys.map (Value.int .i64))[j]? = some u → w.cell? ((⟨b, off, none⟩ : Addr).add j) = some u := by
    intro j u hu
    rw [List.getElem?_map] at hu
    obtain ⟨x, hx, rfl⟩ := Option.map_eq_some_iff.1 hu
    have hj : j < m := by rw [← hy.1]; exact (List.getElem?_eq_some_iff.1 hx).1
    obtain ⟨b', off', e, _, hc⟩ := hy.2 (by omega)
    injection e with e
    injection e with e1 e2
    subst e1 e2
    have := hc j hj
    rw [List.getD_eq_getElem?_getD, hx] at this
    rw [Go.WideShapes.add_plain]
    exact this
  have h1 : ∀ u ∈ ys.map (Value.int .i64), u.oneCell' = true := by
    intro u hu
    obtain ⟨x, _, rfl⟩ := List.mem_map.1 hu
    rfl
  have hl : (ys.map (Value.int .i64)).length = m * 1 := by rw [List.length_map, hy.1, Nat.mul_one]
  have hl' : (ys.map (Value.int .i64)).length = m * i.size := by rw [hs]; exact hl
  obtain ⟨v', w', hr, ho, hg, hnil⟩ := run_append_own (P := Tryd.prog) w B 23 0 2 i (.int .i64 0) 1 8 Tryd.underlying23 hi hz0 hs hby rfl (by omega) v n _ hown ⟨b, off, none⟩ m C _ hl hnews h1 (by unfold maxLen; omega) (by omega) hB
  have hv' : v' ≠ .slice none 0 0 := fun e => by
    obtain ⟨e1, e2⟩ := hnil.1 e
    rcases hv with h | h
    · omega
    · exact h e1
  have ho2 : w'.ownsRow B 2 1 v' (n + m) ((xs ++ ys).map (Value.int .i64)) := by rw [List.map_append]; exact ho
  rcases ho2.2 with ⟨e, _⟩ | ⟨g', c', cur', rfl, hrest⟩
  · exact absurd e hv'
  · refine ⟨g', c', w', fun ty => hr, ho2, hg, ?_⟩
    rcases hown.2 with ⟨rfl, rfl⟩ | ⟨g, cap, cur, rfl, hbg, hgc, hnc, hcm, hcs, htake⟩
    · have hm : 0 < m := by
        rcases hv with h | h
        · exact h
        · exact absurd rfl h
      have h2 := run_append_nil (P := Tryd.prog) w 23 0 2 i (.int .i64 0) Tryd.underlying23 hi hz0 ⟨b, off, none⟩ m C _ hl' hnews hm (by omega) (by rw [hby]; omega)
      rw [h2] at hr
      injection hr with e1 e2
      injection e1 with e1
      injection e1 with e1
      injection e1 with e1
      exact .inr (by omega)
    · by_cases hroom : n + m ≤ cap
      · have h2 := run_append_room (P := Tryd.prog) w 23 0 2 i Tryd.underlying23 hi g n cap cur hgc ⟨b, off, none⟩ m C _ hl' hnews h1 hroom (by rw [hl', hcs, hs, ← Nat.add_mul]; exact Nat.mul_le_mul_right _ hroom)
        rw [h2] at hr
        injection hr with e1 e2
        injection e1 with e1
        injection e1 with e1
        injection e1 with e1
        exact .inl (by simp [Value.ownBlock, e1])
      · have holds : ∀ j u, (xs.map (Value.int .i64))[j]? = some u → w.cell? ((⟨g, 0, none⟩ : Addr).add j) = some u := hown.cells (g := g) rfl
        have h2 := run_append_grow (P := Tryd.prog) w 23 0 2 i (.int .i64 0) Tryd.underlying23 hi hz0 ⟨g, 0, none⟩ n cap (xs.map (Value.int .i64)) (by rw [hs]; exact hown.1) holds ⟨b, off, none⟩ m C _ hl' hnews (by omega) (by omega) (growslice_fits (by omega) (by rw [hby]; omega))
        rw [h2] at hr
        injection hr with e1 e2
        injection e1 with e1
        injection e1 with e1
        injection e1 with e1
        exact .inr (by omega)

theorem list_ints {ops : Array Oper} {rest : List Oper} {o : Oper} {a : Act} {w : World} {Q : Exit → Act → World → Prop} (hg : o.guard = none) (s x : Operand)
    (hop : o.op = Op.call { callee := Callee.builtin Builtin.append, args := #[s, x], argTypes := #[23, 23] })
    (B n : Nat) (v : Value) (xs : List Int) (hs : a.eval s = v) (hown : w.ownsRow B 2 1 v n (xs.map (Value.int .i64))) (b off m C : Nat) (ys : List Int) (hx : a.eval x = .slice (some ⟨b, off, none⟩) m C) (hy : Ints w (some ⟨b, off, none⟩) m ys) (hv : 0 < m ∨ v ≠ .slice none 0 0) (hn : n + m ≤ 5000) (hB : B ≤ w.heap.size)
    (hK : ∀ g' c' w', OwnI w' B g' (n + m) c' (xs ++ ys) → w.grownBy w' v.ownBlock → (v.ownBlock = some g' ∨ w.heap.size ≤ g') → wpList Tryd.prog ops Q rest (a.put o.dst (.slice (some ⟨g', 0, none⟩) (n + m) c')) w') : wpList Tryd.prog ops Q (o :: rest) a w := by
  obtain ⟨g', c', w', hr, ho, hgr, hw⟩ := run_ints (C := C) hown hy hv hn hB
  exact list_app hg s x hop hs hx hr (hK g' c' w' ho hgr hw)
theorem wp_ints {o : Oper} {a : Act} {w : World} {K : Act → World → Prop} {Q : Exit → Act → World → Prop} (s x : Operand)
    (hop : o.op = Op.call { callee := Callee.builtin Builtin.append, args := #[s, x], argTypes := #[23, 23] })
    (B n : Nat) (v : Value) (xs : List Int) (hs : a.eval s = v) (hown : w.ownsRow B 2 1 v n (xs.map (Value.int .i64))) (b off m C : Nat) (ys : List Int) (hx : a.eval x = .slice (some ⟨b, off, none⟩) m C) (hy : Ints w (some ⟨b, off, none⟩) m ys) (hv : 0 < m ∨ v ≠ .slice none 0 0) (hn : n + m ≤ 5000) (hB : B ≤ w.heap.size)
    (hK : ∀ g' c' w', OwnI w' B g' (n + m) c' (xs ++ ys) → w.grownBy w' v.ownBlock → (v.ownBlock = some g' ∨ w.heap.size ≤ g') → K (a.put o.dst (.slice (some ⟨g', 0, none⟩) (n + m) c')) w') : o.wp Tryd.prog a w K Q := by
  obtain ⟨g', c', w', hr, ho, hgr, hw⟩ := run_ints (C := C) hown hy hv hn hB
  unfold Oper.wp execOp
  simp only [hop, resolve, invoke, builtin, Sem.run_bind, Sem.run_pure, Result.andThen_ok, List.map_toArray, List.map_cons, List.map_nil, hs, hx, hr]
  exact hK g' c' w' ho hgr hw

theorem own_slice {w : World} {B n : Nat} {t : TypeId} {v : Value} {xs : List Value} (h : w.ownsRow B t 1 v n xs) (hn : 1 ≤ n) : ∃ g c, v = .slice (some ⟨g, 0, none⟩) n c := by
  rcases h.2 with ⟨_, h0⟩ | ⟨g, cap, cur, e, _⟩
  · omega
  · exact ⟨g, cap, e⟩
def slLen : Value → Nat
  | .slice _ n _ => n
  | _ => 0
theorem srt_step {k : Nat} {l : List Int} (h : l.length = k + 1) : srt (k + 1) l = l.getD (mxAt l k) 0 :: srt k (l.take (mxAt l k) ++ l.drop (mxAt l k + 1)) := by
  rw [srt, if_neg (by intro e; rw [e] at h; simp at h), show l.length - 1 = k by omega, List.eraseIdx_eq_take_drop_succ]

set_option maxRecDepth 100000 in
set_option maxHeartbeats 8000000 in
theorem sorted_own (A : Option Addr) (m C : Nat) (zs : List Int) (w : World) (hz : Ints w A m zs) (h1 : 1 ≤ m) (h12 : m ≤ 12) :
    Calls Tryd.prog 30 #[.slice A m C] w fun e w' => ∃ g c, e = .returned (.slice (some ⟨g, 0, none⟩) m c) ∧ OwnI w' w.heap.size g m c (srtL zs) ∧ Below w.heap.size w w' := by
  obtain ⟨b, off, rfl, hlt, _⟩ := hz.2 (by omega)
  have hzl := hz.1
  have Hz := Lib.hid hz
  have hoE := own_empty w
  have HoE := Lib.hid hoE
  have Hsr : Hid (srtL zs = srt m zs) := Lib.hid (by unfold srtL; rw [hzl])
  clear hz hoE
  go_enter Tryd.func30, Tryd.ntmps30
  go_wp2_with (at_builtin; refine list_ints rfl _ _ rfl w.heap.size 0 (.slice (some ⟨w.heap.size, 0, none⟩) 0 0) [] (by rfl) HoE.out b off m C zs (by rfl) (Hz.out.alloc _) (.inl (by omega)) (by omega) (by simp) ?_; intro g1 c1 w1 hO1 hg1 hw1)
  have hL1 : OwnI w1 w.heap.size g1 m c1 zs := by simpa using hO1
  have HL1 := Lib.hid hL1
  have hb1 : Below w.heap.size w w1 := (balloc (Below.refl _ _) _).trans (below_grew hg1 (fun g e => by simp [Value.ownBlock] at e; omega) (by simp))
  clear hO1 hg1 hw1 HoE hL1 Hz
  go_wp2_with fail
  go_loopw [3, 4] (fun s3 s4 wx => ∃ (len g c no : Nat) (L out : List Int) (W : World), s3 = .slice (some ⟨g, 0, none⟩) len c ∧ no + len = m ∧ Hid (W = wx) ∧ Hid (out ++ srt len L = srtL zs) ∧ Hid (out.length = no) ∧ Hid (OwnI W w.heap.size g len c L) ∧ Hid (W.ownsRow w.heap.size 2 1 s4 no (out.map (Value.int .i64))) ∧ Hid (s4.ownBlock ≠ some g) ∧ Below w.heap.size w W) (fun s3 _ _ => slLen s3)
  case atStart => exact ⟨m, g1, c1, 0, zs, [], _, rfl, by omega, Lib.hid rfl, Lib.hid (by rw [Hsr.out]; rfl), Lib.hid rfl, HL1, Lib.hid (World.ownsRow_nil _ _ _ _), Lib.hid (by simp [Value.ownBlock]), hb1⟩
  case round =>
    clear HL1 hb1
    obtain ⟨len, g, c, no, L, out, W, rfl, hnl, HW, HS, Hol, HL, HO, Hne, hbw⟩ := hrel
    obtain rfl := HW.out
    clear HW
    have hsw := hbw.size
    by_cases hlen : len = 0
    · subst hlen
      have hno : no = m := by omega
      subst hno
      have hout : out = srtL zs := by have := HS.out; simpa [srt] using this
      have HO2 := HO.out
      rw [hout] at HO2
      obtain ⟨g', c', hv⟩ := own_slice HO2 h1
      subst hv
      have HI : Hid (OwnI _ w.heap.size g' no c' (srtL zs)) := Lib.hid HO2
      clear HO2 HO HL HS Hne
      go_wp2_with fail
      go_ret
      exact ⟨g', c', rfl, HI.out, hbw⟩
    · have hlp : (0 : Int) < (len : Int) := by omega
      have hlN : 0 < len := by omega
      go_wp2_with fail
      go_loopw [5, 6] (fun s5 s6 wx => ∃ i : Nat, 1 ≤ i ∧ i ≤ len ∧ s6 = .int .i64 (i : Nat) ∧ Hid (s5 = .int .i64 (mxAt L (i - 1) : Nat)) ∧ Below W.heap.size W wx) (fun _ s6 _ => len - (intOf s6).toNat)
      case atStart => exact ⟨1, Nat.le_refl _, by omega, rfl, Lib.hid rfl, blA⟩
      case round =>
        obtain ⟨i, hi1, hil, rfl, Hat, hbr⟩ := hrel
        obtain rfl := Hat.out
        clear Hat
        obtain ⟨q, hq⟩ : ∃ q, mxAt L (i - 1) = q := ⟨_, rfl⟩
        have hql : q ≤ i - 1 := by rw [← hq]; exact Bm.mxAt_le _ _
        rw [hq]
        have cq := HL.out.cellw hbr (show q < len by omega)
        by_cases hin : i < len
        · have ci := HL.out.cellw hbr hin
          have hst : mxAt L i = if L.getD q 0 < L.getD i 0 then i else q := by
            obtain ⟨j, rfl⟩ : ∃ j, i = j + 1 := ⟨i - 1, by omega⟩
            rw [mxAt, show mxAt L j = q from hq]
          by_cases hlt2 : L.getD q 0 < L.getD i 0
          · have Hn : Hid (Value.int .i64 (i : Nat) = .int .i64 (mxAt L (i + 1 - 1) : Nat)) := Lib.hid (by rw [Nat.add_sub_cancel, hst, if_pos hlt2])
            clear hst hq
            generalize L.getD q 0 = x at *
            generalize L.getD i 0 = y at *
            go_wp2_with fail
            go_quiet (fail)
            go_wp2_with fail
            go_roundw
            case rel => exact ⟨i + 1, by omega, by omega, by go_num, Hn, blA⟩
            case measure => simp [intOf]; omega
          · have Hn : Hid (Value.int .i64 (q : Nat) = .int .i64 (mxAt L (i + 1 - 1) : Nat)) := Lib.hid (by rw [Nat.add_sub_cancel, hst, if_neg hlt2])
            clear hst hq
            generalize L.getD q 0 = x at *
            generalize L.getD i 0 = y at *
            go_wp2_with fail
            go_quiet (fail)
            go_wp2_with fail
            go_roundw
            case rel => exact ⟨i + 1, by omega, by omega, by go_num, Hn, blA⟩
            case measure => simp [intOf]; omega
        · have hie : i = len := by omega
          subst hie
          have hLl := HL.out.len
          have hstep : srt i L = L.getD q 0 :: srt (i - 1) (L.take q ++ L.drop (q + 1)) := by
            obtain ⟨j, rfl⟩ : ∃ j, i = j + 1 := ⟨i - 1, by omega⟩
            rw [srt_step hLl, show mxAt L j = q from hq]; rfl
          have HS2 : Hid ((out ++ [L.getD q 0]) ++ srt (i - 1) (L.take q ++ L.drop (q + 1)) = srtL zs) := Lib.hid (by rw [← HS.out, hstep]; simp)
          obtain ⟨y, hy⟩ : ∃ y, L.getD q 0 = y := ⟨_, rfl⟩
          rw [hy] at cq HS2
          obtain ⟨hgB, hgW⟩ := HL.out.lt
          have hcl := HL.out.ints.2
          have hsr := hbr.size
          have HLr := Lib.hid (own_keep HL.out hbr)
          have HOr := Lib.hid (own_keep HO.out hbr)
          have hbwr := hbw.trans (hbr.mono hsw)
          clear HL HO HS hstep hq hy hbr hbw
          go_wp2_with (at_builtin; refine list_ints rfl _ _ rfl w.heap.size no _ out (by rfl) (own_keep HOr.out (balloc (Below.refl _ _) _)) wr.heap.size 0 1 1 [y] (by rfl) (Ints.new1 _ _ _ _ rfl) (.inl (by omega)) (by omega) (by simp; omega) ?_; intro g2 c2 w2 hO2 hg2 hw2)
          have hL2 := own_grew (own_keep HLr.out (balloc (Below.refl _ _) (.cells #[.int .i64 y] 2))) hg2 (fun g' e e2 => by
            have e' : g = g' := by simpa [Value.ownBlock] using e
            exact Hne.out (by rw [e']; exact e2))
          have hO2lt := hO2.lt
          have hbw2 : Below w.heap.size w w2 := hbwr.trans ((balloc' _ _ _ (by omega)).trans (below_grew hg2 (fun g e => by have := HOr.out.lt g e; omega) (by simp; omega)))
          have hg2s := hg2.size
          have hne2 : g2 ≠ g := by
            rcases hw2 with h | h
            · intro e; exact Hne.out (by rw [h, e])
            · simp at h; omega
          have hgl2 : g < w2.heap.size := by simp at hg2s; omega
          have hws2 := hbw2.size
          clear hg2 hw2 HLr HOr hbwr cq
          have f1 : (0 : Int) ≤ (q : Int) := by omega
          have f2 : (q : Int) ≤ (c : Int) := by omega
          have f3 : (0 : Int) ≤ (q : Int) + 1 := by omega
          have f4 : (q : Int) + 1 ≤ (i : Int) := by omega
          have f5 : (i : Int) ≤ (c : Int) := by omega
          have fw : IntKind.i64.wrap ((q : Int) + 1) = (q : Int) + 1 := IntWalk.i64_in _ (by omega)
          by_cases hcq : c = q + 1
          · subst hcq
            have f7 : ¬ ((q : Int) + 1 < (q : Int)) := by omega
            have f8 : i = q + 1 := by omega
            subst f8
            have hI2 : Ints w2 (some ⟨g, 0, none⟩) (q + 1) L := OwnI.ints (B := w.heap.size) (c := q + 1) hL2 |>.1
            refine wp_region_seq (S := fun _ => True) [.t 1 2, .t 2 6, .t 3 14, .t 5 46, .t 6 110, .t 7 238, .t 8 494, .o 0 495, .o 4 511, .o 9 1023, .t 10 2047] (by kernel_rfl) (by kernel_rfl) (by as_aux_lemma => kernel_rfl) (by kernel_rfl) (fun c a d v w h => by cases d <;> exact h) trivial (fun _ => ?_)
            refine seq_take (v := .slice (some ⟨g, 0, none⟩) (q + 1) (q + 1)) rfl (by rfl) ?_ ?_
            · intro w9 hSw; go_simp
            try simp only [Act.put, List.setIfInBounds_toArray, List.set_cons_zero, List.set_cons_succ]
            refine seq_take (v := .int .i64 (q : Nat)) rfl (by rfl) ?_ ?_
            · intro w9 hSw; go_simp
            try simp only [Act.put, List.setIfInBounds_toArray, List.set_cons_zero, List.set_cons_succ]
            refine seq_take (v := .slice (some ⟨g, 0, none⟩) q (q + 1)) rfl (by rfl) ?_ ?_
            · intro w9 hSw; go_simp
            try simp only [Act.put, List.setIfInBounds_toArray, List.set_cons_zero, List.set_cons_succ]
            refine seq_take (v := .slice (some ⟨g, 0, none⟩) (q + 1) (q + 1)) rfl (by rfl) ?_ ?_
            · intro w9 hSw; go_simp
            try simp only [Act.put, List.setIfInBounds_toArray, List.set_cons_zero, List.set_cons_succ]
            refine seq_take (v := .int .i64 (q : Nat)) rfl (by rfl) ?_ ?_
            · intro w9 hSw; go_simp
            try simp only [Act.put, List.setIfInBounds_toArray, List.set_cons_zero, List.set_cons_succ]
            refine seq_take (v := .int .i64 ((q : Int) + 1)) rfl (by rfl) ?_ ?_
            · intro w9 hSw; go_simp
            try simp only [Act.put, List.setIfInBounds_toArray, List.set_cons_zero, List.set_cons_succ]
            refine seq_take (v := .slice (some ⟨g, 0, none⟩) 0 0) rfl (by rfl) ?_ ?_
            · intro w9 hSw; go_simp
            try simp only [Act.put, List.setIfInBounds_toArray, List.set_cons_zero, List.set_cons_succ]
            refine seq_one rfl (fun K9 hS9 => ?_)
            go_simp
            refine hS9.out _ _ trivial (fun _ => ?_)
            clear hS9 K9
            try simp only [Act.put, List.setIfInBounds_toArray, List.set_cons_zero, List.set_cons_succ]
            have hE : OwnI ((w2.alloc (.cells #[] 2)).drew) w.heap.size w2.heap.size 0 0 [] := own_drew (own_emptyB w2 (by omega))
            have hB3 : Below w2.heap.size w2 ((w2.alloc (.cells #[] 2)).drew) := (balloc (Below.refl _ _) _).drew
            have hs3 : ((w2.alloc (.cells #[] 2)).drew).heap.size = w2.heap.size + 1 := by simp
            generalize ((w2.alloc (.cells #[] 2)).drew) = w3 at *
            have hO3 := own_keep hO2 hB3
            have hL3 := own_keep hL2 hB3
            have hI3 := hI2.below hB3
            refine seq_one rfl (fun K9 hS9 => ?_)
            rw [if_pos (by rfl)]
            refine wp_ints _ _ rfl w.heap.size 0 (.slice (some ⟨w2.heap.size, 0, none⟩) 0 0) [] rfl hE g 0 q (q + 1) (L.take q) rfl (hI3.pre q (by omega)) (.inr (by simp)) (by omega) (by omega) ?_
            intro g4 c4 w4 hO4 hg4 hw4
            have hO5 := own_grew hO3 hg4 (fun g' e e2 => by simp [Value.ownBlock] at e e2; omega)
            have hL5 := own_grew hL3 hg4 (fun g' e e2 => by simp [Value.ownBlock] at e e2; omega)
            have hI5 : Ints w4 (some ⟨g, 0, none⟩) (q + 1) L := OwnI.ints (B := w.heap.size) (c := q + 1) hL5 |>.1
            have hg4lt : g2 < g4 ∧ g < g4 := by
              rcases hw4 with h | h
              · simp [Value.ownBlock] at h; omega
              · omega
            have hg4ge : w2.heap.size ≤ g4 := by
              rcases hw4 with h | h
              · simp [Value.ownBlock] at h; omega
              · omega
            have hs4 := hg4.size
            refine hS9.out _ _ trivial (fun _ => ?_)
            clear hS9 K9
            try simp only [Act.put, List.setIfInBounds_toArray, List.set_cons_zero, List.set_cons_succ]
            refine seq_one rfl (fun K9 hS9 => ?_)
            rw [if_pos (by rfl)]
            refine wp_ints _ _ rfl w.heap.size (0 + q) (.slice (some ⟨g4, 0, none⟩) (0 + q) c4) ([] ++ L.take q) rfl hO4 g (0) 0 0 (L.drop (q + 1)) rfl ((by rw [List.drop_of_length_le (by omega)]; exact Ints.nil _ _)) (.inr (by simp)) (by omega) (by omega) ?_
            intro g6 c6 w6 hO6 hg6 hw6
            have hO7 := own_grew hO5 hg6 (fun g' e e2 => by simp [Value.ownBlock] at e e2; omega)
            have hs6 := hg6.size
            have hg4' := hO4.lt
            have hne : g2 ≠ g6 := by
              rcases hw6 with h | h
              · simp [Value.ownBlock] at h; omega
              · omega
            have hb26 : Below w2.heap.size w2 w6 := (hB3.trans (below_grew hg4 (fun g e => by simp [Value.ownBlock] at e; omega) (by omega))).trans (below_grew hg6 (fun g e => by simp [Value.ownBlock] at e; omega) (by omega))
            refine hS9.out _ _ trivial (fun _ => ?_)
            clear hS9 K9
            try simp only [Act.put, List.setIfInBounds_toArray, List.set_cons_zero, List.set_cons_succ]
            refine seq_take (v := .slice (some ⟨g6, 0, none⟩) (0 + q + 0) c6) rfl (by rfl) ?_ ?_
            · intro w9 hSw; go_simp
            try simp only [Act.put, List.setIfInBounds_toArray, List.set_cons_zero, List.set_cons_succ]
            refine seq_done ?_
            have HO6 : Hid (OwnI w6 w.heap.size g6 (0 + q + 0) c6 (L.take q ++ L.drop (q + 1))) := Lib.hid (by simpa using hO6)
            have HO7 := Lib.hid hO7
            have hbw6 := hbw2.trans (hb26.mono hbw2.size)
            clear hO2 hL2 hI2 hE hO3 hL3 hI3 hO4 hg4 hO5 hL5 hI5 hO6 hg6 hO7 hw4 hw6 hb26 hB3
            go_wp2_with fail
            go_roundw
            case rel => exact ⟨_, g6, c6, no + 1, _, _, _, rfl, by omega, Lib.hid rfl, by (first | (rw [show 0 + q + 0 = q + 1 - 1 by omega]; exact HS2) | (rw [show q + 0 = q + 1 - 1 by omega]; exact HS2)), Lib.hid (by simp [Hol.out]), HO6, HO7, Lib.hid (by simp [Value.ownBlock]; omega), hbw6⟩
            case measure => first | (simp [slLen]; done) | (simp [slLen]; omega)
          · have f6 : ¬ c - (q + 1) = 0 := by omega
            have f7 : ¬ q + 1 = c := by omega
            have f8 : q + 1 < c := by omega
            have hI2 : Ints w2 (some ⟨g, 0, none⟩) i L := OwnI.ints (B := w.heap.size) (c := c) hL2 |>.1
            refine wp_region_seq (S := fun _ => True) [.t 1 2, .t 2 6, .t 3 14, .t 5 46, .t 6 110, .t 7 238, .t 8 494, .o 0 495, .o 4 511, .o 9 1023, .t 10 2047] (by kernel_rfl) (by kernel_rfl) (by as_aux_lemma => kernel_rfl) (by kernel_rfl) (fun c a d v w h => by cases d <;> exact h) trivial (fun _ => ?_)
            refine seq_take (v := .slice (some ⟨g, 0, none⟩) i c) rfl (by rfl) ?_ ?_
            · intro w9 hSw; go_simp
            try simp only [Act.put, List.setIfInBounds_toArray, List.set_cons_zero, List.set_cons_succ]
            refine seq_take (v := .int .i64 (q : Nat)) rfl (by rfl) ?_ ?_
            · intro w9 hSw; go_simp
            try simp only [Act.put, List.setIfInBounds_toArray, List.set_cons_zero, List.set_cons_succ]
            refine seq_take (v := .slice (some ⟨g, 0, none⟩) q c) rfl (by rfl) ?_ ?_
            · intro w9 hSw; go_simp
            try simp only [Act.put, List.setIfInBounds_toArray, List.set_cons_zero, List.set_cons_succ]
            refine seq_take (v := .slice (some ⟨g, 0, none⟩) i c) rfl (by rfl) ?_ ?_
            · intro w9 hSw; go_simp
            try simp only [Act.put, List.setIfInBounds_toArray, List.set_cons_zero, List.set_cons_succ]
            refine seq_take (v := .int .i64 (q : Nat)) rfl (by rfl) ?_ ?_
            · intro w9 hSw; go_simp
            try simp only [Act.put, List.setIfInBounds_toArray, List.set_cons_zero, List.set_cons_succ]
            refine seq_take (v := .int .i64 ((q : Int) + 1)) rfl (by rfl) ?_ ?_
            · intro w9 hSw; go_simp
            try simp only [Act.put, List.setIfInBounds_toArray, List.set_cons_zero, List.set_cons_succ]
            refine seq_take (v := .slice (some ⟨g, q + 1, none⟩) (i - (q + 1)) (c - (q + 1))) rfl (by rfl) ?_ ?_
            · intro w9 hSw; go_simp
            try simp only [Act.put, List.setIfInBounds_toArray, List.set_cons_zero, List.set_cons_succ]
            refine seq_one rfl (fun K9 hS9 => ?_)
            go_simp
            refine hS9.out _ _ trivial (fun _ => ?_)
            clear hS9 K9
            try simp only [Act.put, List.setIfInBounds_toArray, List.set_cons_zero, List.set_cons_succ]
            have hE : OwnI ((w2.alloc (.cells #[] 2)).drew) w.heap.size w2.heap.size 0 0 [] := own_drew (own_emptyB w2 (by omega))
            have hB3 : Below w2.heap.size w2 ((w2.alloc (.cells #[] 2)).drew) := (balloc (Below.refl _ _) _).drew
            have hs3 : ((w2.alloc (.cells #[] 2)).drew).heap.size = w2.heap.size + 1 := by simp
            generalize ((w2.alloc (.cells #[] 2)).drew) = w3 at *
            have hO3 := own_keep hO2 hB3
            have hL3 := own_keep hL2 hB3
            have hI3 := hI2.below hB3
            refine seq_one rfl (fun K9 hS9 => ?_)
            rw [if_pos (by rfl)]
            refine wp_ints _ _ rfl w.heap.size 0 (.slice (some ⟨w2.heap.size, 0, none⟩) 0 0) [] rfl hE g 0 q c (L.take q) rfl (hI3.pre q (by omega)) (.inr (by simp)) (by omega) (by omega) ?_
            intro g4 c4 w4 hO4 hg4 hw4
            have hO5 := own_grew hO3 hg4 (fun g' e e2 => by simp [Value.ownBlock] at e e2; omega)
            have hL5 := own_grew hL3 hg4 (fun g' e e2 => by simp [Value.ownBlock] at e e2; omega)
            have hI5 : Ints w4 (some ⟨g, 0, none⟩) i L := OwnI.ints (B := w.heap.size) (c := c) hL5 |>.1
            have hg4lt : g2 < g4 ∧ g < g4 := by
              rcases hw4 with h | h
              · simp [Value.ownBlock] at h; omega
              · omega
            have hg4ge : w2.heap.size ≤ g4 := by
              rcases hw4 with h | h
              · simp [Value.ownBlock] at h; omega
              · omega
            have hs4 := hg4.size
            refine hS9.out _ _ trivial (fun _ => ?_)
            clear hS9 K9
            try simp only [Act.put, List.setIfInBounds_toArray, List.set_cons_zero, List.set_cons_succ]
            refine seq_one rfl (fun K9 hS9 => ?_)
            rw [if_pos (by rfl)]
            refine wp_ints _ _ rfl w.heap.size (0 + q) (.slice (some ⟨g4, 0, none⟩) (0 + q) c4) ([] ++ L.take q) rfl hO4 g (q + 1) (i - (q + 1)) (c - (q + 1)) (L.drop (q + 1)) rfl ((by have := hI5.suf (q + 1) (by omega); rwa [Nat.zero_add] at this)) (.inr (by simp)) (by omega) (by omega) ?_
            intro g6 c6 w6 hO6 hg6 hw6
            have hO7 := own_grew hO5 hg6 (fun g' e e2 => by simp [Value.ownBlock] at e e2; omega)
            have hs6 := hg6.size
            have hg4' := hO4.lt
            have hne : g2 ≠ g6 := by
              rcases hw6 with h | h
              · simp [Value.ownBlock] at h; omega
              · omega
            have hb26 : Below w2.heap.size w2 w6 := (hB3.trans (below_grew hg4 (fun g e => by simp [Value.ownBlock] at e; omega) (by omega))).trans (below_grew hg6 (fun g e => by simp [Value.ownBlock] at e; omega) (by omega))
            refine hS9.out _ _ trivial (fun _ => ?_)
            clear hS9 K9
            try simp only [Act.put, List.setIfInBounds_toArray, List.set_cons_zero, List.set_cons_succ]
            refine seq_take (v := .slice (some ⟨g6, 0, none⟩) (0 + q + (i - (q + 1))) c6) rfl (by rfl) ?_ ?_
            · intro w9 hSw; go_simp
            try simp only [Act.put, List.setIfInBounds_toArray, List.set_cons_zero, List.set_cons_succ]
            refine seq_done ?_
            have HO6 : Hid (OwnI w6 w.heap.size g6 (0 + q + (i - (q + 1))) c6 (L.take q ++ L.drop (q + 1))) := Lib.hid (by simpa using hO6)
            have HO7 := Lib.hid hO7
            have hbw6 := hbw2.trans (hb26.mono hbw2.size)
            clear hO2 hL2 hI2 hE hO3 hL3 hI3 hO4 hg4 hO5 hL5 hI5 hO6 hg6 hO7 hw4 hw6 hb26 hB3
            go_wp2_with fail
            go_roundw
            case rel => exact ⟨_, g6, c6, no + 1, _, _, _, rfl, by omega, Lib.hid rfl, by (first | (rw [show 0 + q + (i - (q + 1)) = i - 1 by omega]; exact HS2) | (rw [show q + (i - (q + 1)) = i - 1 by omega]; exact HS2)), Lib.hid (by simp [Hol.out]), HO6, HO7, Lib.hid (by simp [Value.ownBlock]; omega), hbw6⟩
            case measure => first | (simp [slLen]; done) | (simp [slLen]; omega)

theorem sorted_any (A : Option Addr) (m C : Nat) (zs : List Int) (w : World) (hz : Ints w A m zs) (h1 : 1 ≤ m) (h12 : m ≤ 12) :
    Calls Tryd.prog 30 #[.slice A m C] w fun e w' => ∃ A' c, e = .returned (.slice A' m c) ∧ Ints w' A' m (srtL zs) ∧ m ≤ c ∧ Below w.heap.size w w' := by
  refine (sorted_own A m C zs w hz h1 h12).mono ?_
  rintro _ w1 ⟨g, c, rfl, hO, hb⟩
  exact ⟨some ⟨g, 0, none⟩, c, rfl, hO.ints.1, hO.ints.2, hb⟩

end Go.Proofs.YtmddpjlpbmfbgaaDoor
end

/- Walks of the law package of layer 2: reached, before, number, pick. -/
section
namespace Go.Proofs.YtmddpjlpbmfbgaaDoor
open Go.RowKit Go.Shelf
set_option linter.unusedSimpArgs false
set_option linter.unusedVariables false

/-- how many of the first limits a power reaches -/
def reaK (ls : List Int) (x : Int) : Nat → Nat
  | 0 => 0
  | k + 1 => reaK ls x k + if ls.getD k 0 % 100001 ≤ x then 1 else 0
def reaL (ls : List Int) (x : Int) : Int := ((reaK ls x ls.length : Nat) : Int)
theorem reaK_le (ls : List Int) (x : Int) : ∀ k, reaK ls x k ≤ k
  | 0 => Nat.le_refl _
  | k + 1 => by have := reaK_le ls x k; rw [reaK]; split <;> omega
theorem reaK_mono (ls : List Int) {x y : Int} (h : x ≤ y) : ∀ k, reaK ls x k ≤ reaK ls y k
  | 0 => Nat.le_refl _
  | k + 1 => by have := reaK_mono ls h k; rw [reaK, reaK]; split <;> split <;> omega
theorem reaL_mono (ls : List Int) : Bm.Mono (reaL ls) := fun a b h => by unfold reaL; have := reaK_mono ls h ls.length; omega
theorem reaL_bd (ls : List Int) (x : Int) (h : ls.length ≤ 20) : 0 ≤ reaL ls x ∧ reaL ls x ≤ 20 := by unfold reaL; have := reaK_le ls x ls.length; omega

set_option maxHeartbeats 4000000 in
theorem reached_any (A B : Option Addr) (n C m D : Nat) (xs ls : List Int) (w : World) (hx : Ints w A n xs) (hl : U32s w B m ls) (hn : n ≤ 1000) (hm : m ≤ 20) :
    Calls Tryd.prog 35 #[.slice A n C, .slice B m D] w fun e w' => ∃ A' c, e = .returned (.slice A' n c) ∧ Ints w' A' n (xs.map (reaL ls)) ∧ n ≤ c ∧ Below w.heap.size w w' := by
  have hxl := hx.1
  have hll := hl.1
  have Hx := Lib.hid hx
  have Hl := Lib.hid hl
  clear hx hl
  go_enter Tryd.func35, Tryd.ntmps35
  go_wp2_with fail
  go_loopw [5, 6] (fun s5 s6 wx => ∃ (i : Nat) (W : World), i ≤ n ∧ s6 = .int .i64 (i : Nat) ∧ Hid (W = wx) ∧ Hid (W.ownsRow w.heap.size 2 1 s5 i (((xs.map (reaL ls)).take i).map (Value.int .i64))) ∧ Below w.heap.size w W) (fun _ s6 _ => n - (intOf s6).toNat)
  case atStart => exact ⟨0, _, Nat.zero_le _, rfl, Lib.hid rfl, Lib.hid (by simp; exact World.ownsRow_nil _ _ _ _), blA⟩
  case round =>
    obtain ⟨i, W, hi, rfl, HW, HO, hbw⟩ := hrel
    obtain rfl := HW.out
    clear HW
    have hsw := hbw.size
    by_cases hin : i < n
    · obtain ⟨b, off, rfl, _, ci⟩ := Hx.out.at0 hbw hin
      have hst : (xs.map (reaL ls)).take (i + 1) = (xs.map (reaL ls)).take i ++ [reaL ls (xs.getD i 0)] := by
        rw [List.take_add_one, List.getElem?_map, List.getD_eq_getElem?_getD, List.getElem?_eq_getElem (by omega)]; rfl
      obtain ⟨x, hxx⟩ : ∃ x, xs.getD i 0 = x := ⟨_, rfl⟩
      rw [hxx] at ci hst
      have Hst := Lib.hid hst
      have hlt := World.block_lt_of_cell? W _ ci
      clear hst hxx
      go_wp2_with fail
      go_loopw [7, 8] (fun s7 s8 wx => ∃ k : Nat, k ≤ m ∧ s8 = .int .i64 (k : Nat) ∧ s7 = .int .i64 (reaK ls x k : Nat) ∧ Below W.heap.size W wx) (fun _ s8 _ => m - (intOf s8).toNat)
      case atStart => exact ⟨0, Nat.zero_le _, rfl, rfl, blA⟩
      case round =>
        obtain ⟨k, hk, rfl, rfl, hbr⟩ := hrel
        have hrk := reaK_le ls x k
        by_cases hkm : k < m
        · obtain ⟨b2, off2, rfl, ck, h1, h2⟩ := Hl.out.at_ (hbw.trans (hbr.mono hsw)) hkm
          have cr := (hbr.cell (p := ⟨b, off + i, none⟩) hlt).trans ci
          have hst2 : reaK ls x (k + 1) = reaK ls x k + if ls.getD k 0 % 100001 ≤ x then 1 else 0 := rfl
          obtain ⟨y, hy⟩ : ∃ y, ls.getD k 0 = y := ⟨_, rfl⟩
          rw [hy] at ck h1 h2 hst2
          have hyt : y.tmod 100001 = y % 100001 := Int.tmod_eq_emod_of_nonneg h1
          by_cases hle : y % 100001 ≤ x
          · have Hn : Hid (reaK ls x (k + 1) = reaK ls x k + 1) := Lib.hid (by rw [hst2, if_pos hle])
            clear hst2 hy ci
            generalize reaK ls x k = r at *
            go_wp2_with fail
            go_quiet (fail)
            go_wp2_with fail
            go_roundw
            case rel => exact ⟨k + 1, by omega, by go_num, by rw [Hn.out]; go_num, blA⟩
            case measure => simp [intOf]; omega
          · have Hn : Hid (reaK ls x (k + 1) = reaK ls x k) := Lib.hid (by rw [hst2, if_neg hle]; rfl)
            clear hst2 hy ci
            generalize reaK ls x k = r at *
            go_wp2_with fail
            go_quiet (fail)
            go_wp2_with fail
            go_roundw
            case rel => exact ⟨k + 1, by omega, by go_num, by rw [Hn.out], blA⟩
            case measure => simp [intOf]; omega
        · have hkm' : k = m := by omega
          subst hkm'
          have hre : reaL ls x = ((reaK ls x k : Nat) : Int) := by unfold reaL; rw [hll]
          rw [hre] at Hst
          have HO2 := Lib.hid (own_keep HO.out hbr)
          have hsr := hbr.size
          have hbr2 := hbw.trans (hbr.mono hsw)
          clear HO hre
          generalize reaK ls x k = r at *
          go_wp2_with (at_builtin; refine list_one elI64 rfl _ _ rfl w.heap.size i _ ((xs.map (reaL ls)).take i) (by rfl) (HO2.out.alloc _) wr.heap.size (r : Nat) (by rfl) (by simp) (by omega) (by simp; omega) ?_; intro g6 c6 w6 hO6 hb6)
          go_wp2_with fail
          go_roundw
          case rel => exact ⟨i + 1, _, by omega, by go_num, Lib.hid rfl, Lib.hid (by rw [Hst.out]; exact hO6), hbr2.trans ((balloc' _ _ _ hbr2.size).trans hb6)⟩
          case measure => simp [intOf]; omega
    · have hie : i = n := by omega
      subst hie
      have HO2 := HO.out
      rw [List.take_of_length_le (by rw [List.length_map, hxl]; exact Nat.le_refl _)] at HO2
      obtain ⟨A', c', rfl, hI, hcc⟩ := own_ints (by rw [List.length_map, hxl]) HO2
      have HI := Lib.hid hI
      clear hI HO HO2
      go_wp2_with fail
      go_ret
      exact ⟨A', c', rfl, HI.out, hcc, hbw⟩

/-- one row comes before another one -/
def befB : List Int → List Int → Bool
  | x :: a, y :: b => if x = y then befB a b else decide (x < y)
  | _, _ => false
theorem drop_cons {l : List Int} {i : Nat} (h : i < l.length) : l.drop i = l.getD i 0 :: l.drop (i + 1) := by
  rw [List.drop_eq_getElem_cons h, List.getD_eq_getElem?_getD, List.getElem?_eq_getElem h]; rfl

set_option maxHeartbeats 4000000 in
theorem before_any (A B : Option Addr) (n C D : Nat) (xs ys : List Int) (w : World) (hx : Ints w A n xs) (hy : Ints w B n ys) (hn : n ≤ 1000) :
    Calls Tryd.prog 34 #[.slice A n C, .slice B n D] w fun e w' => e = .returned (.bool (befB xs ys)) ∧ Below w.heap.size w w' := by
  have hxl := hx.1
  have hyl := hy.1
  have Hx := Lib.hid hx
  have Hy := Lib.hid hy
  obtain ⟨r, hr⟩ : ∃ r, befB xs ys = r := ⟨_, rfl⟩
  rw [hr]
  have Hr : Hid (befB (xs.drop 0) (ys.drop 0) = r) := Lib.hid hr
  clear hx hy hr
  go_enter Tryd.func34, Tryd.ntmps34
  go_wp2_with fail
  go_loopw [5] (fun s5 wx => ∃ i : Nat, i ≤ n ∧ s5 = .int .i64 (i : Nat) ∧ Hid (befB (xs.drop i) (ys.drop i) = r) ∧ Below w.heap.size w wx) (fun s5 _ => n - (intOf s5).toNat)
  case atStart => exact ⟨0, Nat.zero_le _, rfl, Hr, blA⟩
  case round =>
    obtain ⟨i, hi, rfl, Hi, hbw⟩ := hrel
    by_cases hin : i < n
    · obtain ⟨b1, o1, rfl, _, e1⟩ := Hx.out.at0 hbw hin
      obtain ⟨b2, o2, rfl, _, e2⟩ := Hy.out.at0 hbw hin
      have hst := Hi.out
      rw [drop_cons (show i < xs.length by omega), drop_cons (show i < ys.length by omega)] at hst
      obtain ⟨x, hx⟩ : ∃ x, xs.getD i 0 = x := ⟨_, rfl⟩
      obtain ⟨y, hy⟩ : ∃ y, ys.getD i 0 = y := ⟨_, rfl⟩
      rw [hx] at e1 hst
      rw [hy] at e2 hst
      by_cases hxy : x = y
      · have Hn : Hid (befB (xs.drop (i + 1)) (ys.drop (i + 1)) = r) := Lib.hid (by rw [befB, if_pos hxy] at hst; exact hst)
        have hb : (x != y) = false := by simp [hxy]
        clear hst Hi hx hy
        subst hxy
        go_wp2_with fail
        go_quiet (fail)
        go_wp2_with fail
        go_roundw
        case rel => exact ⟨i + 1, by omega, by go_num, Hn, blA⟩
        case measure => simp [intOf]; omega
      · have Hn : Hid (decide (x < y) = r) := Lib.hid (by rw [befB, if_neg hxy] at hst; exact hst)
        clear hst Hi hx hy
        go_wp2_with fail
        go_quiet (fail)
        go_wp2_with fail
        go_quiet (fail)
        go_wp2_with fail
        go_ret
        exact ⟨by rw [← Hn.out]; rfl, blA⟩
    · have hie : i = n := by omega
      subst hie
      have Hn : Hid (false = r) := Lib.hid (by have := Hi.out; rw [List.drop_of_length_le (by omega)] at this; simpa [befB] using this)
      clear Hi
      go_wp2_with fail
      go_ret
      exact ⟨by rw [← Hn.out]; rfl, blA⟩

set_option maxHeartbeats 1000000 in
theorem number_any (A : Option Addr) (m C i : Nat) (zs : List Int) (w : World) (hz : U32s w A m zs) (hm : m ≤ 1000) (hi : i ≤ 1000) :
    Calls Tryd.prog 41 #[.slice A m C, .int .i64 (i : Nat)] w fun e w' => e = .returned (.int .u32 (turnL zs i)) ∧ w' = w := by
  have hl := hz.1
  by_cases hm0 : m = 0
  · subst hm0
    have ht : turnL zs i = 0 := by unfold turnL; rw [if_pos hl]
    rw [ht]
    clear hz
    go_enter Tryd.func41, Tryd.ntmps41
    go_wp2_with fail
    go_ret
    exact ⟨rfl, rfl⟩
  · have hmod : i % m < m := Nat.mod_lt _ (by omega)
    obtain ⟨b, off, rfl, hc, h1, h2⟩ := hz.at_ (Below.refl _ _) hmod
    have ht : turnL zs i = zs.getD (i % m) 0 := by unfold turnL; rw [if_neg (by omega), hl]
    have hmod' : (i : Int).tmod (m : Int) = ((i % m : Nat) : Int) := by rw [Int.tmod_eq_emod_of_nonneg (by omega)]; simp
    have hmB : ((m : Int) == 0) = false := by simp; omega
    obtain ⟨q, hq⟩ : ∃ q, i % m = q := ⟨_, rfl⟩
    rw [ht]
    rw [hq] at hc hmod hmod' h1 h2 ⊢
    generalize zs.getD q 0 = y at *
    clear hz ht hq
    go_enter Tryd.func41, Tryd.ntmps41
    go_wp2_with fail
    go_ret
    exact ⟨rfl, rfl⟩

/-- a number of a range, by a number -/
def pickE (lo hi by_ : Int) : Int := lo + by_ % (hi - lo + 1)
theorem pickE_in {lo hi by_ : Int} (h : lo ≤ hi) : lo ≤ pickE lo hi by_ ∧ pickE lo hi by_ ≤ hi := by
  unfold pickE
  have h1 := Int.emod_nonneg by_ (show hi - lo + 1 ≠ 0 by omega)
  have h2 := Int.emod_lt_of_pos by_ (show 0 < hi - lo + 1 by omega)
  omega
set_option maxHeartbeats 1000000 in
theorem pick_any (lo hi by_ : Int) (w : World) (h1 : lo ≤ hi) (h2 : 0 ≤ lo) (h3 : hi ≤ 1000000) (h4 : 0 ≤ by_) (h5 : by_ ≤ 4294967295) :
    Calls Tryd.prog 40 #[.agg #[.int .i64 lo, .int .i64 hi], .int .u32 by_] w fun e w' => e = .returned (.int .i64 (pickE lo hi by_)) ∧ Below w.heap.size w w' := by
  have hp := pickE_in (by_ := by_) h1
  have hmod : by_.tmod (hi - lo + 1) = by_ % (hi - lo + 1) := Int.tmod_eq_emod_of_nonneg h4
  have h0 : ¬ hi - lo + 1 = 0 := by omega
  have hdef : lo + by_ % (hi - lo + 1) = pickE lo hi by_ := rfl
  generalize pickE lo hi by_ = r at *
  go_enter Tryd.func40, Tryd.ntmps40
  go_wp2_with fail
  go_quiet (fail)
  go_wp2_with fail
  go_ret
  exact ⟨by first | rfl | exact ret_int hdef, blA⟩

end Go.Proofs.YtmddpjlpbmfbgaaDoor
end

/- Plain laws: what a programme that goes wrong on no row of dark and bright lamps does to any row; which row comes before which. -/
section
namespace Go.Proofs.YtmddpjlpbmfbgaaDoor
set_option linter.unusedSimpArgs false
set_option linter.unusedVariables false
open Bm (Pr OkP runL runB runF tab rowL ordB pickB unord bfP UnF b2i fstBad num thr b2i)

/-- what a statement asks of a row -/
def gdB (n m : Nat) (l : List Int) : Bool := if m = n then ordB l else pickB l m
theorem gd_row {n m k : Nat} {p : List Pr} (hp : OkP n p) (hm : m ≤ n) : gdB n m (runL p (rowL n k)) = !badT n m (runB p (tab n k)) := by
  unfold gdB badT
  by_cases e : m = n
  · rw [if_pos e, if_pos e, ← ord_bad hp, Bool.not_not]
  · rw [if_neg e, if_neg e, ← pick_bad hp hm, Bool.not_not]
theorem un_runF {n : Nat} {p : List Pr} (hp : OkP n p) {bf : Nat → Nat → Bool} {ys : List Int} (hl : ys.length = n) (h : UnF n bf (fun i => (runL p ys).getD i 0)) : UnF n bf (runF p (fun i => ys.getD i 0)) := by
  obtain ⟨k, i, hk, hi, hb, hlt⟩ := h
  refine ⟨k, i, hk, hi, hb, ?_⟩
  have h1 := Bm.runL_get n p hp ys hl k hk
  have h2 := Bm.runL_get n p hp ys hl i (by omega)
  rw [← h1, ← h2]; exact hlt
theorem zo_good {n m : Nat} {p : List Pr} (hp : OkP n p) (hm : m ≤ n) (h : fstBad n (fun k => badT n m (runB p (tab n k))) = none) {ys : List Int} (hl : ys.length = n) : gdB n m (runL p ys) = true := by
  have hrl : (runL p ys).length = n := by rw [Bm.runL_len, hl]
  have hno := Bm.fstBad_none.1 h
  unfold gdB
  by_cases e : m = n
  · rw [if_pos e]
    cases hb : ordB (runL p ys) with
    | true => rfl
    | false =>
      have hu := Bm.ordB_un.1 hb
      rw [hrl] at hu
      obtain ⟨t, ht⟩ := Bm.zeroOne hp (un_runF hp hl hu)
      have := hno (num (thr t fun i => ys.getD i 0) n) (Bm.num_lt _ n)
      unfold badT at this
      rw [if_pos e, ht] at this
      cases this
  · rw [if_neg e]
    cases hb : pickB (runL p ys) m with
    | true => rfl
    | false =>
      have hu := (Bm.pickB_un (by omega)).1 hb
      rw [hrl] at hu
      obtain ⟨t, ht⟩ := Bm.zeroOne hp (un_runF hp hl hu)
      have := hno (num (thr t fun i => ys.getD i 0) n) (Bm.num_lt _ n)
      unfold badT at this
      rw [if_neg e, ht] at this
      cases this

theorem getD_map {g : Int → Int} {l : List Int} {i : Nat} (hi : i < l.length) : (l.map g).getD i 0 = g (l.getD i 0) := by
  rw [List.getD_eq_getElem?_getD, List.getD_eq_getElem?_getD, List.getElem?_map, List.getElem?_eq_getElem hi]; rfl
/-- a map that keeps the order goes through a programme -/
theorem runL_map {n : Nat} {p : List Pr} (hp : OkP n p) {g : Int → Int} (hg : Bm.Mono g) {ys : List Int} (hl : ys.length = n) : runL p (ys.map g) = (runL p ys).map g := by
  have h1 : (ys.map g).length = n := by rw [List.length_map, hl]
  have h2 : (runL p ys).length = n := by rw [Bm.runL_len, hl]
  refine list_ext_getD _ _ (by rw [Bm.runL_len, h1, List.length_map, h2]) fun i hi => ?_
  rw [Bm.runL_len, h1] at hi
  rw [Bm.runL_get n p hp _ h1 i hi, getD_map (by omega), Bm.runL_get n p hp _ hl i hi, Bm.runF_congr p hp (g := fun i => g (ys.getD i 0)) (fun i hi => getD_map (by omega)) i hi, Bm.runF_map hg]

theorem rowL_succ (n k : Nat) : rowL (n + 1) k = b2i (k.testBit n) :: rowL n k := by
  unfold rowL tab
  rw [List.range_succ_eq_map, List.map_cons, List.map_map]
  congr 1
  refine List.map_congr_left fun i hi => ?_
  have hi := List.mem_range.1 hi
  show b2i (k.testBit (n + 1 - 1 - (i + 1))) = _
  rw [show n + 1 - 1 - (i + 1) = n - 1 - i by omega]
theorem bef_row : ∀ (n j k : Nat), befB (rowL n j) (rowL n k) = true → j % 2 ^ n < k % 2 ^ n
  | 0, j, k, h => by simp [rowL, befB] at h
  | n + 1, j, k, h => by
    rw [rowL_succ, rowL_succ, befB] at h
    rw [Nat.pow_succ, Nat.mod_mul, Nat.mod_mul]
    have tj : (j.testBit n) = decide (j / 2 ^ n % 2 = 1) := Nat.testBit_eq_decide_div_mod_eq
    have tk : (k.testBit n) = decide (k / 2 ^ n % 2 = 1) := Nat.testBit_eq_decide_div_mod_eq
    have hj := Nat.mod_lt j (show 0 < 2 ^ n from Nat.pos_of_ne_zero (by simp))
    have hk := Nat.mod_lt k (show 0 < 2 ^ n from Nat.pos_of_ne_zero (by simp))
    rw [tj, tk] at h
    rcases Nat.mod_two_eq_zero_or_one (j / 2 ^ n) with e1 | e1 <;> rcases Nat.mod_two_eq_zero_or_one (k / 2 ^ n) with e2 | e2 <;> rw [e1, e2] at h ⊢ <;> simp [b2i] at h ⊢
    · exact bef_row n j k h
    · omega
    · exact bef_row n j k h
theorem bef_row' {n j k : Nat} (hj : j < 2 ^ n) (hk : k < 2 ^ n) (h : befB (rowL n j) (rowL n k) = true) : j < k := by
  have := bef_row n j k h
  rwa [Nat.mod_eq_of_lt hj, Nat.mod_eq_of_lt hk] at this
theorem rowL_out (n k : Nat) : (rowL n k).any (out 0 100000) = false := by
  rw [List.any_eq_false]
  intro x hx
  unfold rowL at hx
  obtain ⟨i, _, rfl⟩ := List.mem_map.1 hx
  cases tab n k i <;> decide
theorem rowL_01 {n k i : Nat} (hi : i < n) : (rowL n k).getD i 0 = 0 ∨ (rowL n k).getD i 0 = 1 := by
  rw [Bm.rowL_get hi]
  cases tab n k i <;> simp [b2i]

end Go.Proofs.YtmddpjlpbmfbgaaDoor
end
