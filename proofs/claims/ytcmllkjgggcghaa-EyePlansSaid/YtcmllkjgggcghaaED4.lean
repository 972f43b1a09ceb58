/- Walks of package eye: the iterator handed back; an append to a clipped list; sums of two odds. -/
import Derived.Test.YtcmllkjgggcghaaED3
import Derived.OwnWalkIn
namespace Go.Proofs.Ytcmllkjgggcghaa
open Go.RowKit Go.Shelf
set_option linter.unusedSimpArgs false
set_option linter.unusedVariables false

/-- the iterator over the outcomes of a test -/
def RetSeq (g : Nat) (w : World) (e : Ending) (w' : World) : Prop :=
  ∃ Bs : Nat, e = .returned (.func (.func 76) #[] #[.pointer (some ⟨Bs, 0, none⟩)]) ∧ w.heap.size ≤ Bs ∧ w'.cell? ⟨Bs, 0, none⟩ = some (.pointer (some ⟨g, 0, none⟩)) ∧ Below w.heap.size w w'

set_option maxHeartbeats 400000 in
theorem outcomes_any (g : Nat) (w : World) : Calls Try.prog 54 #[.pointer (some ⟨g, 0, none⟩)] w (RetSeq g w) := by
  unfold RetSeq
  go_enter Try.func54, Try.ntmps54
  go_wp2_with fail
  go_ret
  exact ⟨w.heap.size, rfl, Nat.le_refl _, by simp, balloc (Below.refl _ _) _⟩

/-- a list that is handed back -/
def RetInts (zs : List Int) (w : World) (e : Ending) (w' : World) : Prop :=
  ∃ A n c, e = .returned (.slice A n c) ∧ Ints w' A n zs ∧ Below w.heap.size w w' ∧ ∀ b off, 0 < n → A = some ⟨b, off, none⟩ → w.heap.size ≤ b

/-- how a list that grows is held -/
def Held (B : Nat) (A : Option Addr) (n c : Nat) : Prop := (n = 0 ∧ A = none ∧ c = 0) ∨ (0 < n ∧ n ≤ c ∧ ∃ g, A = some ⟨g, 0, none⟩ ∧ B ≤ g)

theorem run_clip {w : World} {A : Option Addr} {n : Nat} {zs : List Int} (hz : Ints w A n zs) {B c : Nat} (hh : Held B A n c) (b : Nat) (k : Int) (hb : w.cell? ⟨b, 0, none⟩ = some (.int .i64 k)) (hn : n ≤ 5000) (ty : TypeId) :
    ∃ c' w', (Builtin.append_ #[23, 23] ty #[.slice A n n, .slice (some ⟨b, 0, none⟩) 1 1]).run Try.prog w = .ok (.slice (some ⟨w.heap.size, 0, none⟩) (n + 1) c') w' ∧
      Ints w' (some ⟨w.heap.size, 0, none⟩) (n + 1) (zs ++ [k]) ∧ n + 1 ≤ c' ∧ Below w.heap.size w w' ∧ w.heap.size < w'.heap.size := by
  obtain ⟨i, hi, hzz⟩ := Option.map_eq_some_iff.1 intT_info
  simp only [Prod.mk.injEq] at hzz
  obtain ⟨hz0, hs, hby⟩ := hzz
  have hnews : ∀ j v, ([Value.int .i64 k] : List Value)[j]? = some v → w.cell? ((⟨b, 0, none⟩ : Addr).add j) = some v := by
    intro j v h
    match j, h with
    | 0, h => simp at h; subst h; simpa [Addr.add] using hb
    | j + 1, h => simp at h
  have hcells : ∀ (g : Nat) (w' : World) (zc : Array Value), g = w.heap.size → w' = w.drew.alloc (.cells ((zs.map (Value.int .i64)).toArray ++ ([Value.int .i64 k] : List Value).toArray ++ zc) 3) →
      Ints w' (some ⟨g, 0, none⟩) (n + 1) (zs ++ [k]) ∧ Below w.heap.size w w' ∧ w.heap.size < w'.heap.size := by
    intro g w' zc hg hw'
    have hbl : Below w.heap.size w w' := by rw [hw']; exact balloc (Below.drew (Below.refl _ _)) _
    refine ⟨⟨by simp [hz.1], fun _ => ⟨g, 0, rfl, by rw [hw', hg]; simp, fun j hj => ?_⟩⟩, hbl, by rw [hw']; simp⟩
    have hjl : j < (zs ++ [k]).length := by simp [hz.1]; omega
    rw [hw', World.cell?_alloc_at _ _ g (0 + j) (by rw [hg]; rfl), Nat.zero_add, Array.getElem?_append_left (by simp [hz.1]; omega)]
    rw [show (zs.map (Value.int .i64)).toArray ++ ([Value.int .i64 k] : List Value).toArray = ((zs ++ [k]).map (Value.int .i64)).toArray by simp]
    rw [List.getElem?_toArray, List.getElem?_map, List.getD_eq_getElem?_getD, List.getElem?_eq_getElem hjl]
    rfl
  rcases hh with ⟨rfl, rfl, rfl⟩ | ⟨h0, hc, g, rfl, hg⟩
  · have hzs : zs = [] := List.eq_nil_of_length_eq_zero hz.1
    subst hzs
    have hr := run_append_nil (P := Try.prog) w 23 ty 3 i (.int .i64 0) (by kernel_rfl) hi hz0 ⟨b, 0, none⟩ 1 1 [.int .i64 k] (by rw [hs]; rfl) hnews (by omega) (by omega) (by rw [hby]; omega)
    obtain ⟨h1, h2, h3⟩ := hcells w.heap.size (w.drew.alloc (.cells (([Value.int .i64 k] : List Value).toArray ++ Builtin.zeroCells (Value.int .i64 0).cells (grownCap w 1 0 3 - 1)) 3)) (Builtin.zeroCells (Value.int .i64 0).cells (grownCap w 1 0 3 - 1)) rfl (by simp)
    exact ⟨_, _, hr, by simpa using h1, grownCap_ge w 1 0 _, by simpa using h2, by simp⟩
  · have hr := run_append_grow (P := Try.prog) w 23 ty 3 i (.int .i64 0) (by kernel_rfl) hi hz0 ⟨g, 0, none⟩ n n (zs.map (Value.int .i64)) (by rw [hs]; simp [hz.1]) (by
        intro j v h
        rw [List.getElem?_map] at h
        obtain ⟨x, hx, rfl⟩ := Option.map_eq_some_iff.1 h
        have hj : j < n := by rw [← hz.1]; exact (List.getElem?_eq_some_iff.1 hx).1
        have := hz.cell0 j hj
        rw [List.getD_eq_getElem?_getD, hx] at this
        rw [show (⟨g, 0, none⟩ : Addr).add j = ⟨g, 0 + j, none⟩ by unfold Addr.add; split <;> simp_all]
        exact this) ⟨b, 0, none⟩ 1 1 [.int .i64 k] (by rw [hs]; rfl) hnews (by omega) (by omega) (by
        rw [hby]
        have := growslice_fits (need := n + 1) (old := n) (bytes := 8) (by omega) (by omega)
        exact this)
    obtain ⟨h1, h2, h3⟩ := hcells w.heap.size _ _ rfl rfl
    exact ⟨_, _, hr, h1, grownCap_ge w (n + 1) n _, h2, h3⟩

theorem clip_in {F : Fence} {nF : Nat} {ops : Array Oper} {rest : List Oper} {o : Oper} {a : Act} {w : World} {Q : Exit → Act → World → Prop}
    (hg : o.guard = none) (s x : Operand) (hop : o.op = Op.call { callee := Callee.builtin Builtin.append, args := #[s, x], argTypes := #[23, 23] })
    (B : Nat) (A : Option Addr) (n c : Nat) (zs : List Int) (hs : a.eval s = .slice A n n) (hz : Ints w A n zs) (hh : Held B A n c)
    (b : Nat) (k : Int) (hx : a.eval x = .slice (some ⟨b, 0, none⟩) 1 1) (hb : w.cell? ⟨b, 0, none⟩ = some (.int .i64 k)) (hn : n ≤ 5000) (H : Nat) (hH : w.heap.size = H) (hB : B ≤ H)
    (hK : ∀ c' w', Ints w' (some ⟨H, 0, none⟩) (n + 1) (zs ++ [k]) → Held B (some ⟨H, 0, none⟩) (n + 1) c' → Below w.heap.size w w' → H < w'.heap.size → wpListIn F nF Try.prog ops Q rest (a.put o.dst (.slice (some ⟨H, 0, none⟩) (n + 1) c')) w') :
    wpListIn F nF Try.prog ops Q (o :: rest) a w := by
  subst hH
  refine wpListIn_plain hg fun K hK' => ?_
  obtain ⟨c', w', hrun, r1, r2, r3, r4⟩ := run_clip hz hh b k hb hn o.type
  unfold Oper.wpIn
  refine ⟨?_, ?_⟩
  · simp [Oper.about, hop, resolve, Target.leads, Sem.run_pure]
  · rw [Oper.semAt_plain F _ _ (by rw [hop]; intro c hc'; cases hc')]
    simp [execOp, hop, resolve, invoke, builtin, hs, hx, hrun, Result.andThen]
    exact hK' _ _ (hK c' w' r1 (.inr ⟨by omega, r2, _, rfl, hB⟩) r3 r4)

set_option maxHeartbeats 1000000 in
theorem add_any (a b c d : Int) (gB : Nat) (w : World) (hB : Cs w gB #[.int .i64 a, .int .i64 b, .int .i64 c, .int .i64 d])
    (h : 0 ≤ a ∧ a ≤ 1000000000000 ∧ 0 ≤ b ∧ b ≤ 1000000000000 ∧ 0 ≤ c ∧ c ≤ 1000000000000 ∧ 0 ≤ d ∧ d ≤ 1000000000000) (x y : Int) (hx : x = a + c) (hy : y = b + d) :
    Calls Try.prog 66 #[.slice (some ⟨gB, 0, none⟩) 2 2] w fun e w' => e = .returned (.agg #[.int .i64 x, .int .i64 y]) ∧ Below w.heap.size w w' := by
  have hlt := hB.lt
  have HB := Lib.hid hB
  have Hx := Lib.hid hx
  have Hy := Lib.hid hy
  clear hB hx hy
  go_enter Try.func66, Try.ntmps66
  go_wp2_with fail
  go_loopw [8] (fun s8 wx => ∃ (k : Nat) (u v : Int) (W : World), s8 = .int .i64 (k : Nat) ∧ Hid (W = wx) ∧ Hid ((k = 0 ∧ u = 0 ∧ v = 0) ∨ (k = 1 ∧ u = a ∧ v = b) ∨ (k = 2 ∧ u = x ∧ v = y)) ∧ Cs W w.heap.size #[.int .i64 0, .int .i64 0] ∧ Cs W (w.heap.size + 1) #[.int .i64 u, .int .i64 v] ∧ Below w.heap.size w W) (fun s8 _ => 2 - (intOf s8).toNat)
  case atStart => exact ⟨0, 0, 0, _, rfl, Lib.hid rfl, Lib.hid (.inl ⟨rfl, rfl, rfl⟩), (by repeat (first | with_reducible assumption | (with_reducible refine Cs.new _ _ _ _ ?_; first | rfl | (simp; done)) | with_reducible refine Cs.alloc ?_ _ | with_reducible refine Cs.drewN ?_ _ | with_reducible refine Cs.drew ?_ | with_reducible refine Cs.set4 ?_ _ _ _ _ | (with_reducible refine Cs.other4 ?_ ?_ _ _ _ _; rotate_left; focus (first | assumption | omega | (simp; done) | (simp; omega))) | with_reducible refine Cs.set2 ?_ _ _ | (with_reducible refine Cs.other2 ?_ ?_ _ _; rotate_left; focus (first | assumption | omega | (simp; done) | (simp; omega))) | (with_reducible refine Cs.other ?_ ?_ _; rotate_left; focus (first | assumption | omega | (simp; done) | (simp; omega))) | with_reducible refine Cs.keep ?_ (by assumption) | assumption)), (by repeat (first | with_reducible assumption | (with_reducible refine Cs.new _ _ _ _ ?_; first | rfl | (simp; done)) | with_reducible refine Cs.alloc ?_ _ | with_reducible refine Cs.drewN ?_ _ | with_reducible refine Cs.drew ?_ | with_reducible refine Cs.set4 ?_ _ _ _ _ | (with_reducible refine Cs.other4 ?_ ?_ _ _ _ _; rotate_left; focus (first | assumption | omega | (simp; done) | (simp; omega))) | with_reducible refine Cs.set2 ?_ _ _ | (with_reducible refine Cs.other2 ?_ ?_ _ _; rotate_left; focus (first | assumption | omega | (simp; done) | (simp; omega))) | (with_reducible refine Cs.other ?_ ?_ _; rotate_left; focus (first | assumption | omega | (simp; done) | (simp; omega))) | with_reducible refine Cs.keep ?_ (by assumption) | assumption)), (by repeat (first | with_reducible exact Below.refl _ _ | with_reducible assumption | with_reducible refine balloc ?_ _ | with_reducible refine bdrewN ?_ _ | with_reducible refine Below.drew ?_ | (with_reducible refine bset ?_ ?_ _; rotate_left; focus (first | assumption | omega | (simp; done) | (simp; omega))) | with_reducible refine bstep ?_ (by assumption) | assumption))⟩
  case round =>
    obtain ⟨k, u, v, W, rfl, HW, Hk, B0, B1, hbw⟩ := hrel
    obtain rfl := HW.out
    clear HW
    by_cases hk2 : k < 2
    · obtain ⟨p1, p2, c0, c1, hu, hv, Hn⟩ : ∃ p1 p2 : Int, W.cell? ⟨gB, k * 2, none⟩ = some (.int .i64 p1) ∧ W.cell? ⟨gB, k * 2 + 1, none⟩ = some (.int .i64 p2) ∧ (0 ≤ u + p1 ∧ u + p1 ≤ 2000000000000) ∧ (0 ≤ v + p2 ∧ v + p2 ≤ 2000000000000) ∧
          Hid ((k + 1 = 0 ∧ u + p1 = 0 ∧ v + p2 = 0) ∨ (k + 1 = 1 ∧ u + p1 = a ∧ v + p2 = b) ∨ (k + 1 = 2 ∧ u + p1 = x ∧ v + p2 = y)) := by
        have hc : ∀ i, W.cell? ⟨gB, i, none⟩ = (#[Value.int .i64 a, .int .i64 b, .int .i64 c, .int .i64 d] : Array Value)[i]? := fun i => (hbw.cell (p := ⟨gB, i, none⟩) hlt).trans (HB.out.c i)
        rcases Hk.out with ⟨rfl, rfl, rfl⟩ | ⟨rfl, rfl, rfl⟩ | ⟨rfl, rfl, rfl⟩
        · exact ⟨a, b, hc 0, hc 1, by omega, by omega, Lib.hid (.inr (.inl ⟨rfl, by omega, by omega⟩))⟩
        · exact ⟨c, d, hc 2, hc 3, by omega, by omega, Lib.hid (.inr (.inr ⟨rfl, by rw [Hx.out], by rw [Hy.out]⟩))⟩
        · omega
      have hkI : (k : Int) < 2 := by omega
      have f1 : IntKind.i64.wrap (u + p1) = u + p1 := IntWalk.i64_in _ (by omega)
      have f2 : IntKind.i64.wrap (v + p2) = v + p2 := IntWalk.i64_in _ (by omega)
      clear h Hk hu hv
      have cB1 := B1.c
      have fB1 := B1.f
      have lB1 := B1.lt
      go_wp2_with fail
      go_roundw
      case rel => exact ⟨k + 1, u + p1, v + p2, _, by go_num, Lib.hid rfl, Hn, (by repeat (first | with_reducible assumption | (with_reducible refine Cs.new _ _ _ _ ?_; first | rfl | (simp; done)) | with_reducible refine Cs.alloc ?_ _ | with_reducible refine Cs.drewN ?_ _ | with_reducible refine Cs.drew ?_ | with_reducible refine Cs.set4 ?_ _ _ _ _ | (with_reducible refine Cs.other4 ?_ ?_ _ _ _ _; rotate_left; focus (first | assumption | omega | (simp; done) | (simp; omega))) | with_reducible refine Cs.set2 ?_ _ _ | (with_reducible refine Cs.other2 ?_ ?_ _ _; rotate_left; focus (first | assumption | omega | (simp; done) | (simp; omega))) | (with_reducible refine Cs.other ?_ ?_ _; rotate_left; focus (first | assumption | omega | (simp; done) | (simp; omega))) | with_reducible refine Cs.keep ?_ (by assumption) | assumption)), (by first | exact B1.set2 _ _ | exact (B1.set2 _ _).alloc _), (by repeat (first | with_reducible exact Below.refl _ _ | with_reducible assumption | with_reducible refine balloc ?_ _ | with_reducible refine bdrewN ?_ _ | with_reducible refine Below.drew ?_ | (with_reducible refine bset ?_ ?_ _; rotate_left; focus (first | assumption | omega | (simp; done) | (simp; omega))) | with_reducible refine bstep ?_ (by assumption) | assumption))⟩
      case measure => simp [intOf]; omega
    · obtain ⟨rfl, rfl, rfl⟩ : k = 2 ∧ u = x ∧ v = y := by rcases Hk.out with ⟨rfl, _⟩ | ⟨rfl, _⟩ | h <;> first | omega | exact h
      clear Hk
      have cB0 := B0.c
      have fB0 := B0.f
      have lB0 := B0.lt
      have cB1 := B1.c
      have fB1 := B1.f
      have lB1 := B1.lt
      go_wp2_with fail
      have n1 := B1.lt
      have F0 := B0.set2 (.int .i64 u) (.int .i64 v)
      have cF := F0.c
      have fF := F0.f
      have lF := F0.lt
      have hbF := bset2 hbw (Nat.le_refl w.heap.size) (.int .i64 u) (.int .i64 v)
      exact bodyPost_ret (v := .agg #[.int .i64 u, .int .i64 v]) (by simp [results, Try.results66, go_sem, cF, fF, lF]) rfl ⟨rfl, hbF⟩

end Go.Proofs.Ytcmllkjgggcghaa
