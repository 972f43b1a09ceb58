/- The walk of package unit's Path. -/
import Derived.Test.YtkjoamindolonaaDoorUA9
import Derived.Test.YtkjoamindolonaaDoorUMath3
namespace Go.Proofs.YtkjoamindolonaaDoor
open Go.RowKit Go.Shelf
set_option linter.unusedSimpArgs false
set_option linter.unusedVariables false
open Um (frac S4 spanB spanE sp eu)

/-- the length of a slice -/
def lenOf : Value → Nat | .slice _ n _ => n | _ => 0

/-- a slice of numbers and an error are handed back -/
def RetIntsE (zs : List Int) (x : Int) (w : World) (e : Ending) (w' : World) : Prop := ∃ A c, e = .returned (.tuple #[.slice A zs.length c, .int .i64 x]) ∧ Ints w' A zs.length zs ∧ (A = none → zs.length = 0 ∧ c = 0) ∧ Below w.heap.size w w'

/-- the same, with what is known of the new slice's room -/
def RetIntsF (zs : List Int) (x : Int) (w : World) (e : Ending) (w' : World) : Prop := ∃ A c, e = .returned (.tuple #[.slice A zs.length c, .int .i64 x]) ∧ Ints w' A zs.length zs ∧ (A = none → zs.length = 0 ∧ c = 0) ∧ zs.length ≤ c ∧ Below w.heap.size w w'

/-- an append of numbers that must grow: what the new slice reads as -/
theorem after_grow2 {w w' : World} {n m : Nat} {xs ys : List Int} {v : Value} (hpos : 0 < n + m) (h : w'.ownsRow w.heap.size 2 1 v (n + m) (xs.map (Value.int .i64) ++ ys.map (Value.int .i64))) (hg : w.grownBy w' none) :
    ∃ g c, w.heap.size ≤ g ∧ v = .slice (some ⟨g, 0, none⟩) (n + m) c ∧ Ints w' (some ⟨g, 0, none⟩) (n + m) (xs ++ ys) ∧ n + m ≤ c ∧ Below w.heap.size w w' := by
  rw [← List.map_append] at h
  obtain ⟨g, c, rfl, _, _⟩ := World.ownsRow.form h hpos
  have hx : w.heap.size ≤ g ∧ n + m ≤ c := by
    rcases h.2 with ⟨hv, _⟩ | ⟨g', cap', cur, hv, hB, _, hn1, _⟩
    · cases hv
    · injection hv with hv1 _ hv3
      injection hv1 with hv1
      injection hv1 with hv1
      omega
  exact ⟨g, c, hx.1, rfl, Ints.of_own h, hx.2, (Below.refl _ w).grown hg (Nat.le_refl _) (fun k hk => by cases hk)⟩

theorem step_appI2 {ops : Array Oper} {o : Oper} {a : Act} {w : World} {K : Act → World → Prop} {Q : Exit → Act → World → Prop} {E : Prop}
    (hg : o.guard = none) (s x : Operand) (hop : o.op = Op.call { callee := Callee.builtin Builtin.append, args := #[s, x], argTypes := #[40, 40] })
    (ao : Option Addr) (n cap : Nat) (xs : List Int) (hs : a.eval s = .slice ao n cap) (hxs : Ints w ao n xs) (hnone : ao = none → n = 0 ∧ cap = 0)
    (ap : Option Addr) (m c : Nat) (ys : List Int) (hx : a.eval x = .slice ap m c) (hys : Ints w ap m ys) (hm : 0 < m) (hfull : cap < n + m) (b1 : n + m ≤ 100000)
    (hK : ∀ g c' w', w.heap.size ≤ g → Ints w' (some ⟨g, 0, none⟩) (n + m) (xs ++ ys) → n + m ≤ c' → Below w.heap.size w w' → K (a.put o.dst (.slice (some ⟨g, 0, none⟩) (n + m) c')) w') :
    if Region.wanted o (yielded ops a.tmps) = true then Oper.wp Tryd.prog o a w K Q else E := by
  obtain ⟨i0, hi0, hz0, hz1, hz2⟩ := info_parts int_info
  obtain ⟨b, off, rfl, _, _⟩ := hys.2 hm
  refine step_append_grows hg s x 40 hop 2 i0 (.int .i64 0) 1 8 Tryd.underlying40 hi0 hz0 hz1 hz2 rfl (by omega) ao n cap (xs.map (Value.int .i64)) hs hnone (by simp [hxs.1]) hxs.reads
    ⟨b, off, none⟩ m c (ys.map (Value.int .i64)) hx (by simp [hys.1]) (hys.reads _ rfl) (by intro u hu; obtain ⟨y, _, rfl⟩ := List.mem_map.1 hu; rfl) hfull (by unfold maxLen; omega) (by omega) ?_
  intro v' w' h1 h2
  obtain ⟨g, c', h0, rfl, h3, h4, h5⟩ := after_grow2 (by omega) h1 h2
  exact hK g c' w' h0 h3 h4 h5

theorem Ints.newz (w : World) (H : Nat) (x : Int) (z : Array Value) (t : TypeId) (hH : w.heap.size = H) : Ints (w.alloc (.cells (#[.int .i64 x] ++ z) t)) (some ⟨H, 0, none⟩) 1 [x] := by
  subst hH
  refine ⟨rfl, fun _ => ⟨w.heap.size, 0, rfl, by simp, fun i hi => ?_⟩⟩
  have : i = 0 := by omega
  subst this
  simp [Array.getElem?_append]

theorem Ints.sets2 {w : World} {b n : Nat} {zs : List Int} (h : Ints w (some ⟨b, 0, none⟩) n zs) (g' : Nat) (x y : Value) (hg : b ≠ g') : Ints ((w.setCell ⟨g', 0, none⟩ x).setCell ⟨g', 1, none⟩ y) (some ⟨b, 0, none⟩) n zs := by
  refine ⟨h.1, fun hn => ?_⟩
  obtain ⟨b', off, e, hlt, hc⟩ := h.2 hn
  injection e with e
  injection e with e1 e2
  subst e1 e2
  refine ⟨b, 0, rfl, by simpa [World.setCell] using hlt, fun i hi => ?_⟩
  rw [World.cell?_setCell_other _ _ _ _ (by intro e; apply hg; injection e with e; exact e.symm), World.cell?_setCell_other _ _ _ _ (by intro e; apply hg; injection e with e; exact e.symm)]
  exact hc i hi

set_option maxHeartbeats 1000000 in
theorem path_bad (n d : Int) (w : World) (h : frac n d = false) :
    Calls Tryd.prog 26 #[.agg #[.int .i64 n, .int .i64 d]] w (RetIntsE [] 2 w) := by
  have k1 := fun W => isFraction_any n d W
  rw [h] at k1
  clear h
  go_enter Tryd.func26, Tryd.ntmps26
  go_wp2_with fail
  refine (k1 _).mono ?_
  rintro e w1 ⟨rfl, hb1⟩
  go_wp2_with fail
  exact bodyPost_ret (v := .tuple #[.slice none 0 0, .int .i64 2]) (by simp [results, Tryd.results26, go_sem]) rfl ⟨none, 0, rfl, Ints.nil _ _, fun _ => ⟨rfl, rfl⟩, (by repeat (first | with_reducible exact Below.refl _ _ | with_reducible assumption | with_reducible refine balloc ?_ _ | with_reducible refine bdrewN ?_ _ | with_reducible refine Below.drew ?_ | (with_reducible refine bset ?_ ?_ _; rotate_left; focus (first | assumption | omega | (simp; done) | (simp; omega))) | with_reducible refine bstep ?_ (by assumption) | assumption))⟩

set_option maxHeartbeats 1000000 in
theorem path_okF (n d : Int) (w : World) (h : frac n d = true) :
    Calls Tryd.prog 26 #[.agg #[.int .i64 n, .int .i64 d]] w (RetIntsF (eu (d.toNat + 1) n d) 0 w) := by
  have k1 := fun W => isFraction_any n d W
  rw [h] at k1
  obtain ⟨n1, n2, d1, d2⟩ := Um.frac_bd h
  have hcan := Um.eu_canonical (d.toNat + 1) n d n1 d1 (Um.frac_gcd h) (by omega)
  have hev := Um.eu_ev (d.toNat + 1) n d (by omega) (by omega) (Um.frac_gcd h) (by omega)
  have hlen := Um.canon_len _ hcan (by rw [hev]; exact d2)
  have Hlen := Lib.hid hlen
  clear h hcan hev hlen
  go_enter Tryd.func26, Tryd.ntmps26
  go_wp2_with fail
  refine (k1 _).mono ?_
  rintro e w1 ⟨rfl, hb1⟩
  have B0 : Cs w1 (w.heap.size) #[.int .i64 n, .int .i64 d] := Cs.keep (by repeat (first | with_reducible assumption | (with_reducible refine Cs.new _ _ _ _ ?_; first | rfl | (simp; done)) | with_reducible refine Cs.alloc ?_ _ | with_reducible refine Cs.drewN ?_ _ | with_reducible refine Cs.drew ?_ | with_reducible refine Cs.set4 ?_ _ _ _ _ | (with_reducible refine Cs.other4 ?_ ?_ _ _ _ _; rotate_left; focus (first | assumption | omega | (simp; done) | (simp; omega))) | with_reducible refine Cs.set2 ?_ _ _ | (with_reducible refine Cs.other2 ?_ ?_ _ _; rotate_left; focus (first | assumption | omega | (simp; done) | (simp; omega))) | (with_reducible refine Cs.other ?_ ?_ _; rotate_left; focus (first | assumption | omega | (simp; done) | (simp; omega))) | with_reducible refine Cs.keep ?_ (by assumption) | assumption)) hb1
  have hbw1 : Below w.heap.size w w1 := (by repeat (first | with_reducible exact Below.refl _ _ | with_reducible assumption | with_reducible refine balloc ?_ _ | with_reducible refine bdrewN ?_ _ | with_reducible refine Below.drew ?_ | (with_reducible refine bset ?_ ?_ _; rotate_left; focus (first | assumption | omega | (simp; done) | (simp; omega))) | with_reducible refine bstep ?_ (by assumption) | assumption))
  clear k1 hb1
  go_wp2_with fail
  go_loopw [4] (fun v wr => ∃ (p q : Int) (pre : List Int) (A : Option Addr) (c : Nat), v = .slice A pre.length c ∧ Hid (eu (d.toNat + 1) n d = pre ++ eu (d.toNat + 1 - pre.length) p q) ∧ ((A = none ∧ pre = [] ∧ c = 0) ∨ ∃ g : Nat, A = some ⟨g, 0, none⟩ ∧ 0 < pre.length) ∧ Ints wr A pre.length pre ∧ Cs wr w.heap.size #[.int .i64 p, .int .i64 q] ∧ 0 ≤ p ∧ p ≤ 1000000000 ∧ 0 ≤ q ∧ q ≤ 1000000000 ∧ q < (d.toNat + 1 - pre.length : Nat) ∧ pre.length ≤ c ∧ Below w.heap.size w wr) (fun v _ => 60 - lenOf v)
  case atStart => exact ⟨n, d, [], none, 0, rfl, rfl, Or.inl ⟨rfl, rfl, rfl⟩, Ints.nil _ _, B0, by omega, n2, by omega, d2, by simp; omega, Nat.le_refl _, hbw1⟩
  case round =>
    obtain ⟨p, q, pre, A, c, rfl, Heq, Hnone, hI, Br, p1, p2, q1, q2, hq, hc, hbr⟩ := hrel
    clear B0 hbw1
    by_cases h0 : q = 0
    · subst h0
      have hn : A = none → pre.length = 0 ∧ c = 0 := by
        intro h
        rcases Hnone with ⟨_, h2, h3⟩ | ⟨g, h2, _⟩
        · exact ⟨by rw [h2]; rfl, h3⟩
        · rw [h] at h2; cases h2
      have Hn : Hid (RetIntsF (eu (d.toNat + 1) n d) 0 w (.returned (.tuple #[.slice A pre.length c, .int .i64 0])) wr) := by
        have he : eu (d.toNat + 1) n d = pre := by rw [Heq.out, Um.eu_zero]; simp
        rw [he]
        exact ⟨A, c, rfl, hI, hn, hc, hbr⟩
      clear hI Hnone hn Heq
      have cBr := Br.c
      have fBr := Br.f
      have lBr := Br.lt
      go_wp2_with fail
      exact bodyPost_ret (v := .tuple #[.slice A pre.length c, .int .i64 0]) (by simp [results, Tryd.results26, go_sem]) rfl Hn.out
    · have e0 : (q == 0) = false := by simp [h0]
      have f3 : p.tmod q = p % q := Int.tmod_eq_emod_of_nonneg (by omega)
      have f4 : p.tdiv q = p / q := Int.tdiv_eq_ediv_of_nonneg (by omega)
      have r1 := Int.emod_nonneg p (b := q) (by omega)
      have r2 := Int.emod_lt_of_pos p (b := q) (by omega)
      have d1' : 0 ≤ p / q := Int.ediv_nonneg (by omega) (by omega)
      have d2' : p / q ≤ p := Int.ediv_le_self _ (by omega)
      have f5 : IntKind.i64.wrap (p / q) = p / q := IntWalk.i64_in _ (by omega)
      have f6 : IntKind.i64.wrap (p % q) = p % q := IntWalk.i64_in _ (by omega)
      have hsplit : d.toNat + 1 - pre.length = (d.toNat + 1 - (pre.length + 1)) + 1 := by omega
      have Heq2 : Hid (eu (d.toNat + 1) n d = (pre ++ [p / q]) ++ eu (d.toNat + 1 - (pre.length + 1)) q (p % q)) := by
        refine Lib.hid (Heq.out.trans ?_)
        rw [hsplit, eu, if_neg h0]
        simp
      have hq60 : pre.length < 60 := by
        have := Hlen.out
        rw [Heq2.out] at this
        simp at this
        omega
      clear hsplit Heq
      have cBr := Br.c
      have fBr := Br.f
      have lBr := Br.lt
      rcases Hnone with ⟨rfl, rfl, rfl⟩ | ⟨g, rfl, hpos⟩
      · go_wp2_with fail
        go_region_held3 (fun w' => w'.cell? ⟨w.heap.size, 0, none⟩ = some (.int .i64 p) ∧ w'.cell? ⟨w.heap.size, 1, none⟩ = some (.int .i64 q))
          (first | exact ⟨Br.c 0, Br.c 1⟩ | exact ⟨(Br.alloc _).c 0, (Br.alloc _).c 1⟩ | go_keep)
          (fail)
        have hbx : Below w.heap.size w ((wr.alloc (.cells #[.int .i64 (p / q)] 2)).alloc (.cells (#[.int .i64 (p / q)] ++ Builtin.zeroCells #[.int .i64 0] ((Question.appendCap 1 0 2).cut (wr.tape (wr.drawn + 1) (Question.appendCap 1 0 2)) - 1)) 2)).drew.drew := (by repeat (first | with_reducible exact Below.refl _ _ | with_reducible assumption | with_reducible refine balloc ?_ _ | with_reducible refine bdrewN ?_ _ | with_reducible refine Below.drew ?_ | (with_reducible refine bset ?_ ?_ _; rotate_left; focus (first | assumption | omega | (simp; done) | (simp; omega))) | with_reducible refine bstep ?_ (by assumption) | assumption))
        have hIx : Ints ((wr.alloc (.cells #[.int .i64 (p / q)] 2)).alloc (.cells (#[.int .i64 (p / q)] ++ Builtin.zeroCells #[.int .i64 0] ((Question.appendCap 1 0 2).cut (wr.tape (wr.drawn + 1) (Question.appendCap 1 0 2)) - 1)) 2)).drew.drew (some ⟨wr.heap.size + 1, 0, none⟩) 1 [p / q] := Ints.newz _ _ _ _ _ (by simp)
        have hcx : 1 ≤ (Question.appendCap 1 0 2).cut (wr.tape (wr.drawn + 1) (Question.appendCap 1 0 2)) := Nat.le_add_right 1 _
        have Bx : Cs ((wr.alloc (.cells #[.int .i64 (p / q)] 2)).alloc (.cells (#[.int .i64 (p / q)] ++ Builtin.zeroCells #[.int .i64 0] ((Question.appendCap 1 0 2).cut (wr.tape (wr.drawn + 1) (Question.appendCap 1 0 2)) - 1)) 2)).drew.drew w.heap.size #[.int .i64 p, .int .i64 q] := (by repeat (first | with_reducible assumption | (with_reducible refine Cs.new _ _ _ _ ?_; first | rfl | (simp; done)) | with_reducible refine Cs.alloc ?_ _ | with_reducible refine Cs.drewN ?_ _ | with_reducible refine Cs.drew ?_ | with_reducible refine Cs.set4 ?_ _ _ _ _ | (with_reducible refine Cs.other4 ?_ ?_ _ _ _ _; rotate_left; focus (first | assumption | omega | (simp; done) | (simp; omega))) | with_reducible refine Cs.set2 ?_ _ _ | (with_reducible refine Cs.other2 ?_ ?_ _ _; rotate_left; focus (first | assumption | omega | (simp; done) | (simp; omega))) | (with_reducible refine Cs.other ?_ ?_ _; rotate_left; focus (first | assumption | omega | (simp; done) | (simp; omega))) | with_reducible refine Cs.keep ?_ (by assumption) | assumption))
        generalize ((wr.alloc (.cells #[.int .i64 (p / q)] 2)).alloc (.cells (#[.int .i64 (p / q)] ++ Builtin.zeroCells #[.int .i64 0] ((Question.appendCap 1 0 2).cut (wr.tape (wr.drawn + 1) (Question.appendCap 1 0 2)) - 1)) 2)).drew.drew = wx at *
        generalize (Question.appendCap 1 0 2).cut (wr.tape (wr.drawn + 1) (Question.appendCap 1 0 2)) = cx at *
        have hlt := Br.lt
        clear cBr fBr lBr
        clear Br hbr
        have cBx := Bx.c
        have fBx := Bx.f
        have lBx := Bx.lt
        go_wp2_with fail
        go_region
        go_wp2_with fail
        go_roundw
        case rel => exact ⟨q, p % q, [p / q], some ⟨wr.heap.size + 1, 0, none⟩, cx, rfl, Heq2, Or.inr ⟨wr.heap.size + 1, rfl, Nat.zero_lt_one⟩, hIx.sets2 _ _ _ (by omega), Bx.set2 _ _, q1, q2, r1, by omega, by simp; omega, hcx, (bset2 hbx (Nat.le_refl _) _ _).drew⟩
        case measure => simp [lenOf]
      · have i1 : (0 : Int) ≤ (pre.length : Int) := by omega
        have i2 : (pre.length : Int) ≤ (c : Int) := by omega
        go_wp2_with fail
        go_region_held3 (fun w' => w'.cell? ⟨w.heap.size, 0, none⟩ = some (.int .i64 p) ∧ w'.cell? ⟨w.heap.size, 1, none⟩ = some (.int .i64 q))
          (first | exact ⟨Br.c 0, Br.c 1⟩ | exact ⟨(Br.alloc _).c 0, (Br.alloc _).c 1⟩ | go_keep)
          (first | (refine step_appI2 (by rfl) _ _ (by rfl) (some ⟨g, 0, none⟩) pre.length pre.length pre (by rfl) (by repeat (first | with_reducible assumption | (with_reducible refine Ints.new1 _ _ _ _ ?_; first | rfl | (simp; done)) | (with_reducible refine Ints.new2 _ _ _ _ _ ?_; first | rfl | (simp; done)) | with_reducible refine Ints.alloc ?_ _ | with_reducible refine Ints.drewN ?_ _ | with_reducible refine Ints.drew ?_ | with_reducible refine Ints.below ?_ (by assumption) | assumption)) (by simp) _ 1 _ [p / q] (by rfl) (by repeat (first | with_reducible assumption | (with_reducible refine Ints.new1 _ _ _ _ ?_; first | rfl | (simp; done)) | (with_reducible refine Ints.new2 _ _ _ _ _ ?_; first | rfl | (simp; done)) | with_reducible refine Ints.alloc ?_ _ | with_reducible refine Ints.drewN ?_ _ | with_reducible refine Ints.drew ?_ | with_reducible refine Ints.below ?_ (by assumption) | assumption)) (by omega) (by omega) (by omega) ?_; intro gr cr wR hgr hIR hcR hbR; have Br : Cs wR w.heap.size #[.int .i64 p, .int .i64 q] := (by repeat (first | with_reducible assumption | (with_reducible refine Cs.new _ _ _ _ ?_; first | rfl | (simp; done)) | with_reducible refine Cs.alloc ?_ _ | with_reducible refine Cs.drewN ?_ _ | with_reducible refine Cs.drew ?_ | with_reducible refine Cs.set4 ?_ _ _ _ _ | (with_reducible refine Cs.other4 ?_ ?_ _ _ _ _; rotate_left; focus (first | assumption | omega | (simp; done) | (simp; omega))) | with_reducible refine Cs.set2 ?_ _ _ | (with_reducible refine Cs.other2 ?_ ?_ _ _; rotate_left; focus (first | assumption | omega | (simp; done) | (simp; omega))) | (with_reducible refine Cs.other ?_ ?_ _; rotate_left; focus (first | assumption | omega | (simp; done) | (simp; omega))) | with_reducible refine Cs.keep ?_ (by assumption) | assumption))))
        all_goals (
          have hcx := hcR
          have hbx : Below w.heap.size w wR := (by repeat (first | with_reducible exact Below.refl _ _ | with_reducible assumption | with_reducible refine balloc ?_ _ | with_reducible refine bdrewN ?_ _ | with_reducible refine Below.drew ?_ | (with_reducible refine bset ?_ ?_ _; rotate_left; focus (first | assumption | omega | (simp; done) | (simp; omega))) | with_reducible refine bstep ?_ (by assumption) | assumption))
          have hlt : w.heap.size < gr := by have := lBr; simp at hgr; omega
          clear cBr fBr lBr
          clear hcR
          have cBr := Br.c
          have fBr := Br.f
          have lBr := Br.lt
          go_wp2_with fail
          go_region
          go_wp2_with fail
          go_roundw
          case rel => exact ⟨q, p % q, pre ++ [p / q], some ⟨gr, 0, none⟩, cr, by simp, by rw [List.length_append]; exact Heq2, Or.inr ⟨gr, rfl, by simp⟩, by rw [List.length_append]; exact (hIR.sets2 _ _ _ (by omega)).drew, Br.set2 _ _, q1, q2, r1, by omega, by simp; omega, by simpa using hcx, (bset2 hbx (Nat.le_refl _) _ _).drew⟩
          case measure => simp [lenOf]; omega)

theorem path_ok (n d : Int) (w : World) (h : frac n d = true) :
    Calls Tryd.prog 26 #[.agg #[.int .i64 n, .int .i64 d]] w (RetIntsE (eu (d.toNat + 1) n d) 0 w) :=
  (path_okF n d w h).mono fun _ _ ⟨A, c, h1, h2, h3, _, h5⟩ => ⟨A, c, h1, h2, h3, h5⟩

end Go.Proofs.YtkjoamindolonaaDoor
