/- EG1 EG2 EG3 EG4 -/
import Derived.Test.YtcmllkjgggcghaaEZ14
import Derived.Test.YtcmllkjgggcghaaEZ08
import Derived.Test.YtcmllkjgggcghaaEZ07
import Derived.BigQuiet
import Derived.Test.YtcmllkjgggcghaaEZ11
import Derived.Test.YtcmllkjgggcghaaEZ09
import Derived.Laws.AppendOwn
import Derived.OwnWalk
/- Walks of the reference of layer 10: the errors of a set. -/
section
namespace Go.Proofs.Ytcmllkjgggcghaa
open Go.RowKit Go.Shelf
set_option linter.unusedSimpArgs false
set_option linter.unusedVariables false

theorem setE_rng {m : Nat} {ks : List Int} {k : Nat} (h1 : ¬ m < ks.length) (hk : k < ks.length) (h : outK m (ks.getD k 0) = true) : setE m ks = 3 := by
  unfold setE
  rw [if_neg h1, if_pos]
  refine List.any_eq_true.2 ⟨ks.getD k 0, ?_, h⟩
  rw [List.getD_eq_getElem?_getD, List.getElem?_eq_getElem hk]
  exact List.getElem_mem hk
theorem any_none {m : Nat} {ks : List Int} (h : ∀ i, i < ks.length → outK m (ks.getD i 0) = false) : ks.any (outK m) = false := by
  rw [Bool.eq_false_iff]
  intro hx
  obtain ⟨x, hx1, hx2⟩ := List.any_eq_true.1 hx
  obtain ⟨i, hi, he⟩ := List.mem_iff_getElem.1 hx1
  have := h i hi
  rw [List.getD_eq_getElem?_getD, List.getElem?_eq_getElem hi] at this
  have h2 : outK m ks[i] = false := this
  rw [he, hx2] at h2
  cases h2
theorem setE_bad {m : Nat} {ks : List Int} {k : Nat} (h1 : ¬ m < ks.length) (h2 : ks.any (outK m) = false) (hk : k + 1 < ks.length) (h : ¬ ks.getD k 0 < ks.getD (k + 1) 0) : setE m ks = 16 := by
  unfold setE
  rw [if_neg h1, h2, if_neg (by decide), if_neg]
  intro hr
  exact h (riseB_inc _ _ hr k (k + 1) (by omega) hk)
theorem setE_fine {m : Nat} {ks : List Int} (h1 : ¬ m < ks.length) (h2 : ∀ i, i < ks.length → outK m (ks.getD i 0) = false) (h : ∀ i, i + 1 < ks.length → ks.getD i 0 < ks.getD (i + 1) 0) : setE m ks = 0 := by
  unfold setE
  rw [if_neg h1, any_none h2, if_neg (by decide), if_pos]
  refine riseB_of _ _ (fun i hi => ?_) h
  have := h2 i hi
  unfold outK at this
  simp only [Bool.or_eq_false_iff, decide_eq_false_iff_not] at this
  omega

/-- what Set answers -/
def rsetP (zs : List Pl) (ks : List Int) : Int := if testE zs ≠ 0 then testE zs else setE (manyT zs) ks

set_option maxHeartbeats 1000000 in
theorem rset_bad (A B : Option Addr) (n c N C : Nat) (zs : List Pl) (w : World) (hz : Plates w A n zs) (hn : n ≤ 9223372036854775807) (ht : testE zs ≠ 0) :
    Calls Try.prog 55 #[.slice A n c, .slice B N C] w (RetI (testE zs) w) := by
  have k1 := fun (W : World) (hb : Below w.heap.size w W) => rcheckTest_any A n c zs W (hz.below hb) hn
  have h0 : (testE zs == 0) = false := by simp [ht]
  have h1 : (testE zs != 0) = true := by simp [ht]
  unfold RetI
  generalize testE zs = e at *
  clear ht hz
  go_enter Try.func55, Try.ntmps55
  go_wp2_with fail
  refine (k1 _ blA).mono ?_
  rintro _ w1 ⟨rfl, hb1⟩
  replace hbw : Below w.heap.size w w1 := blA
  clear hb1
  go_wp2_with fail
  refine (k1 _ blA).mono ?_
  rintro _ w2 ⟨rfl, hb2⟩
  replace hbw : Below w.heap.size w w2 := blA
  clear hb2
  go_wp2_with fail
  go_ret
  exact ⟨rfl, hbw⟩

set_option maxHeartbeats 2000000 in
theorem rset_ok (A B : Option Addr) (n c N C : Nat) (zs : List Pl) (ks : List Int) (w : World) (hz : Plates w A n zs) (hn : n ≤ 6) (hk : Ints w B N ks) (hN : N ≤ 9223372036854775807) (ht : testE zs = 0) (r : Int) (hr : r = setE (manyT zs) ks) :
    Calls Try.prog 55 #[.slice A n c, .slice B N C] w (RetI r w) := by
  obtain ⟨t1, t2, hg⟩ := testE_ok ht
  have hM := many_le hz.1 hn hg
  have k1 := fun (W : World) (hb : Below w.heap.size w W) => rcheckTest_any A n c zs W (hz.below hb) (by omega)
  rw [ht] at k1
  have km := fun (W : World) (hb : Below w.heap.size w W) => many_same A n c zs W (hz.below hb) hn hg (manyT zs) rfl
  have hkl := hk.1
  have Hk := Lib.hid hk
  generalize hMM : manyT zs = M at *
  have Hr := Lib.hid hr
  unfold RetI
  clear hz hg ht t1 t2 hk hr hMM
  by_cases h1 : M < N
  · have h1I : (M : Int) < (N : Int) := by omega
    have h6 : r = 6 := by rw [Hr.out]; unfold setE; rw [if_pos (by omega)]
    clear Hr
    go_enter Try.func55, Try.ntmps55
    go_wp2_with fail
    refine (k1 _ blA).mono ?_
    rintro _ w1 ⟨rfl, hb1⟩
    replace hbw : Below w.heap.size w w1 := blA
    clear hb1
    go_wp2_with fail
    refine (km _ blA).mono ?_
    rintro _ w2 ⟨rfl, rfl⟩
    go_wp2_with fail
    go_ret
    exact ⟨ret_int h6.symm, hbw⟩
  · have h1I : ¬ (M : Int) < (N : Int) := by omega
    have h1' : ¬ M < ks.length := by omega
    go_enter Try.func55, Try.ntmps55
    go_wp2_with fail
    refine (k1 _ blA).mono ?_
    rintro _ w1 ⟨rfl, hb1⟩
    replace hbw : Below w.heap.size w w1 := blA
    clear hb1
    clear k1
    go_wp2_with fail
    refine (km _ blA).mono ?_
    rintro _ w2 ⟨rfl, rfl⟩
    go_wp2_with fail
    go_loopw [5] (fun s5 wx => ∃ (k : Nat) (W : World), k ≤ N ∧ s5 = .int .i64 (k : Nat) ∧ Hid (W = wx) ∧ Hid (∀ i, i < k → outK M (ks.getD i 0) = false) ∧ Below w.heap.size w W) (fun s5 _ => N - (intOf s5).toNat)
    case atStart => exact ⟨0, _, Nat.zero_le _, rfl, Lib.hid rfl, Lib.hid (fun i hi => absurd hi (by omega)), hbw⟩
    case round =>
      clear hbw
      obtain ⟨k, W, hkN, rfl, HW, Hpre, hbw⟩ := hrel
      obtain rfl := HW.out
      clear HW
      by_cases hlt : k < N
      · have hltI : (k : Int) < (N : Int) := by omega
        have i0 : (0 : Int) ≤ (k : Int) := by omega
        obtain ⟨b, off, rfl, hb, hc⟩ := Hk.out.2 (by omega)
        have hx : W.cell? ⟨b, off + k, none⟩ = some (.int .i64 (ks.getD k 0)) := (hbw.cell (p := ⟨b, off + k, none⟩) hb).trans (hc k hlt)
        have Hout : Hid (outK M (ks.getD k 0) = true → r = 3) := Lib.hid (fun h => by rw [Hr.out]; exact setE_rng h1' (by omega) h)
        have Hin : Hid (outK M (ks.getD k 0) = false → ∀ i, i < k + 1 → outK M (ks.getD i 0) = false) := Lib.hid (fun h i hi => by
          by_cases e : i = k
          · rw [e]; exact h
          · exact Hpre.out i (by omega))
        clear hc Hpre
        generalize ks.getD k 0 = x at *
        by_cases q1 : x < 0
        · have h3 : r = 3 := Hout.out (by unfold outK; simp [q1])
          clear Hout Hin Hr
          go_wp2_with fail
          go_quiet (fail)
          go_wp2_with fail
          go_ret
          exact ⟨ret_int h3.symm, blA⟩
        · by_cases q2 : (M : Int) ≤ x
          · have h3 : r = 3 := Hout.out (by unfold outK; simp [q2])
            clear Hout Hin Hr
            go_wp2_with fail
            go_quiet (first | (go_at_call 45; refine Calls.quiet_of_same (km _ blA)))
            go_wp2_with fail
            go_ret
            exact ⟨ret_int h3.symm, blA⟩
          · replace Hin := Lib.hid (Hin.out (by unfold outK; simp [q1]; omega))
            clear Hout
            go_wp2_with fail
            go_quiet (first | (go_at_call 45; refine Calls.quiet_of_same (km _ blA)))
            go_wp2_with fail
            go_roundw
            case rel => exact ⟨k + 1, _, by omega, by go_num, Lib.hid rfl, Hin, blA⟩
            case measure => simp [intOf]; omega
      · obtain rfl : k = N := by omega
        have Hall : Hid (∀ i, i < ks.length → outK M (ks.getD i 0) = false) := Lib.hid (fun i hi => Hpre.out i (by omega))
        clear Hpre
        go_wp2_with fail
        go_loopw [6] (fun s6 wx => ∃ (j : Nat) (W : World), 1 ≤ j ∧ s6 = .int .i64 (j : Nat) ∧ j ≤ k + 1 ∧ Hid (W = wx) ∧ Hid (∀ i, i + 1 < j → i + 1 < k → ks.getD i 0 < ks.getD (i + 1) 0) ∧ Below w.heap.size w W) (fun s6 _ => k + 1 - (intOf s6).toNat)
        case atStart => exact ⟨1, _, by omega, rfl, by omega, Lib.hid rfl, Lib.hid (fun i hi => absurd hi (by omega)), hbw⟩
        case round =>
          clear hbw
          obtain ⟨j, W2, hj1, rfl, hjk, HW, Hpre, hbw⟩ := hrel
          obtain rfl := HW.out
          clear HW
          by_cases hlt : j < k
          · have hltI : (j : Int) < (k : Int) := by omega
            obtain ⟨i, rfl⟩ : ∃ i, j = i + 1 := ⟨j - 1, by omega⟩
            obtain ⟨b, off, rfl, hb, hc⟩ := Hk.out.2 (by omega)
            have hx : W2.cell? ⟨b, off + (i + 1), none⟩ = some (.int .i64 (ks.getD (i + 1) 0)) := (hbw.cell (p := ⟨b, off + (i + 1), none⟩) hb).trans (hc (i + 1) hlt)
            have hy : W2.cell? ⟨b, off + i, none⟩ = some (.int .i64 (ks.getD i 0)) := (hbw.cell (p := ⟨b, off + i, none⟩) hb).trans (hc i (by omega))
            have Hout : Hid (¬ ks.getD i 0 < ks.getD (i + 1) 0 → r = 16) := Lib.hid (fun h => by rw [Hr.out]; exact setE_bad h1' (any_none Hall.out) (by omega) h)
            have Hin : Hid (ks.getD i 0 < ks.getD (i + 1) 0 → ∀ i2, i2 + 1 < i + 1 + 1 → i2 + 1 < k → ks.getD i2 0 < ks.getD (i2 + 1) 0) := Lib.hid (fun h i2 h1 h2 => by
              by_cases e : i2 = i
              · rw [e]; exact h
              · exact Hpre.out i2 (by omega) h2)
            have f1 : IntKind.i64.wrap (((i + 1 : Nat) : Int) - 1) = (i : Int) := by rw [IntWalk.i64_in _ (by omega)]; omega
            have i0 : (0 : Int) ≤ (i : Int) := by omega
            have i1 : (i : Int) < (k : Int) := by omega
            have i2 : (0 : Int) ≤ ((i + 1 : Nat) : Int) := by omega
            clear hc Hpre
            generalize ks.getD i 0 = y at *
            generalize ks.getD (i + 1) 0 = x at *
            by_cases q1 : y < x
            · have q2 : ¬ x ≤ y := by omega
              replace Hin := Lib.hid (Hin.out q1)
              clear Hout
              go_wp2_with fail
              go_quiet (fail)
              go_wp2_with fail
              go_roundw
              case rel => exact ⟨i + 1 + 1, _, by omega, by go_num, by omega, Lib.hid rfl, Hin, blA⟩
              case measure => simp [intOf]; omega
            · have q2 : x ≤ y := by omega
              have h16 : r = 16 := Hout.out q1
              clear Hout Hin Hr
              go_wp2_with fail
              go_quiet (fail)
              go_wp2_with fail
              go_ret
              exact ⟨ret_int h16.symm, blA⟩
          · have hltI : ¬ (j : Int) < (k : Int) := by omega
            have h0 : r = 0 := by rw [Hr.out]; exact setE_fine h1' Hall.out (fun i hi => Hpre.out i (by omega) (by omega))
            clear Hpre Hr
            go_wp2_with fail
            go_ret
            exact ⟨ret_int (by first | exact h0.symm | rfl), hbw⟩

theorem rset_any (A B : Option Addr) (n c N C : Nat) (zs : List Pl) (ks : List Int) (w : World) (hz : Plates w A n zs) (hn : n ≤ 9223372036854775807) (hk : Ints w B N ks) (hN : N ≤ 9223372036854775807) :
    Calls Try.prog 55 #[.slice A n c, .slice B N C] w (RetI (rsetP zs ks) w) := by
  by_cases ht : testE zs = 0
  · have hl := hz.1
    obtain ⟨t1, t2, _⟩ := testE_ok ht
    exact rset_ok A B n c N C zs ks w hz (by omega) hk hN ht _ (by simp [rsetP, ht])
  · rw [show rsetP zs ks = testE zs by simp [rsetP, ht]]
    exact rset_bad A B n c N C zs w hz hn ht

end Go.Proofs.Ytcmllkjgggcghaa
end

/- Walks of the reference of layer 10: the region of a threshold. -/
section
namespace Go.Proofs.Ytcmllkjgggcghaa
open Go.RowKit Go.Shelf
set_option linter.unusedSimpArgs false
set_option linter.unusedVariables false

/-- an append of one number to a row of the call's own -/
theorem list_ownI {ops : Array Oper} {rest : List Oper} {o : Oper} {a : Act} {w : World} {Q : Exit → Act → World → Prop}
    (hg : o.guard = none) (s x : Operand) (hop : o.op = Op.call { callee := Callee.builtin Builtin.append, args := #[s, x], argTypes := #[23, 23] })
    (B n : Nat) (v : Value) (xs : List Int) (hs : a.eval s = v) (hown : w.ownsRow B 3 1 v n (xs.map (Value.int .i64)))
    (b : Nat) (y : Int) (hx : a.eval x = .slice (some ⟨b, 0, none⟩) 1 1) (hy : w.cell? ⟨b, 0, none⟩ = some (.int .i64 y)) (hn : n ≤ 5000) (hB : B ≤ w.heap.size)
    (hK : ∀ g c w', w'.ownsRow B 3 1 (.slice (some ⟨g, 0, none⟩) (n + 1) c) (n + 1) ((xs ++ [y]).map (Value.int .i64)) → Below B w w' → wpList Try.prog ops Q rest (a.put o.dst (.slice (some ⟨g, 0, none⟩) (n + 1) c)) w') :
    wpList Try.prog ops Q (o :: rest) a w := by
  obtain ⟨i0, hi0, hzz⟩ := Option.map_eq_some_iff.1 intT_info
  simp only [Prod.mk.injEq] at hzz
  obtain ⟨hz0, hz1, hz2⟩ := hzz
  refine wpList_append_own w hg s x 23 hop B 3 i0 (.int .i64 0) 1 8 (by kernel_rfl) hi0 hz0 hz1 hz2 rfl (by omega) v n _ hs hown ⟨b, 0, none⟩ 1 1 [.int .i64 y] hx rfl ?_ ?_ (by unfold maxLen; omega) (by omega) hB ?_
  · intro j u hu
    match j, hu with
    | 0, hu => simp at hu; subst hu; simpa [Addr.add] using hy
    | j + 1, hu => simp at hu
  · intro u hu
    simp at hu
    subst hu; rfl
  · intro v' w' h1 h2 _
    have hlt := hown.lt
    rcases h1.2 with ⟨rfl, h0⟩ | ⟨g, cap, cur, rfl, hrest⟩
    · omega
    · refine hK g cap w' (by simpa using h1) ⟨h2.os, h2.tape, h2.output, h2.size, fun i hi => h2.block i (by omega) (fun e => ?_)⟩
      have := hlt i e.symm
      omega

theorem own_keepI {w w' : World} {base : Nat} {e : TypeId} {s : Nat} {v : Value} {n : Nat} {xs : List Value} (h : w.ownsRow base e s v n xs) (hb : Below w.heap.size w w') : w'.ownsRow base e s v n xs := by
  refine ⟨h.1, ?_⟩
  rcases h.2 with h2 | ⟨g, cap, cur, e1, hB, hg, rest⟩
  · exact Or.inl h2
  · have hlt : g < w.heap.size := (Array.getElem?_eq_some_iff.1 hg).1
    exact Or.inr ⟨g, cap, cur, e1, hB, (hb.block g hlt).trans hg, rest⟩

theorem own_intsI {w : World} {B n : Nat} {v : Value} {zs : List Int} (hl : zs.length = n) (h : w.ownsRow B 3 1 v n (zs.map (Value.int .i64))) : ∃ A c, v = .slice A n c ∧ Ints w A n zs ∧ ∀ b off, 0 < n → A = some ⟨b, off, none⟩ → B ≤ b := by
  rcases h.2 with ⟨rfl, h0⟩ | ⟨g, cap, cur, rfl, hB, hg, hnc, _, hsz, ht⟩
  · subst h0
    exact ⟨none, 0, rfl, ⟨hl, fun h => absurd h (by omega)⟩, fun _ _ h _ => absurd h (by omega)⟩
  · refine ⟨some ⟨g, 0, none⟩, cap, rfl, ⟨hl, fun hn => ⟨g, 0, rfl, (Array.getElem?_eq_some_iff.1 hg).1, fun i hi => ?_⟩⟩, fun b off _ e => by injection e with e; injection e with e; omega⟩
    have h1 : cur.toList[i]? = (zs.map (Value.int .i64))[i]? := by
      rw [← ht, List.getElem?_take_of_lt (by omega)]
    have hic : i < cur.size := by omega
    have h3 : cur[i]? = some (Value.int .i64 (zs.getD i 0)) := by
      rw [← Array.getElem?_toList, h1, List.getElem?_map, List.getD_eq_getElem?_getD, List.getElem?_eq_getElem (show i < zs.length by omega)]; rfl
    rw [Nat.zero_add]
    unfold World.cell?
    rw [hg]
    simpa using h3

set_option maxRecDepth 10000 in
set_option maxHeartbeats 2000000 in
theorem rregion_any (A : Option Addr) (n c : Nat) (zs : List Pl) (N D : Int) (w : World) (hz : Plates w A n zs) (hn : n ≤ 6) (hg : ∀ p ∈ zs, Good p) (hN0 : 0 ≤ N) (hN : N ≤ 1000000000) (hD0 : 0 ≤ D) (hD : D ≤ 1000000000) :
    Calls Try.prog 52 #[.slice A n c, .agg #[.int .i64 N, .int .i64 D]] w (RetInts (regL zs n (N, D) (manyT zs)) w) := by
  have hM2 := many_le hz.1 hn hg
  have km := fun (W : World) (hb : Below w.heap.size w W) => many_same A n c zs W (hz.below hb) hn hg (manyT zs) rfl
  have kf := fun (W : World) (k : Nat) (hb : Below w.heap.size w W) (hk : k < manyT zs) => of10_any A n c k zs W (hz.below hb) hn hg (by rw [mt_all hz.1]; exact hk) (by omega)
  have Hb := Lib.hid (fun k hk => oc_bd (N := k) hz.1 hg hz.2.2 hn hk)
  unfold RetInts
  generalize hM : manyT zs = M at *
  clear hz hg hM
  go_enter Try.func52, Try.ntmps52
  go_wp2_with fail
  go_loopw [5, 6] (fun s5 s6 wx => ∃ (k len : Nat) (W : World), k ≤ M ∧ s6 = .int .i64 (k : Nat) ∧ Hid (W = wx) ∧ Hid (len = (regL zs n (N, D) k).length) ∧ Hid (W.ownsRow (w.heap.size + 1) 3 1 s5 len ((regL zs n (N, D) k).map (Value.int .i64))) ∧ w.heap.size + 1 ≤ W.heap.size ∧ Cs W w.heap.size #[.int .i64 N, .int .i64 D] ∧ Below w.heap.size w W) (fun _ s6 _ => M - (intOf s6).toNat)
  case atStart => exact ⟨0, 0, _, Nat.zero_le _, rfl, Lib.hid rfl, Lib.hid rfl, Lib.hid (World.ownsRow_nil _ _ _ _), by simp, csA, blA⟩
  case round =>
    obtain ⟨k, len, W, hk, rfl, HW, Hlen, Hown, hsW, B0, hbw⟩ := hrel
    obtain rfl := HW.out
    clear HW
    by_cases hkM : k < M
    · have hkI : (k : Int) < (M : Int) := by omega
      obtain ⟨q1, q2, q3, q4⟩ := Hb.out k hkM
      have hlen : len ≤ 4096 := by have := regL_le zs n (N, D) k; have := Hlen.out; omega
      have kf1 := kf W k hbw hkM
      rw [show oddG zs (digs zs n k) n = ocG zs n k from rfl, show oddE zs (digs zs n k) n = ocE zs n k from rfl] at kf1
      have hab : above (ocG zs n) (ocE zs n) (N, D) k = decide (0 < ocE zs n k * D - ocG zs n k * N) := rfl
      have Hst : Hid (regL zs n (N, D) (k + 1) = if ocG zs n k * N < ocE zs n k * D then regL zs n (N, D) k ++ [(k : Int)] else regL zs n (N, D) k) := Lib.hid (by
        rw [regL, hab]
        by_cases hp : 0 < ocE zs n k * D - ocG zs n k * N
        · rw [if_pos (by simpa using hp), if_pos (by omega)]
        · rw [if_neg (by simpa using hp), if_neg (by omega)])
      have km1 := km W hbw
      generalize ocG zs n k = oG at *
      generalize ocE zs n k = oE at *
      have m0 : 0 ≤ oE * D := Int.mul_nonneg q3 hD0
      have m1 : oE * D ≤ 64000000 * 1000000000 := Int.mul_le_mul q4 hD hD0 (by omega)
      have m2 : 0 ≤ oG * N := Int.mul_nonneg q1 hN0
      have m3 : oG * N ≤ 64000000 * 1000000000 := Int.mul_le_mul q2 hN hN0 (by omega)
      have f1 : IntKind.i64.wrap (oE * D) = oE * D := IntWalk.i64_in _ (by omega)
      have f2 : IntKind.i64.wrap (oG * N) = oG * N := IntWalk.i64_in _ (by omega)
      clear hab q1 q2 q3 q4 m0 m1 m2 m3
      go_wp2_with fail
      refine km1.mono ?_
      rintro _ wm ⟨rfl, rfl⟩
      go_wp2_with fail
      refine kf1.mono ?_
      rintro _ w3 ⟨rfl, hb3⟩
      have D0 : Cs w3 w.heap.size #[.int .i64 N, .int .i64 D] := Cs.keep csA hb3
      have Hown3 := Lib.hid (own_keepI Hown.out hb3)
      have hs3 : w.heap.size + 1 ≤ w3.heap.size := Nat.le_trans hsW hb3.size
      have hbw3 : Below w.heap.size w w3 := blA
      clear hb3 km1 kf1 B0 Hown
      have cD0 := D0.c
      have fD0 := D0.f
      have lD0 := D0.lt
      by_cases hp : oG * N < oE * D
      · have Hst2 : Hid (regL zs n (N, D) (k + 1) = regL zs n (N, D) k ++ [(k : Int)]) := Lib.hid (by rw [Hst.out, if_pos hp])
        clear Hst
        go_wp2_with (at_builtin; refine list_ownI rfl _ _ rfl (w.heap.size + 1) _ _ (regL zs n (N, D) k) (by rfl) (own_keepI Hown3.out blA) (w3.heap.size + 1) (k : Nat) (by rfl) (by simp) (by omega) (by simp; omega) ?_; intro g5 c5 w5 hown5 hb5)
        go_roundw
        case rel => exact ⟨k + 1, len + 1, _, by omega, by go_num, Lib.hid rfl, Lib.hid (by rw [Hst2.out, List.length_append, ← Hlen.out]; rfl), Lib.hid (by rw [Hst2.out]; exact hown5), by have := hb5.size; simp at this; omega, ((D0.alloc _).alloc _).of_heap hb5.size (hb5.block _ (Nat.lt_succ_self _)), (balloc (balloc hbw3 _) _).trans (hb5.mono (Nat.le_succ _))⟩
        case measure => simp [intOf]; omega
      · have Hst2 : Hid (regL zs n (N, D) (k + 1) = regL zs n (N, D) k) := Lib.hid (by rw [Hst.out, if_neg hp])
        clear Hst
        go_wp2_with fail
        go_roundw
        case rel => exact ⟨k + 1, len, _, by omega, by go_num, Lib.hid rfl, Lib.hid (by rw [Hst2.out]; exact Hlen.out), Lib.hid (by rw [Hst2.out]; exact own_keepI Hown3.out blA), by simp; omega, csA, blA⟩
        case measure => simp [intOf]; omega
    · obtain rfl : k = M := by omega
      have km1 := km W hbw
      obtain ⟨A5, c5, rfl, h5, hf5⟩ := own_intsI Hlen.out.symm Hown.out
      clear Hown
      go_wp2_with fail
      refine km1.mono ?_
      rintro _ wm ⟨rfl, rfl⟩
      go_wp2_with fail
      go_ret
      exact ⟨A5, len, c5, rfl, h5, hbw, fun b off h e => by have := hf5 b off h e; omega⟩

end Go.Proofs.Ytcmllkjgggcghaa
end

/- Walks of the reference of layer 10: Region. -/
section
namespace Go.Proofs.Ytcmllkjgggcghaa
open Go.RowKit Go.Shelf
set_option linter.unusedSimpArgs false
set_option linter.unusedVariables false

set_option maxHeartbeats 1000000 in
theorem rregionE_any (A : Option Addr) (n c : Nat) (zs : List Pl) (N D : Int) (w : World) (hz : Plates w A n zs) (hn : n ≤ 9223372036854775807) :
    Calls Try.prog 16 #[.slice A n c, .agg #[.int .i64 N, .int .i64 D]] w (RetLE (regionP zs n N D) w) := by
  have kn := fun (W : World) (hb : Below w.heap.size w W) => rcheckTest_any A n c zs W (hz.below hb) hn
  by_cases ht : testE zs = 0
  · obtain ⟨t1, t2, hg⟩ := testE_ok ht
    have hl := hz.1
    rw [ht] at kn
    have kv := fun W => risThreshold_any N D W
    by_cases hv : isTh N D = true
    · obtain ⟨v1, v2, v3, v4, _⟩ := isTh_bd hv
      have kr := fun (W : World) (hb : Below w.heap.size w W) => rregion_any A n c zs N D W (hz.below hb) (by omega) hg v1 v2 (by omega) v4
      have hR : regionP zs n N D = (regL zs n (N, D) (manyT zs), 0) := by simp [regionP, ht, hv]
      rw [hR]
      rw [hv] at kv
      clear hR ht hv hg v1 v2 v3 v4
      unfold RetLE
      go_enter Try.func16, Try.ntmps16
      go_wp2_with fail
      refine (kn _ blA).mono ?_
      rintro e w1 ⟨rfl, hb1⟩
      replace B0 : Cs w1 (w.heap.size) #[.int .i64 N, .int .i64 D] := Cs.keep csA hb1
      replace hbw : Below w.heap.size w w1 := blA
      replace cB0 := B0.c
      replace fB0 := B0.f
      replace lB0 := B0.lt
      clear hb1
      go_wp2_with fail
      refine (kv _).mono ?_
      rintro e w2 ⟨rfl, hb2⟩
      replace B0 : Cs w2 (w.heap.size) #[.int .i64 N, .int .i64 D] := Cs.keep csA hb2
      replace hbw : Below w.heap.size w w2 := blA
      replace cB0 := B0.c
      replace fB0 := B0.f
      replace lB0 := B0.lt
      clear hb2
      go_wp2_with fail
      refine (kr _ blA).mono ?_
      rintro _ w3 ⟨A3, n3, c3, rfl, h3, hb3, _⟩
      try clear cB0 fB0 lB0
      try clear B0
      replace hbw : Below w.heap.size w w3 := blA
      clear hb3
      clear kn kv kr
      go_wp2_with fail
      go_ret2
      exact ⟨A3, n3, c3, rfl, h3, hbw⟩
    · have hv' : isTh N D = false := by simpa using hv
      have hR : regionP zs n N D = ([], 2) := by simp [regionP, ht, hv']
      rw [hR]
      rw [hv'] at kv
      clear hR ht hv hv' hg
      unfold RetLE
      go_enter Try.func16, Try.ntmps16
      go_wp2_with fail
      refine (kn _ blA).mono ?_
      rintro e w1 ⟨rfl, hb1⟩
      replace B0 : Cs w1 (w.heap.size) #[.int .i64 N, .int .i64 D] := Cs.keep csA hb1
      replace hbw : Below w.heap.size w w1 := blA
      replace cB0 := B0.c
      replace fB0 := B0.f
      replace lB0 := B0.lt
      clear hb1
      go_wp2_with fail
      refine (kv _).mono ?_
      rintro e w2 ⟨rfl, hb2⟩
      try clear cB0 fB0 lB0
      try clear B0
      replace hbw : Below w.heap.size w w2 := blA
      clear hb2
      clear kn kv
      go_wp2_with fail
      go_ret2
      exact ⟨none, 0, 0, rfl, Ints.nil _ _, hbw⟩
  · have hR : regionP zs n N D = ([], testE zs) := by simp [regionP, ht]
    rw [hR]
    have h0 : (testE zs == 0) = false := by simp [ht]
    have h1 : (testE zs != 0) = true := by simp [ht]
    generalize testE zs = e at *
    clear hR ht
    unfold RetLE
    go_enter Try.func16, Try.ntmps16
    go_wp2_with fail
    refine (kn _ blA).mono ?_
    rintro e w1 ⟨rfl, hb1⟩
    try clear cB0 fB0 lB0
    try clear B0
    replace hbw : Below w.heap.size w w1 := blA
    clear hb1
    go_wp2_with fail
    refine (kn _ blA).mono ?_
    rintro e w2 ⟨rfl, hb2⟩
    try clear cB0 fB0 lB0
    try clear B0
    replace hbw : Below w.heap.size w w2 := blA
    clear hb2
    clear kn
    go_wp2_with fail
    go_ret2
    exact ⟨none, 0, 0, rfl, Ints.nil _ _, hbw⟩

end Go.Proofs.Ytcmllkjgggcghaa
end

/- Walks of the reference of layer 10: CheckBest. -/
section
namespace Go.Proofs.Ytcmllkjgggcghaa
open Go.RowKit Go.Shelf
set_option linter.unusedSimpArgs false
set_option linter.unusedVariables false

theorem contains_take {ks : List Int} {x : Int} {j : Nat} (hj : j < ks.length) : (ks.take (j + 1)).contains x = ((ks.take j).contains x || (ks.getD j 0 == x)) := by
  rw [List.take_add_one, List.getElem?_eq_getElem hj, List.getD_eq_getElem?_getD, List.getElem?_eq_getElem hj, Bool.eq_iff_iff, Bool.or_eq_true, List.contains_iff_mem, List.contains_iff_mem, List.mem_append]
  simp only [Option.toList_some, List.mem_singleton, Option.getD_some, beq_iff_eq]
  exact or_congr Iff.rfl eq_comm

set_option maxHeartbeats 1000000 in
theorem rcheckBest_err (A B : Option Addr) (n c Nn C : Nat) (zs : List Pl) (ks : List Int) (N D : Int) (w : World) (hz : Plates w A n zs) (hn : n ≤ 9223372036854775807) (hk : Ints w B Nn ks) (hN : Nn ≤ 9223372036854775807) (hs : rsetP zs ks ≠ 0) :
    Calls Try.prog 19 #[.slice A n c, .slice B Nn C, .agg #[.int .i64 N, .int .i64 D]] w (RetI (rsetP zs ks) w) := by
  have k1 := fun (W : World) (hb : Below w.heap.size w W) => rset_any A B n c Nn C zs ks W (hz.below hb) hn (hk.below hb) hN
  have h0 : (rsetP zs ks == 0) = false := by simp [hs]
  have h1 : (rsetP zs ks != 0) = true := by simp [hs]
  unfold RetI at *
  generalize rsetP zs ks = e at *
  clear hs hz hk
  go_enter Try.func19, Try.ntmps19
  go_wp2_with fail
  refine (k1 _ blA).mono ?_
  rintro e w1 ⟨rfl, hb1⟩
  replace hbw : Below w.heap.size w w1 := blA
  clear hb1
  go_wp2_with fail
  refine (k1 _ blA).mono ?_
  rintro e w2 ⟨rfl, hb2⟩
  replace hbw : Below w.heap.size w w2 := blA
  clear hb2
  go_wp2_with fail
  go_ret
  exact ⟨rfl, hbw⟩

set_option maxHeartbeats 1000000 in
theorem rcheckBest_th (A B : Option Addr) (n c Nn C : Nat) (zs : List Pl) (ks : List Int) (N D : Int) (w : World) (hz : Plates w A n zs) (hn : n ≤ 9223372036854775807) (hk : Ints w B Nn ks) (hN : Nn ≤ 9223372036854775807) (hs : rsetP zs ks = 0) (hv : isTh N D = false) :
    Calls Try.prog 19 #[.slice A n c, .slice B Nn C, .agg #[.int .i64 N, .int .i64 D]] w (RetI 2 w) := by
  have k1 := fun (W : World) (hb : Below w.heap.size w W) => rset_any A B n c Nn C zs ks W (hz.below hb) hn (hk.below hb) hN
  rw [hs] at k1
  have kv := fun W => risThreshold_any N D W
  rw [hv] at kv
  unfold RetI at *
  clear hs hz hk hv
  go_enter Try.func19, Try.ntmps19
  go_wp2_with fail
  refine (k1 _ blA).mono ?_
  rintro e w1 ⟨rfl, hb1⟩
  replace B0 : Cs w1 (w.heap.size) #[.int .i64 N, .int .i64 D] := Cs.keep csA hb1
  replace hbw : Below w.heap.size w w1 := blA
  replace cB0 := B0.c
  replace fB0 := B0.f
  replace lB0 := B0.lt
  clear hb1
  go_wp2_with fail
  refine (kv _).mono ?_
  rintro e w2 ⟨rfl, hb2⟩
  try clear cB0 fB0 lB0
  try clear B0
  replace hbw : Below w.heap.size w w2 := blA
  clear hb2
  go_wp2_with fail
  go_ret
  exact ⟨rfl, hbw⟩

set_option maxRecDepth 10000 in
set_option maxHeartbeats 2000000 in
theorem rcheckBest_ok (A B : Option Addr) (n c Nn C : Nat) (zs : List Pl) (ks : List Int) (N D : Int) (w : World) (hz : Plates w A n zs) (hn : n ≤ 6) (hk : Ints w B Nn ks) (ht : testE zs = 0) (hs : setE (manyT zs) ks = 0) (hv : isTh N D = true) (res : Int) (hres : res = if cbB (ocG zs n) (ocE zs n) ks N D (manyT zs) then 0 else 14) :
    Calls Try.prog 19 #[.slice A n c, .slice B Nn C, .agg #[.int .i64 N, .int .i64 D]] w (RetI res w) := by
  obtain ⟨t1, t2, hg⟩ := testE_ok ht
  obtain ⟨v1, v2, v3, v4, _⟩ := isTh_bd hv
  have hso := setE_ok hs
  have hM2 := many_le hz.1 hn hg
  have hkl := hk.1
  have hNn : Nn ≤ 4096 := by have := hso.len; omega
  have k1 := fun (W : World) (hb : Below w.heap.size w W) => rset_any A B n c Nn C zs ks W (hz.below hb) (by omega) (hk.below hb) (by omega)
  rw [show rsetP zs ks = 0 by simp [rsetP, ht, hs]] at k1
  have kv := fun W => risThreshold_any N D W
  rw [hv] at kv
  have km := fun (W : World) (hb : Below w.heap.size w W) => many_same A n c zs W (hz.below hb) hn hg (manyT zs) rfl
  have kf := fun (W : World) (k : Nat) (hb : Below w.heap.size w W) (hk : k < manyT zs) => of10_any A n c k zs W (hz.below hb) hn hg (by rw [mt_all hz.1]; exact hk) (by omega)
  have Hb := Lib.hid (fun k hk => oc_bd (N := k) hz.1 hg hz.2.2 hn hk)
  have Hk := Lib.hid hk
  have Hres := Lib.hid hres
  have Hkf := Lib.hid kf
  have Hkm := Lib.hid km
  unfold RetI at *
  generalize hM : manyT zs = M at *
  clear hz hg ht t1 t2 hk hs hv hso hres kf km hM
  go_enter Try.func19, Try.ntmps19
  go_wp2_with fail
  refine (k1 _ blA).mono ?_
  rintro e w1 ⟨rfl, hb1⟩
  replace B0 : Cs w1 (w.heap.size) #[.int .i64 N, .int .i64 D] := Cs.keep csA hb1
  replace hbw : Below w.heap.size w w1 := blA
  replace cB0 := B0.c
  replace fB0 := B0.f
  replace lB0 := B0.lt
  clear hb1
  go_wp2_with fail
  refine (kv _).mono ?_
  rintro e w2 ⟨rfl, hb2⟩
  replace B0 : Cs w2 (w.heap.size) #[.int .i64 N, .int .i64 D] := Cs.keep csA hb2
  replace hbw : Below w.heap.size w w2 := blA
  replace cB0 := B0.c
  replace fB0 := B0.f
  replace lB0 := B0.lt
  clear hb2
  clear k1 kv
  go_wp2_with fail
  go_loopw [7] (fun s7 wx => ∃ (k : Nat) (W : World), k ≤ M ∧ s7 = .int .i64 (k : Nat) ∧ Hid (W = wx) ∧ Hid (∀ i, i < k → badO (ocG zs n) (ocE zs n) ks N D i = false) ∧ Cs W w.heap.size #[.int .i64 N, .int .i64 D] ∧ Below w.heap.size w W) (fun s7 _ => M - (intOf s7).toNat)
  case atStart => exact ⟨0, _, Nat.zero_le _, rfl, Lib.hid rfl, Lib.hid (fun i hi => absurd hi (by omega)), B0, hbw⟩
  case round =>
    clear hbw B0 cB0 fB0 lB0
    obtain ⟨k, W, hkM, rfl, HW, Hpre, B0, hbw⟩ := hrel
    obtain rfl := HW.out
    clear HW
    have km1 := Hkm.out W hbw
    by_cases hlt : k < M
    · have hltI : (k : Int) < (M : Int) := by omega
      have kf1 := Hkf.out W k hbw hlt
      rw [show oddG zs (digs zs n k) n = ocG zs n k from rfl, show oddE zs (digs zs n k) n = ocE zs n k from rfl] at kf1
      obtain ⟨q1, q2, q3, q4⟩ := Hb.out k hlt
      have hbo : badO (ocG zs n) (ocE zs n) ks N D k = ((ks.contains (k : Int) && decide (ocE zs n k * D - ocG zs n k * N < 0)) || (!ks.contains (k : Int) && decide (0 < ocE zs n k * D - ocG zs n k * N))) := rfl
      have Hnext : Hid (badO (ocG zs n) (ocE zs n) ks N D k = false → ∀ i, i < k + 1 → badO (ocG zs n) (ocE zs n) ks N D i = false) := Lib.hid (fun h i hi => by
        by_cases e : i = k
        · rw [e]; exact h
        · exact Hpre.out i (by omega))
      have Hstop : Hid (badO (ocG zs n) (ocE zs n) ks N D k = true → res = 14) := Lib.hid (fun h => by rw [Hres.out, if_neg (by rw [cbB_f hlt h]; decide)])
      generalize badO (ocG zs n) (ocE zs n) ks N D k = bo at *
      generalize ocG zs n k = oG at *
      generalize ocE zs n k = oE at *
      have m0 : 0 ≤ oE * D := Int.mul_nonneg q3 (by omega)
      have m1 : oE * D ≤ 64000000 * 1000000000 := Int.mul_le_mul q4 v4 (by omega) (by omega)
      have m2 : 0 ≤ oG * N := Int.mul_nonneg q1 v1
      have m3 : oG * N ≤ 64000000 * 1000000000 := Int.mul_le_mul q2 v2 v1 (by omega)
      have f1 : IntKind.i64.wrap (oE * D) = oE * D := IntWalk.i64_in _ (by omega)
      have f2 : IntKind.i64.wrap (oG * N) = oG * N := IntWalk.i64_in _ (by omega)
      have Hbo := Lib.hid hbo
      clear Hpre hbo q1 q2 q3 q4 m0 m1 m2 m3
      go_wp2_with fail
      refine km1.mono ?_
      rintro _ wm ⟨rfl, rfl⟩
      go_wp2_with fail
      refine kf1.mono ?_
      rintro _ w3 ⟨rfl, hb3⟩
      have D0 : Cs w3 w.heap.size #[.int .i64 N, .int .i64 D] := Cs.keep csA hb3
      have hbw3 : Below w.heap.size w w3 := blA
      clear hb3 km1 kf1 B0
      go_wp2_with fail
      have D8 : Cs (w3.alloc (.cells #[.int .i64 oG, .int .i64 oE] 59)) w3.heap.size #[.int .i64 oG, .int .i64 oE] := csA
      have D08 := D0.alloc (.cells #[.int .i64 oG, .int .i64 oE] 59)
      have hb8 := balloc hbw3 (.cells #[.int .i64 oG, .int .i64 oE] 59)
      clear D0 hbw3
      generalize w3.alloc (.cells #[.int .i64 oG, .int .i64 oE] 59) = W8 at *
      generalize w3.heap.size = g8 at *
      go_loopw [9, 10] (fun s9 s10 wx => ∃ (j : Nat) (t : Bool), j ≤ Nn ∧ s10 = .int .i64 (j : Nat) ∧ s9 = .bool t ∧ Hid (t = (ks.take j).contains (k : Int)) ∧ wx = W8) (fun _ s10 _ => Nn - (intOf s10).toNat)
      case atStart => exact ⟨0, false, Nat.zero_le _, rfl, rfl, Lib.hid (by simp), rfl⟩
      case round =>
        obtain ⟨j, t, hj, rfl, rfl, Ht, rfl⟩ := hrel
        by_cases hjn : j < Nn
        · have hjI : (j : Int) < (Nn : Int) := by omega
          obtain ⟨b, off, rfl, hb, hc⟩ := Hk.out.2 (by omega)
          have hx : wr.cell? ⟨b, off + j, none⟩ = some (.int .i64 (ks.getD j 0)) := (hb8.cell (p := ⟨b, off + j, none⟩) hb).trans (hc j hjn)
          have Ht2 : Hid ((t || (ks.getD j 0 == (k : Int))) = (ks.take (j + 1)).contains (k : Int)) := Lib.hid (by rw [contains_take (by omega), ← Ht.out])
          clear hc Ht
          generalize ks.getD j 0 = x at *
          cases t with
          | true =>
            replace Ht2 : Hid (true = (ks.take (j + 1)).contains (k : Int)) := Lib.hid (by rw [← Ht2.out]; rfl)
            go_wp2_with fail
            go_roundw
            case rel => exact ⟨j + 1, true, by omega, by go_num, rfl, Ht2, by trivial⟩
            case measure => simp [intOf]; omega
          | false =>
            replace Ht2 : Hid ((x == (k : Int)) = (ks.take (j + 1)).contains (k : Int)) := Lib.hid (by rw [← Ht2.out]; simp)
            go_wp2_with fail
            go_roundw
            case rel => exact ⟨j + 1, (x == (k : Int)), by omega, by go_num, by first | rfl | trivial, Ht2, by trivial⟩
            case measure => simp [intOf]; omega
        · obtain rfl : j = Nn := by omega
          have Ht2 : Hid (t = ks.contains (k : Int)) := Lib.hid (by rw [Ht.out, List.take_of_length_le (by omega)])
          have hbo2 := Hbo.out
          rw [← Ht2.out] at hbo2
          clear Ht Ht2 Hbo
          have cD8 := D8.c
          have fD8 := D8.f
          have lD8 := D8.lt
          have cD08 := D08.c
          have fD08 := D08.f
          have lD08 := D08.lt
          cases t with
          | true =>
            by_cases hv1 : oE * D < oG * N
            · have h14 := Hstop.out (by rw [hbo2]; simp; omega)
              clear Hstop Hnext hbo2
              go_wp2_with fail
              go_ret
              exact ⟨ret_int h14.symm, hb8⟩
            · have hn2 := Lib.hid (Hnext.out (by rw [hbo2]; simp; omega))
              clear Hstop Hnext hbo2
              go_wp2_with fail
              go_roundw
              case rel => exact ⟨k + 1, _, by omega, by go_num, Lib.hid rfl, hn2, D08, hb8⟩
              case measure => simp [intOf]; omega
          | false =>
            by_cases hv1 : oG * N < oE * D
            · have h14 := Hstop.out (by rw [hbo2]; simp; omega)
              clear Hstop Hnext hbo2
              go_wp2_with fail
              go_ret
              exact ⟨ret_int h14.symm, hb8⟩
            · have hn2 := Lib.hid (Hnext.out (by rw [hbo2]; simp; omega))
              clear Hstop Hnext hbo2
              go_wp2_with fail
              go_roundw
              case rel => exact ⟨k + 1, _, by omega, by go_num, Lib.hid rfl, hn2, D08, hb8⟩
              case measure => simp [intOf]; omega
    · obtain rfl : k = M := by omega
      have h0 : res = 0 := by rw [Hres.out, if_pos (cbB_t Hpre.out)]
      clear Hpre Hres
      go_wp2_with fail
      refine km1.mono ?_
      rintro _ wm ⟨rfl, rfl⟩
      go_wp2_with fail
      go_ret
      exact ⟨ret_int (by first | exact h0.symm | rfl), hbw⟩

theorem rcheckBest_any (A B : Option Addr) (n c Nn C : Nat) (zs : List Pl) (ks : List Int) (N D : Int) (w : World) (hz : Plates w A n zs) (hn : n ≤ 9223372036854775807) (hk : Ints w B Nn ks) (hN : Nn ≤ 9223372036854775807) :
    Calls Try.prog 19 #[.slice A n c, .slice B Nn C, .agg #[.int .i64 N, .int .i64 D]] w (RetI (checkBestP zs n ks N D) w) := by
  by_cases hs : rsetP zs ks = 0
  · by_cases ht : testE zs = 0
    · have hs2 : setE (manyT zs) ks = 0 := by simpa [rsetP, ht] using hs
      have hl := hz.1
      obtain ⟨t1, t2, _⟩ := testE_ok ht
      cases hv : isTh N D with
      | true =>
        rw [show checkBestP zs n ks N D = if cbB (ocG zs n) (ocE zs n) ks N D (manyT zs) then 0 else 14 by simp [checkBestP, ht, hs2, hv]]
        exact rcheckBest_ok A B n c Nn C zs ks N D w hz (by omega) hk ht hs2 hv _ rfl
      | false =>
        rw [show checkBestP zs n ks N D = 2 by simp [checkBestP, ht, hs2, hv]]
        exact rcheckBest_th A B n c Nn C zs ks N D w hz hn hk hN hs hv
    · exact absurd hs (by simp [rsetP, ht])
  · have h2 := rcheckBest_err A B n c Nn C zs ks N D w hz hn hk hN hs
    by_cases ht : testE zs = 0
    · have e : checkBestP zs n ks N D = rsetP zs ks := by
        have hs2 : setE (manyT zs) ks ≠ 0 := by simpa [rsetP, ht] using hs
        simp [checkBestP, rsetP, ht, hs2]
      rw [e]; exact h2
    · have e : checkBestP zs n ks N D = rsetP zs ks := by simp [checkBestP, rsetP, ht]
      rw [e]; exact h2

end Go.Proofs.Ytcmllkjgggcghaa
end
