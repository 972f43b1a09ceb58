/- EF4 EF5 EF6 -/
import Derived.Test.YtcmllkjgggcghaaEZ13
import Derived.Test.YtcmllkjgggcghaaEZ04
import Derived.Test.YtcmllkjgggcghaaEZ08
/- Walks of package eye: CheckBest. -/
section
namespace Go.Proofs.Ytcmllkjgggcghaa
open Go.RowKit Go.Shelf
set_option linter.unusedSimpArgs false
set_option linter.unusedVariables false
attribute [local go_sem] Oper.semAt_some

/-- an outcome that a threshold does not prove to be where it is -/
def badO (g e : Nat → Int) (ks : List Int) (N D : Int) (k : Nat) : Bool :=
  (ks.contains (k : Int) && decide (e k * D - g k * N < 0)) || (!ks.contains (k : Int) && decide (0 < e k * D - g k * N))
/-- all are where they are -/
def cbB (g e : Nat → Int) (ks : List Int) (N D : Int) (M : Nat) : Bool := (List.range M).all fun k => !badO g e ks N D k
theorem cbB_f {g e : Nat → Int} {ks : List Int} {N D : Int} {M k : Nat} (hk : k < M) (h : badO g e ks N D k = true) : cbB g e ks N D M = false := by
  unfold cbB
  rw [Bool.eq_false_iff]
  intro hx
  have := List.all_eq_true.1 hx k (List.mem_range.2 hk)
  rw [h] at this
  cases this
theorem cbB_t {g e : Nat → Int} {ks : List Int} {N D : Int} {M : Nat} (h : ∀ k, k < M → badO g e ks N D k = false) : cbB g e ks N D M = true := by
  unfold cbB
  rw [List.all_eq_true]
  intro k hk
  rw [h k (List.mem_range.1 hk)]; rfl

/-- what CheckBest answers -/
def checkBestP (zs : List Pl) (n : Nat) (ks : List Int) (N D : Int) : Int :=
  if testE zs ≠ 0 then testE zs else if setE (manyT zs) ks ≠ 0 then setE (manyT zs) ks else if isTh N D then (if cbB (ocG zs n) (ocE zs n) ks N D (manyT zs) then 0 else 14) else 2

def RetI (x : Int) (w : World) (e : Ending) (w' : World) : Prop := e = .returned (.int .i64 x) ∧ Below w.heap.size w w'

set_option maxHeartbeats 1000000 in
theorem checkBest_bad (A B : Option Addr) (n c Nn C : Nat) (zs : List Pl) (ks : List Int) (N D : Int) (w : World) (hz : Plates w A n zs) (hn : n ≤ 9223372036854775807) (ht : testE zs ≠ 0) :
    Calls Try.prog 18 #[.slice A n c, .slice B Nn C, .agg #[.int .i64 N, .int .i64 D]] w (RetI (testE zs) w) := by
  have kn := fun (W : World) (hb : Below w.heap.size w W) => newTest_bad A n c zs W (hz.below hb) hn ht
  have h0 : (testE zs == 0) = false := by simp [ht]
  have h1 : (testE zs != 0) = true := by simp [ht]
  unfold RetI
  generalize testE zs = e at *
  clear ht hz
  go_enter Try.func18, Try.ntmps18
  go_wp2_with fail
  refine (kn _ blA).mono ?_
  rintro _ w1 ⟨rfl, hb1⟩
  replace B0 : Cs w1 (w.heap.size + 1) #[.int .i64 0] := Cs.keep csA hb1
  replace hbw : Below w.heap.size w w1 := blA
  replace cB0 := B0.c
  replace fB0 := B0.f
  replace lB0 := B0.lt
  clear hb1
  clear kn
  go_wp2_with fail
  have B1 := B0.set 0 (.int .i64 e) (by simp)
  have cB1 := B1.c
  have hbF := bset hbw (p := ⟨w.heap.size + 1, 0, none⟩) (by show w.heap.size ≤ w.heap.size + 1; omega) (.int .i64 e)
  exact bodyPost_ret (v := .int .i64 e) (by simp [results, Try.results18, go_sem, cB0, fB0, lB0, cB1]) rfl ⟨rfl, hbF⟩

set_option maxHeartbeats 1000000 in
theorem checkBest_set (A B : Option Addr) (n c Nn C : Nat) (zs : List Pl) (ks : List Int) (N D : Int) (w : World) (hz : Plates w A n zs) (hn : n ≤ 9223372036854775807) (hk : Ints w B Nn ks) (hN : Nn ≤ 9223372036854775807) (ht : testE zs = 0) (hs : setE (manyT zs) ks ≠ 0) :
    Calls Try.prog 18 #[.slice A n c, .slice B Nn C, .agg #[.int .i64 N, .int .i64 D]] w (RetI (setE (manyT zs) ks) w) := by
  have kn := fun (W : World) (hb : Below w.heap.size w W) => newTest_ok A n c zs W (hz.below hb) hn ht
  have kc := fun (W : World) (g : Nat) (hb : Below w.heap.size w W) (hB : Cs W g #[.slice A n c, .int .i64 (manyT zs : Nat)]) => check_any A B n c (manyT zs) g Nn C ks W (hk.below hb) hN hB _ rfl
  have h0 : (setE (manyT zs) ks == 0) = false := by simp [hs]
  have h1 : (setE (manyT zs) ks != 0) = true := by simp [hs]
  unfold RetI
  generalize setE (manyT zs) ks = e at *
  clear ht hz hs hk
  go_enter Try.func18, Try.ntmps18
  go_wp2_with fail
  refine (kn _ blA).mono ?_
  rintro _ w1 ⟨g, rfl, hgw, Bg, hb1⟩
  replace B0 : Cs w1 (w.heap.size + 1) #[.int .i64 0] := Cs.keep csA hb1
  replace hbw : Below w.heap.size w w1 := blA
  replace cB0 := B0.c
  replace fB0 := B0.f
  replace lB0 := B0.lt
  clear hb1
  clear kn
  go_wp2_with fail
  refine (kc _ _ blA csA).mono ?_
  rintro _ w2 ⟨rfl, hb2⟩
  replace B0 : Cs w2 (w.heap.size + 1) #[.int .i64 0] := Cs.keep csA hb2
  replace hbw : Below w.heap.size w w2 := blA
  replace cB0 := B0.c
  replace fB0 := B0.f
  replace lB0 := B0.lt
  clear hb2
  clear kc
  go_wp2_with fail
  have B1 := B0.set 0 (.int .i64 e) (by simp)
  have cB1 := B1.c
  have hbF := bset hbw (p := ⟨w.heap.size + 1, 0, none⟩) (by show w.heap.size ≤ w.heap.size + 1; omega) (.int .i64 e)
  exact bodyPost_ret (v := .int .i64 e) (by simp [results, Try.results18, go_sem, cB0, fB0, lB0, cB1]) rfl ⟨rfl, hbF⟩

set_option maxHeartbeats 1000000 in
theorem checkBest_th (A B : Option Addr) (n c Nn C : Nat) (zs : List Pl) (ks : List Int) (N D : Int) (w : World) (hz : Plates w A n zs) (hn : n ≤ 9223372036854775807) (hk : Ints w B Nn ks) (hN : Nn ≤ 9223372036854775807) (ht : testE zs = 0) (hs : setE (manyT zs) ks = 0) (hv : isTh N D = false) :
    Calls Try.prog 18 #[.slice A n c, .slice B Nn C, .agg #[.int .i64 N, .int .i64 D]] w (RetI 2 w) := by
  have kn := fun (W : World) (hb : Below w.heap.size w W) => newTest_ok A n c zs W (hz.below hb) hn ht
  have kc := fun (W : World) (g : Nat) (hb : Below w.heap.size w W) (hB : Cs W g #[.slice A n c, .int .i64 (manyT zs : Nat)]) => check_any A B n c (manyT zs) g Nn C ks W (hk.below hb) hN hB _ hs.symm
  have kv := fun W => valid_any N D W
  rw [hv] at kv
  unfold RetI
  clear ht hz hs hk hv
  go_enter Try.func18, Try.ntmps18
  go_wp2_with fail
  refine (kn _ blA).mono ?_
  rintro _ w1 ⟨g, rfl, hgw, Bg, hb1⟩
  replace B0 : Cs w1 (w.heap.size + 1) #[.int .i64 0] := Cs.keep csA hb1
  replace B2 : Cs w1 (w.heap.size) #[.int .i64 N, .int .i64 D] := Cs.keep csA hb1
  replace hbw : Below w.heap.size w w1 := blA
  replace cB0 := B0.c
  replace fB0 := B0.f
  replace lB0 := B0.lt
  replace cB2 := B2.c
  replace fB2 := B2.f
  replace lB2 := B2.lt
  clear hb1
  clear kn
  go_wp2_with fail
  refine (kc _ _ blA csA).mono ?_
  rintro _ w2 ⟨rfl, hb2⟩
  replace B0 : Cs w2 (w.heap.size + 1) #[.int .i64 0] := Cs.keep csA hb2
  replace B2 : Cs w2 (w.heap.size) #[.int .i64 N, .int .i64 D] := Cs.keep csA hb2
  replace hbw : Below w.heap.size w w2 := blA
  replace cB0 := B0.c
  replace fB0 := B0.f
  replace lB0 := B0.lt
  replace cB2 := B2.c
  replace fB2 := B2.f
  replace lB2 := B2.lt
  clear hb2
  clear kc
  go_wp2_with fail
  refine (kv _).mono ?_
  rintro _ w3 ⟨rfl, hb3⟩
  try clear cB2 fB2 lB2
  try clear B2
  replace B0 : Cs w3 (w.heap.size + 1) #[.int .i64 0] := Cs.keep csA hb3
  replace hbw : Below w.heap.size w w3 := blA
  replace cB0 := B0.c
  replace fB0 := B0.f
  replace lB0 := B0.lt
  clear hb3
  clear kv
  go_wp2_with fail
  have B1 := B0.set 0 (.int .i64 2) (by simp)
  have cB1 := B1.c
  have hbF := bset hbw (p := ⟨w.heap.size + 1, 0, none⟩) (by show w.heap.size ≤ w.heap.size + 1; omega) (.int .i64 2)
  exact bodyPost_ret (v := .int .i64 2) (by simp [results, Try.results18, go_sem, cB0, fB0, lB0, cB1]) rfl ⟨rfl, hbF⟩

end Go.Proofs.Ytcmllkjgggcghaa
end

/- Walks of package eye: CheckBest of a valid set and threshold. -/
section
namespace Go.Proofs.Ytcmllkjgggcghaa
open Go.RowKit Go.Shelf
set_option linter.unusedSimpArgs false
set_option linter.unusedVariables false
attribute [local go_sem] Oper.semAt_some

theorem Row.alloc {W : World} {g n : Nat} {h : Nat → Nat} (hr : Row W g n h) (o : Obj) : Row (W.alloc o) g n h :=
  ⟨by simp; have := hr.lt; omega, fun i hi => (World.cell?_alloc_lt _ _ _ hr.lt).trans (hr.c i hi), fun i => by rw [World.frozen?_alloc_old W _ _ (by show g ≠ _; have := hr.lt; omega)]; exact hr.free i⟩
theorem Row.zeros (w : World) (n : Nat) : Row (w.alloc (.cells (madeCells #[.int .i64 0] n) 3)) w.heap.size n (fun _ => 0) := by
  refine ⟨by simp, fun i hi => ?_, fun i => by simp⟩
  simp [madeCells, hi, Nat.mod_one]

set_option maxRecDepth 100000 in
set_option maxHeartbeats 1000000 in
theorem checkBest_ok (A B : Option Addr) (n c Nn C : Nat) (zs : List Pl) (ks : List Int) (N D : Int) (w : World) (hz : Plates w A n zs) (hn : n ≤ 6) (hk : Ints w B Nn ks) (ht : testE zs = 0) (hs : setE (manyT zs) ks = 0) (hv : isTh N D = true) (res : Int) (hres : res = if cbB (ocG zs n) (ocE zs n) ks N D (manyT zs) then 0 else 14) :
    Calls Try.prog 18 #[.slice A n c, .slice B Nn C, .agg #[.int .i64 N, .int .i64 D]] w (RetI res w) := by
  obtain ⟨t1, t2, hg⟩ := testE_ok ht
  obtain ⟨v1, v2, v3, v4, _⟩ := isTh_bd hv
  have hso := setE_ok hs
  have hM2 := many_le hz.1 hn hg
  have hkl := hk.1
  have hNn : Nn ≤ 4096 := by have := hso.len; omega
  have kn := fun (W : World) (hb : Below w.heap.size w W) => newTest_ok A n c zs W (hz.below hb) (by omega) ht
  have kc := fun (W : World) (g : Nat) (hb : Below w.heap.size w W) (hB : Cs W g #[.slice A n c, .int .i64 (manyT zs : Nat)]) => check_any A B n c (manyT zs) g Nn C ks W (hk.below hb) (by omega) hB _ hs.symm
  have kv := fun W => valid_any N D W
  rw [hv] at kv
  have km := make_ints2 Nn (by omega)
  have Hb := Lib.hid (fun k hk => oc_bd (N := k) hz.1 hg hz.2.2 hn hk)
  have Hz := Lib.hid hz
  have Hg := Lib.hid hg
  have Hk := Lib.hid hk
  have Hso := Lib.hid hso
  have Hkl := Lib.hid hkl
  have Hres := Lib.hid hres
  unfold RetI
  refine (callsIn_wide (n := 8)).1 ?_
  refine callsIn_of_wp_marks Try.func18 rfl trivial ?_ rfl
  simp only [Try.ntmps18, List.size_toArray, List.length_cons, List.length_nil, Nat.reduceAdd, Nat.reduceSub, Array.replicate_succ, Array.replicate_zero, List.push_toArray, List.append_toArray, List.nil_append, List.cons_append]
  clear hz hg ht t1 t2 hk hs hv hso hkl hres
  gi_wp2_with fail
  refine ⟨trivial, (callsIn_wide.2 (kn _ blA)).mono ?_⟩
  rintro _ w1 ⟨g, rfl, hgw, Bg, hb1⟩
  have B5 : Cs w1 w.heap.size #[.int .i64 N, .int .i64 D] := Cs.keep csA hb1
  have B6 : Cs w1 (w.heap.size + 1) #[.int .i64 0] := Cs.keep csA hb1
  have hbw : Below w.heap.size w w1 := blA
  have hgw2 : w.heap.size + 2 ≤ g := by simpa using hgw
  clear kn hb1 hgw
  gi_wp2_with fail
  refine ⟨trivial, (callsIn_wide.2 (kc _ _ hbw Bg)).mono ?_⟩
  rintro _ w2 ⟨rfl, hb2⟩
  replace B5 := B5.keep hb2
  replace B6 := B6.keep hb2
  replace Bg := Bg.keep hb2
  replace hbw := hbw.trans (hb2.mono hbw.size)
  clear kc hb2
  have cB5 := B5.c
  have fB5 := B5.f
  have lB5 := B5.lt
  gi_wp2_with fail
  refine ⟨trivial, (callsIn_wide.2 (kv _)).mono ?_⟩
  rintro _ w3 ⟨rfl, hb3⟩
  clear cB5 fB5 lB5
  have B10 : Cs w3 w2.heap.size #[.int .i64 N, .int .i64 D] := Cs.keep csA hb3
  replace B6 : Cs w3 (w.heap.size + 1) #[.int .i64 0] := Cs.keep csA hb3
  replace Bg : Cs w3 g #[.slice A n c, .int .i64 (manyT zs : Nat)] := Cs.keep csA hb3
  replace hbw : Below w.heap.size w w3 := blA
  have hlt6 := B6.lt
  have hltg := Bg.lt
  have hlt10 := B10.lt
  clear kv hb3 B5
  obtain ⟨W0, hW0⟩ : ∃ W0, (w3.alloc (.cells (madeCells #[.int .i64 0] Nn) 3)).alloc (.cells #[.slice (some ⟨w3.heap.size, 0, none⟩) Nn Nn] 23) = W0 := ⟨_, rfl⟩
  have hb0 : Below w.heap.size w W0 := by rw [← hW0]; exact blA
  have D10 : Cs W0 w2.heap.size #[.int .i64 N, .int .i64 D] := by rw [← hW0]; exact csA
  have D6 : Cs W0 (w.heap.size + 1) #[.int .i64 0] := by rw [← hW0]; exact csA
  have Dg : Cs W0 g #[.slice A n c, .int .i64 (manyT zs : Nat)] := by rw [← hW0]; exact csA
  have D11 : Cs W0 (w3.heap.size + 1) #[.slice (some ⟨w3.heap.size, 0, none⟩) Nn Nn] := by rw [← hW0]; exact csA
  obtain ⟨Wc, hcr, hci, hct⟩ := copyI (Hk.out.below hb0) (g := w3.heap.size) (C := C) (by rw [← hW0]; exact (Row.zeros w3 Nn).alloc _)
  have E10 := D10.turns hct (by omega)
  have E6 := D6.turns hct (by omega)
  have Eg := Dg.turns hct (by omega)
  have E11 := D11.turns hct (by omega)
  have hbc := Turns.below hb0 hct (fun i hi => by have hi' : i = w3.heap.size := hi; have := hbw.size; omega) hb0.size
  clear D10 D6 Dg hct hb0 B10 B6 Bg
  have HE := Lib.hid (And.intro E10 (And.intro E6 (And.intro Eg (And.intro E11 (And.intro hci hbc)))))
  have hlt11 := E11.lt
  clear E10 E6 Eg E11 hci hbc
  have cD11 := D11.c
  have fD11 := D11.f
  have lD11 := D11.lt
  gi_wp2_with fail
  refine ⟨trivial, (callsIn_wide.2 (outcomes_any g _)).mono ?_⟩
  rintro _ w4 ⟨Bs, rfl, hBs, cBs, hb4⟩
  clear cD11 fD11 lD11
  clear D11 hcr hW0 km
  obtain ⟨E10, E6, Eg, E11, Ei, Eb⟩ := HE.out
  have hsc : w3.heap.size + 2 ≤ Wc.heap.size := hlt11
  replace E10 := E10.keep hb4
  replace E6 := E6.keep hb4
  replace Eg := Eg.keep hb4
  replace E11 := E11.keep hb4
  replace Ei := Ei.below hb4
  replace Eb := Eb.trans (hb4.mono Eb.size)
  have hs4 : Wc.heap.size ≤ w4.heap.size := hb4.size
  have hBs4 : Bs < w4.heap.size := World.block_lt_of_cell? w4 _ cBs
  have hs3 := hbw.size
  clear HE hb4
  gi_wp2_with fail
  obtain ⟨I, hId⟩ : ∃ I : Nat → World → Prop, I = fun k W => ∃ j off len, Cs W (w3.heap.size + 1) #[.slice (some ⟨w3.heap.size, off, none⟩) len len] ∧ len + j = Nn ∧ (0 < len → off = j) ∧ StandsAt ks j k ∧ (∀ i, i < k → badO (ocG zs n) (ocE zs n) ks N D i = false) ∧ Ints W (some ⟨w3.heap.size, 0, none⟩) Nn ks ∧ Cs W w2.heap.size #[.int .i64 N, .int .i64 D] ∧ Cs W (w.heap.size + 1) #[.int .i64 0] ∧ Below w.heap.size w W := ⟨_, rfl⟩
  obtain ⟨Ix, hXd⟩ : ∃ Ix : Code → Nat → World → Prop, Ix = fun c k W => c = .ret ∧ (∃ i, i < manyT zs ∧ badO (ocG zs n) (ocE zs n) ks N D i = true) ∧ Cs W (w.heap.size + 1) #[.int .i64 14] ∧ Below w.heap.size w W := ⟨_, rfl⟩
  have hI : ∀ k W W', I k W → Turns (fun i => i = w4.heap.size + 1 ∨ i = w4.heap.size + 2) W W' → I k W' := by
    intro k W W' h ht
    rw [hId] at h ⊢
    obtain ⟨j, off, len, h1, h2, h3, h4, h5, h6, h7, h8, h9⟩ := h
    exact ⟨j, off, len, h1.turns ht (by omega), h2, h3, h4, h5, h6.turns ht (fun b o _ e ho => by injection e with e; injection e with e; rcases ho with ho | ho <;> omega), h7.turns ht (by omega), h8.turns ht (by omega), Turns.below h9 ht (fun i hi => by have hi' := hi; omega) (by have := h9.size; omega)⟩
  have hIx : ∀ c k W W', Ix c k W → Turns (fun i => i = w4.heap.size + 1 ∨ i = w4.heap.size + 2) W W' → Ix c k W' := by
    intro c k W W' h ht
    rw [hXd] at h ⊢
    obtain ⟨h1, h2, h3, h4⟩ := h
    exact ⟨h1, h2, h3.turns ht (by omega), Turns.below h4 ht (fun i hi => by have hi' := hi; omega) (by have := h4.size; omega)⟩
  have HD0 := Lib.hid True.intro
  have HE := HD0
  refine range_outcomes (by omega) Bs g n c (manyT zs) w.heap.size A zs w Hz.out hn Hg.out Eb rfl cBs Eg rfl rfl (fun i => i = w3.heap.size + 1 ∨ i = w.heap.size + 1) (fun i hi => by rcases hi with hi | hi <;> (have hBs' : Wc.heap.size ≤ Bs := hBs; omega))
    I hI Ix hIx (by rw [hId]; exact ⟨0, 0, Nn, E11, by omega, fun _ => rfl, StandsAt.start Hso.out, fun i hi => absurd hi (by omega), Ei, E10, E6, Eb⟩)
    (fun k a' W => ∃ b4, w4.heap.size + 3 ≤ b4 ∧ Cs W b4 #[.int .i64 (ocG zs n k), .int .i64 (ocE zs n k)] ∧ I k W ∧ a' = { tmps := #[.slice A n c, .slice B Nn C, .agg #[.int .i64 N, .int .i64 D], undef, undef, .pointer (some ⟨w.heap.size, 0, none⟩), .pointer (some ⟨w.heap.size + 1, 0, none⟩), .pointer (some ⟨g, 0, none⟩), .int .i64 0, .int .i64 0, .pointer (some ⟨w2.heap.size, 0, none⟩), .pointer (some ⟨w3.heap.size + 1, 0, none⟩), .int .i64 (k : Nat), .pointer (some ⟨b4, 0, none⟩), undef, undef, .tuple #[.pointer (some ⟨g, 0, none⟩), .int .i64 0], .slice A n c, .tuple #[.pointer (some ⟨g, 0, none⟩), .int .i64 0], .pointer (some ⟨g, 0, none⟩), .int .i64 0, .int .i64 0, .bool false, undef, .pointer (some ⟨g, 0, none⟩), .slice B Nn C, .int .i64 0, .int .i64 0, .bool false, undef, .agg #[.int .i64 N, .int .i64 D], .agg #[.int .i64 N, .int .i64 D], .agg #[.int .i64 N, .int .i64 D], .bool true, .bool false, .slice B Nn C, .int .i64 (Nn : Nat), .slice (some ⟨w3.heap.size, 0, none⟩) Nn Nn, .slice (some ⟨w3.heap.size, 0, none⟩) Nn Nn, .slice B Nn C, .int .i64 (Nn : Nat), .pointer (some ⟨g, 0, none⟩), .func (.func 76) #[] #[.pointer (some ⟨Bs, 0, none⟩)], .int .i64 (k : Nat), .agg #[.int .i64 (ocG zs n k), .int .i64 (ocE zs n k)], undef, undef, undef, undef, undef, undef, undef, undef, undef, undef, undef, undef, undef, undef, undef, undef, undef, undef, undef, undef, undef, undef, undef, undef, undef, undef, undef, undef, undef], defers := [] }) ?hax ?assign ?body ?done ?stop
  case hax =>
    rintro k a' W W' ⟨b4, h4, B4, hi, rfl⟩ ht
    exact ⟨b4, h4, B4.turns ht (fun e => by have e' : b4 = w4.heap.size + 1 := e; omega), hI _ _ _ hi (ht.mono fun i hi => .inl hi), rfl⟩
  case assign =>
    intro l k W K hkM hi hW hK
    unfold encO
    gi_wp2_with fail
    have T : Turns (fun _ => False) W (W.alloc (.cells #[.int .i64 (ocG zs n k), .int .i64 (ocE zs n k)] 59)) := Turns.of_below (balloc (Below.refl _ _) _)
    exact hK _ _ T ⟨W.heap.size, hW, Cs.new _ _ _ _ rfl, hI _ _ _ hi (T.mono fun _ h => h.elim), rfl⟩
  case body =>
    rintro l k a' W hkM ⟨b4, h4, B4, hi, rfl⟩ hW
    rw [hId] at hi
    obtain ⟨j, off, len, h11, hlj, hoff, hst, hok, hin, h10, h6, hbl⟩ := hi
    obtain ⟨q1, q2, q3, q4⟩ := Hb.out k hkM
    have ko := fun W' => over_any N D (ocG zs n k) (ocE zs n k) W' v1 v2 (by omega) v4 q1 q2 q3 q4
    have hmem := hst.mem Hso.out
    have hksl := Hkl.out
    have HI : Hid (∀ j2 off2 len2 W2, Cs W2 (w3.heap.size + 1) #[.slice (some ⟨w3.heap.size, off2, none⟩) len2 len2] → len2 + j2 = Nn → (0 < len2 → off2 = j2) → StandsAt ks j2 (k + 1) → badO (ocG zs n) (ocE zs n) ks N D k = false → Ints W2 (some ⟨w3.heap.size, 0, none⟩) Nn ks → Cs W2 w2.heap.size #[.int .i64 N, .int .i64 D] → Cs W2 (w.heap.size + 1) #[.int .i64 0] → Below w.heap.size w W2 → I (k + 1) W2) :=
      Lib.hid fun j2 off2 len2 W2 a1 a2 a3 a4 a5 a6 a7 a8 a9 => by
        rw [hId]
        refine ⟨j2, off2, len2, a1, a2, a3, a4, fun i hi => ?_, a6, a7, a8, a9⟩
        by_cases e : i = k
        · rw [e]; exact a5
        · exact hok i (by omega)
    have HX : Hid (∀ W2, badO (ocG zs n) (ocE zs n) ks N D k = true → Cs W2 (w.heap.size + 1) #[.int .i64 14] → Below w.heap.size w W2 → Ix .ret (k + 1) W2) :=
      Lib.hid fun W2 a1 a2 a3 => by rw [hXd]; exact ⟨rfl, ⟨k, hkM, a1⟩, a2, a3⟩
    have hbo : badO (ocG zs n) (ocE zs n) ks N D k = ((ks.contains (k : Int) && decide (ocE zs n k * D - ocG zs n k * N < 0)) || (!ks.contains (k : Int) && decide (0 < ocE zs n k * D - ocG zs n k * N))) := rfl
    have Hst := Lib.hid hst
    have Hoff := Lib.hid hoff
    clear hId hXd hI hIx hok hst HE HD0 q1 q2 q3 q4 hoff
    generalize badO (ocG zs n) (ocE zs n) ks N D k = bo at *
    generalize ocG zs n k = oG at *
    generalize ocE zs n k = oE at *
    generalize hval : oE * D - oG * N = val at *
    clear hval
    have hb11 : w3.heap.size + 1 < W.heap.size := h11.lt
    by_cases hl0 : len = 0
    · subst hl0
      have hcon : ks.contains (k : Int) = false := by
        rw [Bool.eq_false_iff]
        intro h
        have := (hmem.1 h).1
        omega
      clear hmem
      have T1 : Turns (fun i => i = w3.heap.size + 1 ∨ i = w.heap.size + 1) W W := Turns.refl _ _
      have F11 := h11
      have F10 := h10
      have F6 := h6
      have FI := hin
      by_cases hv1 : 0 < val
      · have Hbo : Hid (bo = true) := Lib.hid (by rw [hbo, hcon]; simp [hv1])
        clear hbo hcon
        have ch11 := h11.c
        have fh11 := h11.f
        have lh11 := h11.lt
        have cB4 := B4.c
        have fB4 := B4.f
        have lB4 := B4.lt
        have ch10 := h10.c
        have fh10 := h10.f
        have lh10 := h10.lt
        gi_wp2_with fail
        refine ⟨trivial, (CallsIn.inRound l (callsIn_wide.2 (ko _))).mono ?_⟩
        rintro _ w5 ⟨rfl, hb5⟩
        clear ch11 fh11 lh11 cB4 fB4 lB4 ch10 fh10 lh10
        have G6 : Cs w5 (w.heap.size + 1) #[.int .i64 0] := Cs.keep F6 hb5
        have T5 : Turns (fun i => i = w3.heap.size + 1 ∨ i = w.heap.size + 1) W w5 := T1.trans (Turns.of_below hb5)
        have T6 : Turns (fun i => i = w3.heap.size + 1 ∨ i = w.heap.size + 1) w5 (w5.setCell ⟨w.heap.size + 1, 0, none⟩ (.int .i64 14)) := Turns.setCell _ (.inr rfl)
        have HP := Lib.hid (And.intro (T5.trans T6) (HX.out _ Hbo.out (G6.set 0 _ (by simp)) (Turns.below (Turns.below hbl T5 (fun i hi => by rcases hi with hi | hi <;> omega) (by have := hbl.size; omega)) T6 (fun i hi => by rcases hi with hi | hi <;> omega) (by have := hbl.size; have := T5.size; omega))))
        have c6 := G6.c
        have f6 := G6.f
        have l6 := G6.lt
        clear T1 T5 T6 F11 F10 F6 FI ko hb5 G6
        gi_wp2_with fail
        exact HP.out
      · have Hbo : Hid (bo = false) := Lib.hid (by rw [hbo, hcon]; simp [hv1])
        clear hbo hcon
        have ch11 := h11.c
        have fh11 := h11.f
        have lh11 := h11.lt
        have cB4 := B4.c
        have fB4 := B4.f
        have lB4 := B4.lt
        have ch10 := h10.c
        have fh10 := h10.f
        have lh10 := h10.lt
        gi_wp2_with fail
        refine ⟨trivial, (CallsIn.inRound l (callsIn_wide.2 (ko _))).mono ?_⟩
        rintro _ w5 ⟨rfl, hb5⟩
        clear ch11 fh11 lh11 cB4 fB4 lB4 ch10 fh10 lh10
        have T5 : Turns (fun i => i = w3.heap.size + 1 ∨ i = w.heap.size + 1) W w5 := T1.trans (Turns.of_below hb5)
        have HP := Lib.hid (And.intro T5 (HI.out j off 0 w5 (Cs.keep F11 hb5) hlj (fun h => absurd h (by omega)) (Hst.out.miss Hso.out (fun h => absurd h (by omega))) Hbo.out (FI.below hb5) (Cs.keep F10 hb5) (Cs.keep F6 hb5) (Turns.below hbl T5 (fun i hi => by rcases hi with hi | hi <;> omega) (by have := hbl.size; omega))))
        clear T1 T5 F11 F10 F6 FI ko hb5
        gi_wp2_with fail
        exact HP.out
    · have hlI : (0 : Int) < (len : Int) := by omega
      have hoj : off = j := Hoff.out (by omega)
      have hcell : W.cell? ⟨w3.heap.size, off, none⟩ = some (.int .i64 (ks.getD j 0)) := by
        have := hin.cell0 j (by omega)
        rw [Nat.zero_add] at this
        rw [hoj]; exact this
      have Hoj := Lib.hid hoj
      clear hoj
      by_cases hx : ks.getD j 0 = (k : Int)
      · have hcon : ks.contains (k : Int) = true := hmem.2 ⟨by omega, hx⟩
        rw [hx] at hcell
        have Hx := Lib.hid hx
        clear hmem hx
        by_cases hl1 : len = 1
        · subst hl1
          have T1 : Turns (fun i => i = w3.heap.size + 1 ∨ i = w.heap.size + 1) W (W.setCell ⟨w3.heap.size + 1, 0, none⟩ (.slice (some ⟨w3.heap.size, off, none⟩) 0 0)) := Turns.setCell _ (.inl rfl)
          have F11 := h11.set 0 (.slice (some ⟨w3.heap.size, off, none⟩) 0 0) (by simp)
          have F10 := h10.other (p := ⟨w3.heap.size + 1, 0, none⟩) (by show w2.heap.size ≠ w3.heap.size + 1; omega) (.slice (some ⟨w3.heap.size, off, none⟩) 0 0)
          have F6 := h6.other (p := ⟨w3.heap.size + 1, 0, none⟩) (by show w.heap.size + 1 ≠ w3.heap.size + 1; omega) (.slice (some ⟨w3.heap.size, off, none⟩) 0 0)
          have FI := hin.turns T1 (fun b o _ e ho => by injection e with e; injection e with e; rcases ho with ho | ho <;> omega)
          by_cases hv1 : val < 0
          · have Hbo : Hid (bo = true) := Lib.hid (by rw [hbo, hcon]; simp [hv1])
            clear hbo hcon
            have ch11 := h11.c
            have fh11 := h11.f
            have lh11 := h11.lt
            have cB4 := B4.c
            have fB4 := B4.f
            have lB4 := B4.lt
            have ch10 := h10.c
            have fh10 := h10.f
            have lh10 := h10.lt
            gi_wp2_with fail
            refine ⟨trivial, (CallsIn.inRound l (callsIn_wide.2 (ko _))).mono ?_⟩
            rintro _ w5 ⟨rfl, hb5⟩
            clear ch11 fh11 lh11 cB4 fB4 lB4 ch10 fh10 lh10
            have G6 : Cs w5 (w.heap.size + 1) #[.int .i64 0] := Cs.keep F6 hb5
            have T5 : Turns (fun i => i = w3.heap.size + 1 ∨ i = w.heap.size + 1) W w5 := T1.trans (Turns.of_below hb5)
            have T6 : Turns (fun i => i = w3.heap.size + 1 ∨ i = w.heap.size + 1) w5 (w5.setCell ⟨w.heap.size + 1, 0, none⟩ (.int .i64 14)) := Turns.setCell _ (.inr rfl)
            have HP := Lib.hid (And.intro (T5.trans T6) (HX.out _ Hbo.out (G6.set 0 _ (by simp)) (Turns.below (Turns.below hbl T5 (fun i hi => by rcases hi with hi | hi <;> omega) (by have := hbl.size; omega)) T6 (fun i hi => by rcases hi with hi | hi <;> omega) (by have := hbl.size; have := T5.size; omega))))
            have c6 := G6.c
            have f6 := G6.f
            have l6 := G6.lt
            clear T1 T5 T6 F11 F10 F6 FI ko hb5 G6
            gi_wp2_with fail
            exact HP.out
          · have Hbo : Hid (bo = false) := Lib.hid (by rw [hbo, hcon]; simp [hv1])
            clear hbo hcon
            have ch11 := h11.c
            have fh11 := h11.f
            have lh11 := h11.lt
            have cB4 := B4.c
            have fB4 := B4.f
            have lB4 := B4.lt
            have ch10 := h10.c
            have fh10 := h10.f
            have lh10 := h10.lt
            gi_wp2_with fail
            refine ⟨trivial, (CallsIn.inRound l (callsIn_wide.2 (ko _))).mono ?_⟩
            rintro _ w5 ⟨rfl, hb5⟩
            clear ch11 fh11 lh11 cB4 fB4 lB4 ch10 fh10 lh10
            have T5 : Turns (fun i => i = w3.heap.size + 1 ∨ i = w.heap.size + 1) W w5 := T1.trans (Turns.of_below hb5)
            have HP := Lib.hid (And.intro T5 (HI.out (j + 1) off 0 w5 (Cs.keep F11 hb5) (by omega) (fun h => absurd h (by omega)) (Hst.out.hit Hso.out (by omega) Hx.out) Hbo.out (FI.below hb5) (Cs.keep F10 hb5) (Cs.keep F6 hb5) (Turns.below hbl T5 (fun i hi => by rcases hi with hi | hi <;> omega) (by have := hbl.size; omega))))
            clear T1 T5 F11 F10 F6 FI ko hb5
            gi_wp2_with fail
            exact HP.out
        · have d1 : ¬ (len : Int) = 1 := by omega
          have d2 : (1 : Int) < (len : Int) := by omega
          have d3 : ¬ (len : Int) - 1 = 0 := by omega
          have d4 : (1 : Int) ≤ (len : Int) := by omega
          have d5 : ¬ len - 1 = 0 := by omega
          have d6 : 1 < len := by omega
          have T1 : Turns (fun i => i = w3.heap.size + 1 ∨ i = w.heap.size + 1) W (W.setCell ⟨w3.heap.size + 1, 0, none⟩ (.slice (some ⟨w3.heap.size, off + 1, none⟩) (len - 1) (len - 1))) := Turns.setCell _ (.inl rfl)
          have F11 := h11.set 0 (.slice (some ⟨w3.heap.size, off + 1, none⟩) (len - 1) (len - 1)) (by simp)
          have F10 := h10.other (p := ⟨w3.heap.size + 1, 0, none⟩) (by show w2.heap.size ≠ w3.heap.size + 1; omega) (.slice (some ⟨w3.heap.size, off + 1, none⟩) (len - 1) (len - 1))
          have F6 := h6.other (p := ⟨w3.heap.size + 1, 0, none⟩) (by show w.heap.size + 1 ≠ w3.heap.size + 1; omega) (.slice (some ⟨w3.heap.size, off + 1, none⟩) (len - 1) (len - 1))
          have FI := hin.turns T1 (fun b o _ e ho => by injection e with e; injection e with e; rcases ho with ho | ho <;> omega)
          by_cases hv1 : val < 0
          · have Hbo : Hid (bo = true) := Lib.hid (by rw [hbo, hcon]; simp [hv1])
            clear hbo hcon
            have ch11 := h11.c
            have fh11 := h11.f
            have lh11 := h11.lt
            have cB4 := B4.c
            have fB4 := B4.f
            have lB4 := B4.lt
            have ch10 := h10.c
            have fh10 := h10.f
            have lh10 := h10.lt
            gi_wp2_with fail
            refine ⟨trivial, (CallsIn.inRound l (callsIn_wide.2 (ko _))).mono ?_⟩
            rintro _ w5 ⟨rfl, hb5⟩
            clear ch11 fh11 lh11 cB4 fB4 lB4 ch10 fh10 lh10
            have G6 : Cs w5 (w.heap.size + 1) #[.int .i64 0] := Cs.keep F6 hb5
            have T5 : Turns (fun i => i = w3.heap.size + 1 ∨ i = w.heap.size + 1) W w5 := T1.trans (Turns.of_below hb5)
            have T6 : Turns (fun i => i = w3.heap.size + 1 ∨ i = w.heap.size + 1) w5 (w5.setCell ⟨w.heap.size + 1, 0, none⟩ (.int .i64 14)) := Turns.setCell _ (.inr rfl)
            have HP := Lib.hid (And.intro (T5.trans T6) (HX.out _ Hbo.out (G6.set 0 _ (by simp)) (Turns.below (Turns.below hbl T5 (fun i hi => by rcases hi with hi | hi <;> omega) (by have := hbl.size; omega)) T6 (fun i hi => by rcases hi with hi | hi <;> omega) (by have := hbl.size; have := T5.size; omega))))
            have c6 := G6.c
            have f6 := G6.f
            have l6 := G6.lt
            clear T1 T5 T6 F11 F10 F6 FI ko hb5 G6
            gi_wp2_with fail
            exact HP.out
          · have Hbo : Hid (bo = false) := Lib.hid (by rw [hbo, hcon]; simp [hv1])
            clear hbo hcon
            have ch11 := h11.c
            have fh11 := h11.f
            have lh11 := h11.lt
            have cB4 := B4.c
            have fB4 := B4.f
            have lB4 := B4.lt
            have ch10 := h10.c
            have fh10 := h10.f
            have lh10 := h10.lt
            gi_wp2_with fail
            refine ⟨trivial, (CallsIn.inRound l (callsIn_wide.2 (ko _))).mono ?_⟩
            rintro _ w5 ⟨rfl, hb5⟩
            clear ch11 fh11 lh11 cB4 fB4 lB4 ch10 fh10 lh10
            have T5 : Turns (fun i => i = w3.heap.size + 1 ∨ i = w.heap.size + 1) W w5 := T1.trans (Turns.of_below hb5)
            have HP := Lib.hid (And.intro T5 (HI.out (j + 1) (off + 1) (len - 1) w5 (Cs.keep F11 hb5) (by omega) (fun _ => by rw [Hoj.out]) (Hst.out.hit Hso.out (by omega) Hx.out) Hbo.out (FI.below hb5) (Cs.keep F10 hb5) (Cs.keep F6 hb5) (Turns.below hbl T5 (fun i hi => by rcases hi with hi | hi <;> omega) (by have := hbl.size; omega))))
            clear T1 T5 F11 F10 F6 FI ko hb5
            gi_wp2_with fail
            exact HP.out
      · have hcon : ks.contains (k : Int) = false := by
          rw [Bool.eq_false_iff]
          intro h
          exact hx (hmem.1 h).2
        have hxb : (ks.getD j 0 == (k : Int)) = false := by simpa using hx
        have Hmiss := Lib.hid (Hst.out.miss Hso.out (fun _ => hx))
        clear hx
        clear hmem
        generalize ks.getD j 0 = x at *
        have T1 : Turns (fun i => i = w3.heap.size + 1 ∨ i = w.heap.size + 1) W W := Turns.refl _ _
        have F11 := h11
        have F10 := h10
        have F6 := h6
        have FI := hin
        by_cases hv1 : 0 < val
        · have Hbo : Hid (bo = true) := Lib.hid (by rw [hbo, hcon]; simp [hv1])
          clear hbo hcon
          have ch11 := h11.c
          have fh11 := h11.f
          have lh11 := h11.lt
          have cB4 := B4.c
          have fB4 := B4.f
          have lB4 := B4.lt
          have ch10 := h10.c
          have fh10 := h10.f
          have lh10 := h10.lt
          gi_wp2_with fail
          refine ⟨trivial, (CallsIn.inRound l (callsIn_wide.2 (ko _))).mono ?_⟩
          rintro _ w5 ⟨rfl, hb5⟩
          clear ch11 fh11 lh11 cB4 fB4 lB4 ch10 fh10 lh10
          have G6 : Cs w5 (w.heap.size + 1) #[.int .i64 0] := Cs.keep F6 hb5
          have T5 : Turns (fun i => i = w3.heap.size + 1 ∨ i = w.heap.size + 1) W w5 := T1.trans (Turns.of_below hb5)
          have T6 : Turns (fun i => i = w3.heap.size + 1 ∨ i = w.heap.size + 1) w5 (w5.setCell ⟨w.heap.size + 1, 0, none⟩ (.int .i64 14)) := Turns.setCell _ (.inr rfl)
          have HP := Lib.hid (And.intro (T5.trans T6) (HX.out _ Hbo.out (G6.set 0 _ (by simp)) (Turns.below (Turns.below hbl T5 (fun i hi => by rcases hi with hi | hi <;> omega) (by have := hbl.size; omega)) T6 (fun i hi => by rcases hi with hi | hi <;> omega) (by have := hbl.size; have := T5.size; omega))))
          have c6 := G6.c
          have f6 := G6.f
          have l6 := G6.lt
          clear T1 T5 T6 F11 F10 F6 FI ko hb5 G6
          gi_wp2_with fail
          exact HP.out
        · have Hbo : Hid (bo = false) := Lib.hid (by rw [hbo, hcon]; simp [hv1])
          clear hbo hcon
          have ch11 := h11.c
          have fh11 := h11.f
          have lh11 := h11.lt
          have cB4 := B4.c
          have fB4 := B4.f
          have lB4 := B4.lt
          have ch10 := h10.c
          have fh10 := h10.f
          have lh10 := h10.lt
          gi_wp2_with fail
          refine ⟨trivial, (CallsIn.inRound l (callsIn_wide.2 (ko _))).mono ?_⟩
          rintro _ w5 ⟨rfl, hb5⟩
          clear ch11 fh11 lh11 cB4 fB4 lB4 ch10 fh10 lh10
          have T5 : Turns (fun i => i = w3.heap.size + 1 ∨ i = w.heap.size + 1) W w5 := T1.trans (Turns.of_below hb5)
          have HP := Lib.hid (And.intro T5 (HI.out j off len w5 (Cs.keep F11 hb5) hlj (fun _ => Hoj.out) Hmiss.out Hbo.out (FI.below hb5) (Cs.keep F10 hb5) (Cs.keep F6 hb5) (Turns.below hbl T5 (fun i hi => by rcases hi with hi | hi <;> omega) (by have := hbl.size; omega))))
          clear T1 T5 F11 F10 F6 FI ko hb5
          gi_wp2_with fail
          exact HP.out
  case done =>
    intro W hi hD
    rw [hId] at hi
    obtain ⟨j, off, len, h11, hlj, hoff, hst, hok, hin, h10, h6, hbl⟩ := hi
    have Hr : Hid (res = 0) := Lib.hid (by rw [Hres.out, if_pos (cbB_t hok)])
    have HD := Lib.hid hD
    clear hId hXd hI hIx hD h11 hok hst hin h10
    have c6 := h6.c
    have f6 := h6.f
    have l6 := h6.lt
    gi_wp2_with fail
    have K6 := h6.set 0 (.int .i64 0) (by simp)
    have TK : Turns (fun i => i = w.heap.size + 1) W (W.setCell ⟨w.heap.size + 1, 0, none⟩ (.int .i64 0)) := Turns.setCell _ rfl
    have KD := Lib.hid ((TK.block _ (Array.getElem?_eq_some_iff.1 HD.out).1 (by omega)).trans HD.out)
    have Kb := Turns.below hbl TK (fun i hi => by have hi' : i = w.heap.size + 1 := hi; omega) (by have := hbl.size; omega)
    have hsK := TK.size
    clear TK c6 f6 l6 h6
    generalize W.setCell ⟨w.heap.size + 1, 0, none⟩ (.int .i64 0) = W8 at *
    have T9 : Turns (fun i => i = w4.heap.size) W8 (W8.putObj w4.heap.size (.deferred none)) := Turns.putObj _ rfl
    have L9 := K6.turns T9 (by omega)
    have hb9 := Turns.below Kb T9 (fun i hi => by have hi' : i = w4.heap.size := hi; omega) (by have := Kb.size; omega)
    refine ⟨by simp, .inl ⟨_, _, rfl, run_takeDeferred KD.out, ?_⟩⟩
    have c9 := L9.c
    exact ⟨.int .i64 0, by simp [results, Try.results18, go_sem, c9], by rw [Hr.out]; exact ⟨rfl, hb9⟩⟩
  case stop =>
    intro cc k W hk hx hD
    rw [hXd] at hx
    obtain ⟨rfl, ⟨i, hiM, hbad⟩, h6, hbl⟩ := hx
    have Hr : Hid (res = 14) := Lib.hid (by rw [Hres.out, if_neg (by rw [cbB_f hiM hbad]; decide)])
    have HD := Lib.hid hD
    clear hId hXd hI hIx hD hbad hiM
    have hlt6 := h6.lt
    gi_wp2_with fail
    have T9 : Turns (fun i => i = w4.heap.size) W (W.putObj w4.heap.size (.deferred none)) := Turns.putObj _ rfl
    have L9 := h6.turns T9 (by omega)
    have hb9 := Turns.below hbl T9 (fun i hi => by have hi' : i = w4.heap.size := hi; omega) (by have := hbl.size; omega)
    refine ⟨by simp, .inl ⟨_, _, rfl, run_takeDeferred HD.out, ?_⟩⟩
    have c9 := L9.c
    exact ⟨.int .i64 14, by simp [results, Try.results18, go_sem, c9], by rw [Hr.out]; exact ⟨rfl, hb9⟩⟩

end Go.Proofs.Ytcmllkjgggcghaa
end

/- Walks of package eye: CheckBest whatever is handed in; the examples' values. -/
section
namespace Go.Proofs.Ytcmllkjgggcghaa
open Go.RowKit Go.Shelf
set_option linter.unusedSimpArgs false
set_option linter.unusedVariables false

theorem checkBest_any (A B : Option Addr) (n c Nn C : Nat) (zs : List Pl) (ks : List Int) (N D : Int) (w : World) (hz : Plates w A n zs) (hn : n ≤ 9223372036854775807) (hk : Ints w B Nn ks) (hN : Nn ≤ 9223372036854775807) (r : Int) (hr : r = checkBestP zs n ks N D) :
    Calls Try.prog 18 #[.slice A n c, .slice B Nn C, .agg #[.int .i64 N, .int .i64 D]] w (RetI r w) := by
  subst hr
  by_cases ht : testE zs = 0
  · by_cases hs : setE (manyT zs) ks = 0
    · have hl := hz.1
      obtain ⟨t1, t2, _⟩ := testE_ok ht
      cases hv : isTh N D with
      | true =>
        rw [show checkBestP zs n ks N D = if cbB (ocG zs n) (ocE zs n) ks N D (manyT zs) then 0 else 14 by simp [checkBestP, ht, hs, hv]]
        exact checkBest_ok A B n c Nn C zs ks N D w hz (by omega) hk ht hs hv _ rfl
      | false =>
        rw [show checkBestP zs n ks N D = 2 by simp [checkBestP, ht, hs, hv]]
        exact checkBest_th A B n c Nn C zs ks N D w hz hn hk hN ht hs hv
    · rw [show checkBestP zs n ks N D = setE (manyT zs) ks by simp [checkBestP, ht, hs]]
      exact checkBest_set A B n c Nn C zs ks N D w hz hn hk hN ht hs
  · rw [show checkBestP zs n ks N D = testE zs by simp [checkBestP, ht]]
    exact checkBest_bad A B n c Nn C zs ks N D w hz hn ht

/-- a threshold that is that of the strongest region: told by reckoning -/
def best2B (g e : Nat → Int) (M : Nat) (most : Int) (k0 : Nat) : Bool :=
  decide (most < regG g e M (0, 1)) && live g e k0 && decide (k0 < M) && decide (regG g e M (key g e k0) ≤ most) &&
    (List.range M).all fun k => !(live g e k && decide ((key g e k).1 * (key g e k0).2 < (key g e k0).1 * (key g e k).2)) || decide (most < regG g e M (key g e k))
theorem best2B_spec {g e : Nat → Int} {M : Nat} {most : Int} {k0 : Nat} (h : best2B g e M most k0 = true) : IsBest g e M most (key g e k0) := by
  unfold best2B at h
  simp only [Bool.and_eq_true, decide_eq_true_eq, List.all_eq_true, List.mem_range, Bool.or_eq_true, Bool.not_eq_true'] at h
  obtain ⟨⟨⟨⟨h1, h2⟩, h3⟩, h4⟩, h5⟩ := h
  refine .inr ⟨h1, ⟨k0, h3, h2, rfl⟩, h4, fun k hk hl hlt => ?_⟩
  rcases h5 k hk with h6 | h6
  · exfalso
    unfold lt at hlt
    rw [hl] at h6
    simp at h6
    omega
  · exact h6

section
variable (g1 g2 g3 g4 : Nat)
/-- the examples' test -/
def exT : List Pl := [exPl g1 g2, exPl g3 g4]
theorem ex_test : testE (exT g1 g2 g3 g4) = 0 := by kernel_rfl
theorem ex_whole : whole (exT g1 g2 g3 g4) = 9 := by kernel_rfl
theorem ex_many : manyT (exT g1 g2 g3 g4) = 9 := by kernel_rfl
theorem ex_odds : oddsP (exT g1 g2 g3 g4) 2 [1, 2] = ((1, 2), 0) := by kernel_rfl
theorem ex_region : regionP (exT g1 g2 g3 g4) 2 1 1 = ([5, 7, 8], 0) := by kernel_rfl
theorem ex_r21 : regL (exT g1 g2 g3 g4) 2 (2, 1) 9 = [8] := by kernel_rfl
theorem ex_r01 : regL (exT g1 g2 g3 g4) 2 (0, 1) 9 = [4, 5, 7, 8] := by kernel_rfl
theorem ex_b2 : best2B (ocG (exT g1 g2 g3 g4) 2) (ocE (exT g1 g2 g3 g4) 2) 9 2 5 = true := by kernel_rfl
theorem ex_k5 : key (ocG (exT g1 g2 g3 g4) 2) (ocE (exT g1 g2 g3 g4) 2) 5 = (2, 1) := by kernel_rfl
theorem ex_b9 : decide (regG (ocG (exT g1 g2 g3 g4) 2) (ocE (exT g1 g2 g3 g4) 2) 9 (0, 1) ≤ 9) = true := by kernel_rfl
theorem ex_c1 : checkBestP (exT g1 g2 g3 g4) 2 [5, 8] 2 1 = 0 := by kernel_rfl
theorem ex_c2 : checkBestP (exT g1 g2 g3 g4) 2 [5, 7] 2 1 = 14 := by kernel_rfl
end
theorem ex_tail : tailP 3 2 1 3 = ((7, 27), 0) := by kernel_rfl
theorem ex_p1 : planE 1 2 9 10 1 8 3 10 = ((3, 3), 0) := by kernel_rfl
theorem ex_p2 : planE 1 2 1 2 1 8 3 10 = ((0, 0), 22) := by kernel_rfl

end Go.Proofs.Ytcmllkjgggcghaa
end
