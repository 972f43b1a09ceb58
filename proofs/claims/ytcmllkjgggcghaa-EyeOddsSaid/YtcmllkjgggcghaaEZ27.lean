/- EK06 EL06 -/
import Derived.Test.YtcmllkjgggcghaaEZ26
import Derived.Test.YtcmllkjgggcghaaEZ17
/- The walk of EyeOdds: but for Works. -/
section
namespace Go.Proofs.Ytcmllkjgggcghaa
open Go.RowKit Go.Shelf
set_option linter.unusedSimpArgs false
set_option linter.unusedVariables false

set_option maxRecDepth 100000 in
set_option maxHeartbeats 4000000 in
theorem eyeOdds_walk (kw : ∀ w : World, Calls Try.prog 14 #[] w fun e w' => e = .returned (.bool true) ∧ Below w.heap.size w w') (A B D : Option Addr) (n c N C M K : Nat) (zs : List Pl) (ds ks : List Int) (w : World) (hz : Plates w A n zs) (hn : n ≤ 9223372036854775807) (hd : Ints w B N ds) (hN : N ≤ 9223372036854775807) (hk : Ints w D M ks) (hM : M ≤ 9223372036854775807) (hK : M ≤ K) :
    Calls Try.prog 8 #[.slice A n c, .slice B N C, .slice D M K] w fun e w' => e = .returned (.bool true) ∧ Below w.heap.size w w' := by
  have kg := fun (W : World) (hb : Below w.heap.size w W) => great_any A n c zs 5000 W (hz.below hb) hn
  have k1 := fun (W : World) (hb : Below w.heap.size w W) => whole_any A n c zs W (hz.below hb) hn
  have k2 := fun (W : World) (hb : Below w.heap.size w W) => rwhole_any A n c zs W (hz.below hb) hn
  have k3 := fun (W : World) (hb : Below w.heap.size w W) => eodds_any A B n c N C zs ds W (hz.below hb) hn (hd.below hb)
  have k4 := fun (W : World) (hb : Below w.heap.size w W) => rOdds_any A B n c N C zs ds W (hz.below hb) hn (hd.below hb)
  have k5 := fun (W : World) (hb : Below w.heap.size w W) => esum_any A D n c M K zs ks W (hz.below hb) hn (hk.below hb) hM hK
  have k6 := fun (W : World) (hb : Below w.heap.size w W) => rsum_any A D n c M K zs ks W (hz.below hb) hn (hk.below hb) hM
  have k7 := fun (W : World) (hb : Below w.heap.size w W) => checkTest_any A n c zs W (hz.below hb) hn
  have k8 := fun (W : World) (hb : Below w.heap.size w W) => rcheckTest_any A n c zs W (hz.below hb) hn
  unfold RetSome at kg
  unfold RetNE at k1 k2
  unfold RetOE at k3 k4 k5 k6
  generalize (if testE zs = 0 then (whole zs, 0) else ((0 : Int), testE zs)) = a at *
  generalize oddsP zs n ds = b at *
  generalize sumP zs n ks = d at *
  generalize testE zs = t at *
  obtain ⟨a1, a2⟩ := a
  obtain ⟨⟨b1, b2⟩, b3⟩ := b
  obtain ⟨⟨d1, d2⟩, d3⟩ := d
  dsimp only at k1 k2 k3 k4 k5 k6
  clear hz hd hk
  go_enter Try.func8, Try.ntmps8
  go_wp2_with fail
  refine (kg _ blA).mono ?_
  rintro _ w1 ⟨g, rfl, hb1⟩
  replace hbw : Below w.heap.size w w1 := blA
  clear hb1
  clear kg
  have early : True := trivial
  cases g with
  | true =>
    clear k1 k2 k3 k4 k5 k6 k7 k8
    go_wp2_with fail
    refine (kw _).mono ?_
    rintro e w2 ⟨rfl, hb2⟩
    replace hbw : Below w.heap.size w w2 := blA
    clear hb2
    go_wp2_with fail
    go_ret
    exact ⟨rfl, blA⟩
  | false =>
    by_cases h20 : (20 : Int) < (N : Int)
    · clear k1 k2 k3 k4 k5 k6 k7 k8
      go_wp2_with fail
      refine (kw _).mono ?_
      rintro e w2 ⟨rfl, hb2⟩
      replace hbw : Below w.heap.size w w2 := blA
      clear hb2
      go_wp2_with fail
      go_ret
      exact ⟨rfl, blA⟩
    · by_cases h50 : (5000 : Int) < (M : Int)
      · clear k1 k2 k3 k4 k5 k6 k7 k8
        go_wp2_with fail
        refine (kw _).mono ?_
        rintro e w2 ⟨rfl, hb2⟩
        replace hbw : Below w.heap.size w w2 := blA
        clear hb2
        go_wp2_with fail
        go_ret
        exact ⟨rfl, blA⟩
      · go_wp2_with fail
        refine (k1 _ blA).mono ?_
        rintro e w2 ⟨rfl, hb2⟩
        replace hbw : Below w.heap.size w w2 := blA
        clear hb2
        go_wp2_with fail
        refine (k2 _ blA).mono ?_
        rintro e w3 ⟨rfl, hb3⟩
        replace hbw : Below w.heap.size w w3 := blA
        clear hb3
        go_wp2_with fail
        refine (k3 _ blA).mono ?_
        rintro e w4 ⟨rfl, hb4⟩
        replace hbw : Below w.heap.size w w4 := blA
        clear hb4
        go_wp2_with fail
        refine (k4 _ blA).mono ?_
        rintro e w5 ⟨rfl, hb5⟩
        replace B11 : Cs w5 (w4.heap.size) #[.int .i64 b1, .int .i64 b2] := Cs.keep csA hb5
        replace hbw : Below w.heap.size w w5 := blA
        replace cB11 := B11.c
        replace fB11 := B11.f
        replace lB11 := B11.lt
        clear hb5
        go_wp2_with fail
        refine (k5 _ blA).mono ?_
        rintro e w6 ⟨rfl, hb6⟩
        replace B11 : Cs w6 (w4.heap.size) #[.int .i64 b1, .int .i64 b2] := Cs.keep csA hb6
        replace B13 : Cs w6 (w5.heap.size) #[.int .i64 b1, .int .i64 b2] := Cs.keep csA hb6
        replace hbw : Below w.heap.size w w6 := blA
        replace cB11 := B11.c
        replace fB11 := B11.f
        replace lB11 := B11.lt
        replace cB13 := B13.c
        replace fB13 := B13.f
        replace lB13 := B13.lt
        clear hb6
        go_wp2_with fail
        refine (k6 _ blA).mono ?_
        rintro e w7 ⟨rfl, hb7⟩
        replace B11 : Cs w7 (w4.heap.size) #[.int .i64 b1, .int .i64 b2] := Cs.keep csA hb7
        replace B13 : Cs w7 (w5.heap.size) #[.int .i64 b1, .int .i64 b2] := Cs.keep csA hb7
        replace B15 : Cs w7 (w6.heap.size) #[.int .i64 d1, .int .i64 d2] := Cs.keep csA hb7
        replace hbw : Below w.heap.size w w7 := blA
        replace cB11 := B11.c
        replace fB11 := B11.f
        replace lB11 := B11.lt
        replace cB13 := B13.c
        replace fB13 := B13.f
        replace lB13 := B13.lt
        replace cB15 := B15.c
        replace fB15 := B15.f
        replace lB15 := B15.lt
        clear hb7
        go_wp2_with fail
        refine (k7 _ blA).mono ?_
        rintro e w8 ⟨rfl, hb8⟩
        replace B11 : Cs w8 (w4.heap.size) #[.int .i64 b1, .int .i64 b2] := Cs.keep csA hb8
        replace B13 : Cs w8 (w5.heap.size) #[.int .i64 b1, .int .i64 b2] := Cs.keep csA hb8
        replace B15 : Cs w8 (w6.heap.size) #[.int .i64 d1, .int .i64 d2] := Cs.keep csA hb8
        replace B17 : Cs w8 (w7.heap.size) #[.int .i64 d1, .int .i64 d2] := Cs.keep csA hb8
        replace hbw : Below w.heap.size w w8 := blA
        replace cB11 := B11.c
        replace fB11 := B11.f
        replace lB11 := B11.lt
        replace cB13 := B13.c
        replace fB13 := B13.f
        replace lB13 := B13.lt
        replace cB15 := B15.c
        replace fB15 := B15.f
        replace lB15 := B15.lt
        replace cB17 := B17.c
        replace fB17 := B17.f
        replace lB17 := B17.lt
        clear hb8
        go_wp2_with fail
        refine (k8 _ blA).mono ?_
        rintro e w9 ⟨rfl, hb9⟩
        replace B11 : Cs w9 (w4.heap.size) #[.int .i64 b1, .int .i64 b2] := Cs.keep csA hb9
        replace B13 : Cs w9 (w5.heap.size) #[.int .i64 b1, .int .i64 b2] := Cs.keep csA hb9
        replace B15 : Cs w9 (w6.heap.size) #[.int .i64 d1, .int .i64 d2] := Cs.keep csA hb9
        replace B17 : Cs w9 (w7.heap.size) #[.int .i64 d1, .int .i64 d2] := Cs.keep csA hb9
        replace hbw : Below w.heap.size w w9 := blA
        replace cB11 := B11.c
        replace fB11 := B11.f
        replace lB11 := B11.lt
        replace cB13 := B13.c
        replace fB13 := B13.f
        replace lB13 := B13.lt
        replace cB15 := B15.c
        replace fB15 := B15.f
        replace lB15 := B15.lt
        replace cB17 := B17.c
        replace fB17 := B17.f
        replace lB17 := B17.lt
        clear hb9
        clear k1 k2 k3 k4 k5 k6 k7 k8
        go_wp2_with fail
        refine (kw _).mono ?_
        rintro e w10 ⟨rfl, hb10⟩
        try clear cB11 fB11 lB11
        try clear B11
        try clear cB13 fB13 lB13
        try clear B13
        try clear cB15 fB15 lB15
        try clear B15
        try clear cB17 fB17 lB17
        try clear B17
        replace hbw : Below w.heap.size w w10 := blA
        clear hb10
        go_wp2_with fail
        go_ret
        exact ⟨rfl, blA⟩

end Go.Proofs.Ytcmllkjgggcghaa
end

/- The walk of EyeOdds. -/
section
namespace Go.Proofs.Ytcmllkjgggcghaa
open Go.RowKit Go.Shelf

theorem eyeOdds_any (A B D : Option Addr) (n c N C M K : Nat) (zs : List Pl) (ds ks : List Int) (w : World) (hz : Plates w A n zs) (hn : n ≤ 9223372036854775807) (hd : Ints w B N ds) (hN : N ≤ 9223372036854775807) (hk : Ints w D M ks) (hM : M ≤ 9223372036854775807 ∧ M ≤ K) :
    Calls Try.prog 8 #[.slice A n c, .slice B N C, .slice D M K] w fun e w' => e = .returned (.bool true) ∧ Below w.heap.size w w' :=
  eyeOdds_walk works_any A B D n c N C M K zs ds ks w hz hn hd hN hk hM.1 hM.2

end Go.Proofs.Ytcmllkjgggcghaa
end
