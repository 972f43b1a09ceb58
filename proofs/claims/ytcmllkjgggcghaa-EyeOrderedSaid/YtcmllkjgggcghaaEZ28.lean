/- EK07 -/
import Derived.Test.YtcmllkjgggcghaaEZ26
import Derived.Test.YtcmllkjgggcghaaEZ14
import Derived.Test.YtcmllkjgggcghaaEZ15
/- The walk of EyeStrongest: but for Works. -/
section
namespace Go.Proofs.Ytcmllkjgggcghaa
open Go.RowKit Go.Shelf
set_option linter.unusedSimpArgs false
set_option linter.unusedVariables false

theorem isBest_th {w : World} {A : Option Addr} {n c : Nat} {zs : List Pl} {most : Int} {t : Int × Int} (hz : Plates w A n zs) (hn : n ≤ 6) (hg : ∀ p ∈ zs, Good p) (h : IsBest (ocG zs n) (ocE zs n) (manyT zs) most t) : isTh t.1 t.2 = true ∧ regG (ocG zs n) (ocE zs n) (manyT zs) t ≤ most := by
  rcases h with ⟨rfl, h1⟩ | ⟨_, ⟨k, hk, hl, rfl⟩, h2, _⟩
  · exact ⟨by decide, h1⟩
  · refine ⟨?_, h2⟩
    have hb := oc_bd (N := k) hz.1 hg hz.2.2 hn hk
    have hk2 := key_bd hl hb.2.1 hb.2.2.2
    have hr := key_rd hl
    have hgc := hr.g
    unfold isTh
    rw [decide_eq_true_eq]
    omega
theorem checkBestP_ok {zs : List Pl} {n : Nat} {ks : List Int} {N D : Int} (h : checkBestP zs n ks N D = 0) : setE (manyT zs) ks = 0 ∧ isTh N D = true ∧ cbB (ocG zs n) (ocE zs n) ks N D (manyT zs) = true := by
  unfold checkBestP at h
  split at h
  · rename_i h1; exact absurd h h1
  · split at h
    · rename_i h1; exact absurd h h1
    · rename_i h1
      split at h
      · rename_i h2
        split at h
        · rename_i h3
          exact ⟨by omega, h2, h3⟩
        · omega
      · omega
/-- no other set with at most the Guess has more Eye -/
theorem cbB_np {zs : List Pl} {n : Nat} {ks os : List Int} {N D : Int} (h : cbB (ocG zs n) (ocE zs n) ks N D (manyT zs) = true) (hv : isTh N D = true) (hk : setE (manyT zs) ks = 0) (ho : setE (manyT zs) os = 0) (hle : sumL (ocG zs n) os ≤ sumL (ocG zs n) ks) : sumL (ocE zs n) os ≤ sumL (ocE zs n) ks := by
  obtain ⟨v1, v2, v3, v4, _⟩ := isTh_bd hv
  rw [sumL_in (setE_ok hk), sumL_in (setE_ok ho)] at hle ⊢
  exact np (cbB_sure h) v1 (by omega) hle

set_option maxRecDepth 100000 in
set_option maxHeartbeats 8000000 in
theorem eyeStrongest_walk (kw : ∀ w : World, Calls Try.prog 14 #[] w fun e w' => e = .returned (.bool true) ∧ Below w.heap.size w w') (A B D : Option Addr) (n c N C m K : Nat) (zs : List Pl) (gs : List Int) (bs : List Bool) (most tN tD : Int) (w : World) (hz : Plates w A n zs) (hn : n ≤ 9223372036854775807) (hm : 0 ≤ most ∧ most ≤ 4294967295) (hk : Ints w B N gs) (hN : N ≤ 9223372036854775807 ∧ N ≤ C) (hb : Bools w D m bs) (hm2 : m ≤ 9223372036854775807) :
    Calls Try.prog 9 #[.slice A n c, .int .u32 most, .slice B N C, .agg #[.int .i64 tN, .int .i64 tD], .slice D m K] w fun e w' => e = .returned (.bool true) ∧ Below w.heap.size w w' := by
  have kg := fun (W : World) (hb : Below w.heap.size w W) => fine_any A n c zs W (hz.below hb) hn
  unfold RetFine at kg
  have Hz := Lib.hid hz
  have Hk := Lib.hid hk
  have Hb := Lib.hid hb
  clear hz hk hb
  go_enter Try.func9, Try.ntmps9
  go_wp2_with fail
  refine (kg _ blA).mono ?_
  rintro _ w1 ⟨g, rfl, hgt, hb1⟩
  replace B8 : Cs w1 (w.heap.size) #[.int .i64 tN, .int .i64 tD] := Cs.keep csA hb1
  replace hbw : Below w.heap.size w w1 := blA
  replace cB8 := B8.c
  replace fB8 := B8.f
  replace lB8 := B8.lt
  clear hb1
  clear kg
  cases g with
  | false =>
    go_wp2_with fail
    refine (kw _).mono ?_
    rintro e w2 ⟨rfl, hb2⟩
    try clear cB8 fB8 lB8
    try clear B8
    replace hbw : Below w.heap.size w w2 := blA
    clear hb2
    go_wp2_with fail
    go_ret
    exact ⟨rfl, blA⟩
  | true =>
    by_cases h20 : (1000 : Int) < (N : Int)
    · go_wp2_with fail
      refine (kw _).mono ?_
      rintro e w2 ⟨rfl, hb2⟩
      try clear cB8 fB8 lB8
      try clear B8
      replace hbw : Below w.heap.size w w2 := blA
      clear hb2
      go_wp2_with fail
      go_ret
      exact ⟨rfl, blA⟩
    by_cases h50 : (50 : Int) < (m : Int)
    · go_wp2_with fail
      refine (kw _).mono ?_
      rintro e w2 ⟨rfl, hb2⟩
      try clear cB8 fB8 lB8
      try clear B8
      replace hbw : Below w.heap.size w w2 := blA
      clear hb2
      go_wp2_with fail
      go_ret
      exact ⟨rfl, blA⟩
    have ht := hgt rfl
    obtain ⟨t1, t2, hg⟩ := testE_ok ht
    have hl := Hz.out.1
    have n6 : n ≤ 6 := by omega
    have hw : IntKind.i64.wrap most = most := IntWalk.i64_in _ (by omega)
    have kB := fun (W : World) (hb : Below w.heap.size w W) => best_cok A n c zs most W (Hz.out.below hb) n6 ht hm.1 (by omega)
    unfold RetLREc at kB
    go_wp2_with fail
    refine (kB _ blA).mono ?_
    rintro _ w2 ⟨⟨u1, u2⟩, hB, A2, n2, c2, rfl, h2, hb2, hc2⟩
    replace B8 : Cs w2 (w.heap.size) #[.int .i64 tN, .int .i64 tD] := Cs.keep csA hb2
    replace hbw : Below w.heap.size w w2 := blA
    replace cB8 := B8.c
    replace fB8 := B8.f
    replace lB8 := B8.lt
    clear hb2
    clear kB
    -- what is known of the strongest region
    obtain ⟨hth, hmo⟩ := isBest_th (c := c) Hz.out n6 hg hB
    have hset := regL_set zs n (u1, u2) (manyT zs)
    have hcb := cbB_reg zs n (u1, u2) (manyT zs)
    have hsG := sumL_reg zs n (u1, u2) (ocG zs n) (manyT zs)
    unfold regG at hmo
    rw [← hsG] at hmo
    dsimp only at hth hcb
    clear hsG hB
    generalize hL : regL zs n (u1, u2) (manyT zs) = L at *
    clear hL
    have hcs := selL_set (bitQ bs) (manyT zs)
    have kc := fun (W : World) (hb : Below w.heap.size w W) => chosen_any A D n c m K zs bs W (Hz.out.below hb) n6 hg (Hb.out.below hb) hm2
    unfold RetSel at kc
    have hnp := cbB_np (os := selL (bitQ bs) (manyT zs)) hcb hth hset hcs
    have k1 := fun (W : World) (hb : Below w.heap.size w W) (hi : Ints W A2 n2 L) => esum_ok A A2 n c n2 c2 zs L W (Hz.out.below hb) n6 hi hc2 ht hset
    have k2 := fun (W : World) (hb : Below w.heap.size w W) (hi : Ints W A2 n2 L) => rsum_ok A A2 n c n2 c2 zs L W (Hz.out.below hb) n6 hi ht hset
    have k3 := fun (W : World) (hb : Below w.heap.size w W) (hi : Ints W A2 n2 L) => checkBest_ok A A2 n c n2 c2 zs L u1 u2 W (Hz.out.below hb) n6 hi ht hset hth 0 (by rw [if_pos hcb])
    have k4 := fun (W : World) (hb : Below w.heap.size w W) (hi : Ints W A2 n2 L) => rcheckBest_ok A A2 n c n2 c2 zs L u1 u2 W (Hz.out.below hb) n6 hi ht hset hth 0 (by rw [if_pos hcb])
    have k5 := fun (W : World) (hb : Below w.heap.size w W) (A3 : Option Addr) (n3 c3 : Nat) (hi : Ints W A3 n3 (selL (bitQ bs) (manyT zs))) (hc : n3 ≤ c3) => esum_ok A A3 n c n3 c3 zs _ W (Hz.out.below hb) n6 hi hc ht hcs
    have k6 := fun (W : World) (hb : Below w.heap.size w W) => checkBest_any A B n c N C zs gs tN tD W (Hz.out.below hb) (by omega) (Hk.out.below hb) hN.1 _ rfl
    have hgiv : checkBestP zs n gs tN tD = 0 → (∀ (W : World) (hb : Below w.heap.size w W), Calls Try.prog 38 #[.slice A n c, .slice B N C] W fun e w' => e = RetOE ((sumL (ocG zs n) gs, sumL (ocE zs n) gs), 0) ∧ Below W.heap.size W w') ∧
        (sumL (ocG zs n) (selL (bitQ bs) (manyT zs)) ≤ sumL (ocG zs n) gs → sumL (ocE zs n) (selL (bitQ bs) (manyT zs)) ≤ sumL (ocE zs n) gs) ∧ (sumL (ocG zs n) L ≤ sumL (ocG zs n) gs → sumL (ocE zs n) L ≤ sumL (ocE zs n) gs) := fun h => by
      obtain ⟨g1, g2, g3⟩ := checkBestP_ok h
      exact ⟨fun W hb => esum_ok A B n c N C zs gs W (Hz.out.below hb) n6 (Hk.out.below hb) hN.2 ht g1, cbB_np g3 g2 g1 hcs, cbB_np g3 g2 g1 hset⟩
    have Hgiv := Lib.hid hgiv
    clear hgiv hset hcb hcs hth hg t1 t2 ht hl hgt
    unfold RetI at k3 k4 k6
    unfold RetOE at k1 k2 k5 Hgiv
    dsimp only at k1 k2 k5 Hgiv
    generalize sumL (ocG zs n) L = sG at *
    generalize sumL (ocE zs n) L = sE at *
    generalize sumL (ocG zs n) (selL (bitQ bs) (manyT zs)) = oG at *
    generalize sumL (ocE zs n) (selL (bitQ bs) (manyT zs)) = oE at *
    generalize sumL (ocG zs n) gs = yG at *
    generalize sumL (ocE zs n) gs = yE at *
    generalize selL (bitQ bs) (manyT zs) = os at *
    generalize checkBestP zs n gs tN tD = cb at *
    have hmo' : ¬ most < sG := by omega
    have Hnp := Lib.hid hnp
    clear hnp hmo
    go_wp2_with fail
    refine (k1 _ blA (Ints.alloc h2 _)).mono ?_
    rintro _ w3 ⟨rfl, hb3⟩
    replace B8 : Cs w3 (w.heap.size) #[.int .i64 tN, .int .i64 tD] := Cs.keep csA hb3
    replace B12 : Cs w3 (w2.heap.size) #[.int .i64 u1, .int .i64 u2] := Cs.keep csA hb3
    replace h2 : Ints w3 A2 n2 L := Ints.below intsA hb3
    replace hbw : Below w.heap.size w w3 := blA
    replace cB8 := B8.c
    replace fB8 := B8.f
    replace lB8 := B8.lt
    replace cB12 := B12.c
    replace fB12 := B12.f
    replace lB12 := B12.lt
    clear hb3
    go_wp2_with fail
    refine (k2 _ blA (Ints.alloc h2 _)).mono ?_
    rintro e w4 ⟨rfl, hb4⟩
    replace B8 : Cs w4 (w.heap.size) #[.int .i64 tN, .int .i64 tD] := Cs.keep csA hb4
    replace B12 : Cs w4 (w2.heap.size) #[.int .i64 u1, .int .i64 u2] := Cs.keep csA hb4
    replace B14 : Cs w4 (w3.heap.size) #[.int .i64 sG, .int .i64 sE] := Cs.keep csA hb4
    replace h2 : Ints w4 A2 n2 L := Ints.below intsA hb4
    replace hbw : Below w.heap.size w w4 := blA
    replace cB8 := B8.c
    replace fB8 := B8.f
    replace lB8 := B8.lt
    replace cB12 := B12.c
    replace fB12 := B12.f
    replace lB12 := B12.lt
    replace cB14 := B14.c
    replace fB14 := B14.f
    replace lB14 := B14.lt
    clear hb4
    go_wp2_with fail
    refine (k3 _ blA (Ints.alloc h2 _)).mono ?_
    rintro e w5 ⟨rfl, hb5⟩
    replace B8 : Cs w5 (w.heap.size) #[.int .i64 tN, .int .i64 tD] := Cs.keep csA hb5
    replace B12 : Cs w5 (w2.heap.size) #[.int .i64 u1, .int .i64 u2] := Cs.keep csA hb5
    replace B14 : Cs w5 (w3.heap.size) #[.int .i64 sG, .int .i64 sE] := Cs.keep csA hb5
    replace B16 : Cs w5 (w4.heap.size) #[.int .i64 sG, .int .i64 sE] := Cs.keep csA hb5
    replace h2 : Ints w5 A2 n2 L := Ints.below intsA hb5
    replace hbw : Below w.heap.size w w5 := blA
    replace cB8 := B8.c
    replace fB8 := B8.f
    replace lB8 := B8.lt
    replace cB12 := B12.c
    replace fB12 := B12.f
    replace lB12 := B12.lt
    replace cB14 := B14.c
    replace fB14 := B14.f
    replace lB14 := B14.lt
    replace cB16 := B16.c
    replace fB16 := B16.f
    replace lB16 := B16.lt
    clear hb5
    go_wp2_with fail
    refine (k4 _ blA h2).mono ?_
    rintro e w6 ⟨rfl, hb6⟩
    replace B8 : Cs w6 (w.heap.size) #[.int .i64 tN, .int .i64 tD] := Cs.keep csA hb6
    replace B12 : Cs w6 (w2.heap.size) #[.int .i64 u1, .int .i64 u2] := Cs.keep csA hb6
    replace B14 : Cs w6 (w3.heap.size) #[.int .i64 sG, .int .i64 sE] := Cs.keep csA hb6
    replace B16 : Cs w6 (w4.heap.size) #[.int .i64 sG, .int .i64 sE] := Cs.keep csA hb6
    replace h2 : Ints w6 A2 n2 L := Ints.below intsA hb6
    replace hbw : Below w.heap.size w w6 := blA
    replace cB8 := B8.c
    replace fB8 := B8.f
    replace lB8 := B8.lt
    replace cB12 := B12.c
    replace fB12 := B12.f
    replace lB12 := B12.lt
    replace cB14 := B14.c
    replace fB14 := B14.f
    replace lB14 := B14.lt
    replace cB16 := B16.c
    replace fB16 := B16.f
    replace lB16 := B16.lt
    clear hb6
    clear k1 k2 k3 k4
    go_wp2_with fail
    refine (kc _ blA).mono ?_
    rintro _ w7 ⟨A3, n3, c3, rfl, h3, hc3, hb7⟩
    try clear h2
    try clear cB16 fB16 lB16
    try clear B16
    replace B8 : Cs w7 (w.heap.size) #[.int .i64 tN, .int .i64 tD] := Cs.keep csA hb7
    replace B12 : Cs w7 (w2.heap.size) #[.int .i64 u1, .int .i64 u2] := Cs.keep csA hb7
    replace B14 : Cs w7 (w3.heap.size) #[.int .i64 sG, .int .i64 sE] := Cs.keep csA hb7
    replace hbw : Below w.heap.size w w7 := blA
    replace cB8 := B8.c
    replace fB8 := B8.f
    replace lB8 := B8.lt
    replace cB12 := B12.c
    replace fB12 := B12.f
    replace lB12 := B12.lt
    replace cB14 := B14.c
    replace fB14 := B14.f
    replace lB14 := B14.lt
    clear hb7
    go_wp2_with fail
    refine (k5 _ blA _ _ _ h3 hc3).mono ?_
    rintro _ w8 ⟨rfl, hb8⟩
    try clear h2
    try clear cB12 fB12 lB12
    try clear B12
    try clear cB16 fB16 lB16
    try clear B16
    replace B8 : Cs w8 (w.heap.size) #[.int .i64 tN, .int .i64 tD] := Cs.keep csA hb8
    replace B14 : Cs w8 (w3.heap.size) #[.int .i64 sG, .int .i64 sE] := Cs.keep csA hb8
    replace hbw : Below w.heap.size w w8 := blA
    replace cB8 := B8.c
    replace fB8 := B8.f
    replace lB8 := B8.lt
    replace cB14 := B14.c
    replace fB14 := B14.f
    replace lB14 := B14.lt
    clear hb8
    clear kc k5 h3
    by_cases q1 : oG ≤ sG
    · have q2 := Hnp.out q1
      have q3 : ¬ sE < oE := by omega
      go_wp2_with fail
      refine (k6 _ blA).mono ?_
      rintro e w9 ⟨rfl, hb9⟩
      try clear h2
      try clear cB12 fB12 lB12
      try clear B12
      try clear cB16 fB16 lB16
      try clear B16
      replace B8 : Cs w9 (w.heap.size) #[.int .i64 tN, .int .i64 tD] := Cs.keep csA hb9
      replace B14 : Cs w9 (w3.heap.size) #[.int .i64 sG, .int .i64 sE] := Cs.keep csA hb9
      replace B18 : Cs w9 (w8.heap.size) #[.int .i64 oG, .int .i64 oE] := Cs.keep csA hb9
      replace hbw : Below w.heap.size w w9 := blA
      replace cB8 := B8.c
      replace fB8 := B8.f
      replace lB8 := B8.lt
      replace cB14 := B14.c
      replace fB14 := B14.f
      replace lB14 := B14.lt
      replace cB18 := B18.c
      replace fB18 := B18.f
      replace lB18 := B18.lt
      clear hb9
      clear k6 q1 q3 h20 h50 hmo'
      by_cases hcb : cb = 0
      · obtain ⟨k7, a1, a2⟩ := Hgiv.out hcb
        subst hcb
        have Ha1 := Lib.hid a1
        have Ha2 := Lib.hid a2
        clear a1 a2 Hgiv
        go_wp2_with fail
        refine (k7 _ blA).mono ?_
        rintro e w10 ⟨rfl, hb10⟩
        try clear cB8 fB8 lB8
        try clear B8
        try clear h2
        try clear cB12 fB12 lB12
        try clear B12
        try clear cB16 fB16 lB16
        try clear B16
        replace B14 : Cs w10 (w3.heap.size) #[.int .i64 sG, .int .i64 sE] := Cs.keep csA hb10
        replace B18 : Cs w10 (w8.heap.size) #[.int .i64 oG, .int .i64 oE] := Cs.keep csA hb10
        replace hbw : Below w.heap.size w w10 := blA
        replace cB14 := B14.c
        replace fB14 := B14.f
        replace lB14 := B14.lt
        replace cB18 := B18.c
        replace fB18 := B18.f
        replace lB18 := B18.lt
        clear hb10
        clear k7
        go_upto_region 14 with fail
        have B20 : Cs (w10.alloc (.cells #[.int .i64 yG, .int .i64 yE] 59)) w10.heap.size #[.int .i64 yG, .int .i64 yE] := csA
        have B14 : Cs (w10.alloc (.cells #[.int .i64 yG, .int .i64 yE] 59)) w3.heap.size #[.int .i64 sG, .int .i64 sE] := csA
        have B18 : Cs (w10.alloc (.cells #[.int .i64 yG, .int .i64 yE] 59)) w8.heap.size #[.int .i64 oG, .int .i64 oE] := csA
        replace hbw : Below w.heap.size w (w10.alloc (.cells #[.int .i64 yG, .int .i64 yE] 59)) := blA
        generalize (w10.alloc (.cells #[.int .i64 yG, .int .i64 yE] 59)) = W10 at *
        have cB14 := B14.c
        have fB14 := B14.f
        have lB14 := B14.lt
        have cB18 := B18.c
        have fB18 := B18.f
        have lB18 := B18.lt
        have cB20 := B20.c
        have fB20 := B20.f
        have lB20 := B20.lt
        by_cases x1 : yG < oG
        · by_cases x2 : yG < sG
          · go_wp2_with fail
            refine (kw _).mono ?_
            rintro e w11 ⟨rfl, hb11⟩
            try clear cB8 fB8 lB8
            try clear B8
            try clear h2
            try clear cB12 fB12 lB12
            try clear B12
            try clear cB14 fB14 lB14
            try clear B14
            try clear cB16 fB16 lB16
            try clear B16
            try clear cB18 fB18 lB18
            try clear B18
            try clear cB20 fB20 lB20
            try clear B20
            replace hbw : Below w.heap.size w w11 := blA
            clear hb11
            go_wp2_with fail
            go_ret
            exact ⟨rfl, blA⟩
          · have x2e := Ha2.out (by omega)
            have y1 := decide_eq_false x2
            have y2 := decide_eq_true x2e
            clear Ha1 Ha2 x2 x2e
            go_wp2_with fail
            refine (kw _).mono ?_
            rintro e w11 ⟨rfl, hb11⟩
            try clear cB8 fB8 lB8
            try clear B8
            try clear h2
            try clear cB12 fB12 lB12
            try clear B12
            try clear cB14 fB14 lB14
            try clear B14
            try clear cB16 fB16 lB16
            try clear B16
            try clear cB18 fB18 lB18
            try clear B18
            try clear cB20 fB20 lB20
            try clear B20
            replace hbw : Below w.heap.size w w11 := blA
            clear hb11
            go_wp2_with fail
            go_ret
            exact ⟨rfl, blA⟩
        · have x1e := Ha1.out (by omega)
          have y3 := decide_eq_false x1
          have y4 := decide_eq_true x1e
          clear x1 x1e
          by_cases x2 : yG < sG
          · go_wp2_with fail
            refine (kw _).mono ?_
            rintro e w11 ⟨rfl, hb11⟩
            try clear cB8 fB8 lB8
            try clear B8
            try clear h2
            try clear cB12 fB12 lB12
            try clear B12
            try clear cB14 fB14 lB14
            try clear B14
            try clear cB16 fB16 lB16
            try clear B16
            try clear cB18 fB18 lB18
            try clear B18
            try clear cB20 fB20 lB20
            try clear B20
            replace hbw : Below w.heap.size w w11 := blA
            clear hb11
            go_wp2_with fail
            go_ret
            exact ⟨rfl, blA⟩
          · have x2e := Ha2.out (by omega)
            have y1 := decide_eq_false x2
            have y2 := decide_eq_true x2e
            clear Ha1 Ha2 x2 x2e
            go_wp2_with fail
            refine (kw _).mono ?_
            rintro e w11 ⟨rfl, hb11⟩
            try clear cB8 fB8 lB8
            try clear B8
            try clear h2
            try clear cB12 fB12 lB12
            try clear B12
            try clear cB14 fB14 lB14
            try clear B14
            try clear cB16 fB16 lB16
            try clear B16
            try clear cB18 fB18 lB18
            try clear B18
            try clear cB20 fB20 lB20
            try clear B20
            replace hbw : Below w.heap.size w w11 := blA
            clear hb11
            go_wp2_with fail
            go_ret
            exact ⟨rfl, blA⟩
      · have e0 : (cb == 0) = false := by simp [hcb]
        have e1 : (cb != 0) = true := by simp [hcb]
        go_wp2_with fail
        refine (kw _).mono ?_
        rintro e w10 ⟨rfl, hb10⟩
        try clear cB8 fB8 lB8
        try clear B8
        try clear h2
        try clear cB12 fB12 lB12
        try clear B12
        try clear cB14 fB14 lB14
        try clear B14
        try clear cB16 fB16 lB16
        try clear B16
        try clear cB18 fB18 lB18
        try clear B18
        try clear cB20 fB20 lB20
        try clear B20
        replace hbw : Below w.heap.size w w10 := blA
        clear hb10
        go_wp2_with fail
        go_ret
        exact ⟨rfl, blA⟩
    · have q3 : ¬ oG ≤ sG := q1
      go_wp2_with fail
      refine (k6 _ blA).mono ?_
      rintro e w9 ⟨rfl, hb9⟩
      try clear h2
      try clear cB12 fB12 lB12
      try clear B12
      try clear cB16 fB16 lB16
      try clear B16
      try clear cB20 fB20 lB20
      try clear B20
      replace B8 : Cs w9 (w.heap.size) #[.int .i64 tN, .int .i64 tD] := Cs.keep csA hb9
      replace B14 : Cs w9 (w3.heap.size) #[.int .i64 sG, .int .i64 sE] := Cs.keep csA hb9
      replace B18 : Cs w9 (w8.heap.size) #[.int .i64 oG, .int .i64 oE] := Cs.keep csA hb9
      replace hbw : Below w.heap.size w w9 := blA
      replace cB8 := B8.c
      replace fB8 := B8.f
      replace lB8 := B8.lt
      replace cB14 := B14.c
      replace fB14 := B14.f
      replace lB14 := B14.lt
      replace cB18 := B18.c
      replace fB18 := B18.f
      replace lB18 := B18.lt
      clear hb9
      clear k6 q1 q3 h20 h50 hmo'
      by_cases hcb : cb = 0
      · obtain ⟨k7, a1, a2⟩ := Hgiv.out hcb
        subst hcb
        have Ha1 := Lib.hid a1
        have Ha2 := Lib.hid a2
        clear a1 a2 Hgiv
        go_wp2_with fail
        refine (k7 _ blA).mono ?_
        rintro e w10 ⟨rfl, hb10⟩
        try clear cB8 fB8 lB8
        try clear B8
        try clear h2
        try clear cB12 fB12 lB12
        try clear B12
        try clear cB16 fB16 lB16
        try clear B16
        try clear cB20 fB20 lB20
        try clear B20
        replace B14 : Cs w10 (w3.heap.size) #[.int .i64 sG, .int .i64 sE] := Cs.keep csA hb10
        replace B18 : Cs w10 (w8.heap.size) #[.int .i64 oG, .int .i64 oE] := Cs.keep csA hb10
        replace hbw : Below w.heap.size w w10 := blA
        replace cB14 := B14.c
        replace fB14 := B14.f
        replace lB14 := B14.lt
        replace cB18 := B18.c
        replace fB18 := B18.f
        replace lB18 := B18.lt
        clear hb10
        clear k7
        go_upto_region 14 with fail
        have B20 : Cs (w10.alloc (.cells #[.int .i64 yG, .int .i64 yE] 59)) w10.heap.size #[.int .i64 yG, .int .i64 yE] := csA
        have B14 : Cs (w10.alloc (.cells #[.int .i64 yG, .int .i64 yE] 59)) w3.heap.size #[.int .i64 sG, .int .i64 sE] := csA
        have B18 : Cs (w10.alloc (.cells #[.int .i64 yG, .int .i64 yE] 59)) w8.heap.size #[.int .i64 oG, .int .i64 oE] := csA
        replace hbw : Below w.heap.size w (w10.alloc (.cells #[.int .i64 yG, .int .i64 yE] 59)) := blA
        generalize (w10.alloc (.cells #[.int .i64 yG, .int .i64 yE] 59)) = W10 at *
        have cB14 := B14.c
        have fB14 := B14.f
        have lB14 := B14.lt
        have cB18 := B18.c
        have fB18 := B18.f
        have lB18 := B18.lt
        have cB20 := B20.c
        have fB20 := B20.f
        have lB20 := B20.lt
        by_cases x1 : yG < oG
        · by_cases x2 : yG < sG
          · go_wp2_with fail
            refine (kw _).mono ?_
            rintro e w11 ⟨rfl, hb11⟩
            try clear cB8 fB8 lB8
            try clear B8
            try clear h2
            try clear cB12 fB12 lB12
            try clear B12
            try clear cB14 fB14 lB14
            try clear B14
            try clear cB16 fB16 lB16
            try clear B16
            try clear cB18 fB18 lB18
            try clear B18
            try clear cB20 fB20 lB20
            try clear B20
            replace hbw : Below w.heap.size w w11 := blA
            clear hb11
            go_wp2_with fail
            go_ret
            exact ⟨rfl, blA⟩
          · have x2e := Ha2.out (by omega)
            have y1 := decide_eq_false x2
            have y2 := decide_eq_true x2e
            clear Ha1 Ha2 x2 x2e
            go_wp2_with fail
            refine (kw _).mono ?_
            rintro e w11 ⟨rfl, hb11⟩
            try clear cB8 fB8 lB8
            try clear B8
            try clear h2
            try clear cB12 fB12 lB12
            try clear B12
            try clear cB14 fB14 lB14
            try clear B14
            try clear cB16 fB16 lB16
            try clear B16
            try clear cB18 fB18 lB18
            try clear B18
            try clear cB20 fB20 lB20
            try clear B20
            replace hbw : Below w.heap.size w w11 := blA
            clear hb11
            go_wp2_with fail
            go_ret
            exact ⟨rfl, blA⟩
        · have x1e := Ha1.out (by omega)
          have y3 := decide_eq_false x1
          have y4 := decide_eq_true x1e
          clear x1 x1e
          by_cases x2 : yG < sG
          · go_wp2_with fail
            refine (kw _).mono ?_
            rintro e w11 ⟨rfl, hb11⟩
            try clear cB8 fB8 lB8
            try clear B8
            try clear h2
            try clear cB12 fB12 lB12
            try clear B12
            try clear cB14 fB14 lB14
            try clear B14
            try clear cB16 fB16 lB16
            try clear B16
            try clear cB18 fB18 lB18
            try clear B18
            try clear cB20 fB20 lB20
            try clear B20
            replace hbw : Below w.heap.size w w11 := blA
            clear hb11
            go_wp2_with fail
            go_ret
            exact ⟨rfl, blA⟩
          · have x2e := Ha2.out (by omega)
            have y1 := decide_eq_false x2
            have y2 := decide_eq_true x2e
            clear Ha1 Ha2 x2 x2e
            go_wp2_with fail
            refine (kw _).mono ?_
            rintro e w11 ⟨rfl, hb11⟩
            try clear cB8 fB8 lB8
            try clear B8
            try clear h2
            try clear cB12 fB12 lB12
            try clear B12
            try clear cB14 fB14 lB14
            try clear B14
            try clear cB16 fB16 lB16
            try clear B16
            try clear cB18 fB18 lB18
            try clear B18
            try clear cB20 fB20 lB20
            try clear B20
            replace hbw : Below w.heap.size w w11 := blA
            clear hb11
            go_wp2_with fail
            go_ret
            exact ⟨rfl, blA⟩
      · have e0 : (cb == 0) = false := by simp [hcb]
        have e1 : (cb != 0) = true := by simp [hcb]
        go_wp2_with fail
        refine (kw _).mono ?_
        rintro e w10 ⟨rfl, hb10⟩
        try clear cB8 fB8 lB8
        try clear B8
        try clear h2
        try clear cB12 fB12 lB12
        try clear B12
        try clear cB14 fB14 lB14
        try clear B14
        try clear cB16 fB16 lB16
        try clear B16
        try clear cB18 fB18 lB18
        try clear B18
        try clear cB20 fB20 lB20
        try clear B20
        replace hbw : Below w.heap.size w w10 := blA
        clear hb10
        go_wp2_with fail
        go_ret
        exact ⟨rfl, blA⟩

end Go.Proofs.Ytcmllkjgggcghaa
end
