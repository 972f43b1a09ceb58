/- EC1 EC2 EC3 EM2 -/
import Derived.Test.YtcmllkjgggcghaaEZ07
import Derived.Test.YtcmllkjgggcghaaEZ06
import Derived.Test.YtcmllkjgggcghaaEZ01
/- Walks of the reference of layer 10: CheckTest. -/
section
namespace Go.Proofs.Ytcmllkjgggcghaa
open Go.RowKit Go.Shelf
set_option linter.unusedSimpArgs false
set_option linter.unusedVariables false

theorem any_t {q : Pl → Bool} {zs : List Pl} {k : Nat} {x : Pl} (h : zs[k]? = some x) (hq : q x = true) : zs.any q = true := List.any_eq_true.2 ⟨x, List.mem_of_getElem? h, hq⟩
theorem any_f {q : Pl → Bool} {zs : List Pl} {n : Nat} (hl : zs.length = n) (h : ∀ j x, j < n → zs[j]? = some x → q x = false) : zs.any q = false := by
  rw [List.any_eq_false]
  intro x hx
  obtain ⟨j, hj, rfl⟩ := List.getElem_of_mem hx
  rw [h j _ (by omega) (List.getElem?_eq_getElem hj)]
  decide

theorem okn_iff (lo hi : Int) (l : List Int) : okn lo hi l = true ↔ ∀ i, i < l.length → lo ≤ l.getD i 0 ∧ l.getD i 0 ≤ hi := by
  unfold okn
  rw [List.all_eq_true]
  constructor
  · intro h i hi2
    have := h l[i] (List.getElem_mem hi2)
    rw [List.getD_eq_getElem?_getD, List.getElem?_eq_getElem hi2]
    simp [out] at this ⊢
    exact this
  · intro h x hx
    obtain ⟨i, hi2, rfl⟩ := List.getElem_of_mem hx
    have := h i hi2
    rw [List.getD_eq_getElem?_getD, List.getElem?_eq_getElem hi2] at this
    simp [out] at this ⊢
    exact this
theorem bad_g {p : Pl} {i : Nat} (hi : i < p.gs.length) (h : ¬ (0 ≤ p.gs.getD i 0 ∧ p.gs.getD i 0 ≤ 20)) : badP p = true := by
  have e : okn 0 20 p.gs = false := by
    cases h2 : okn 0 20 p.gs with
    | false => rfl
    | true => exact absurd ((okn_iff 0 20 p.gs).1 h2 i hi) h
  unfold badP
  rw [e]; rfl
theorem bad_e {p : Pl} {i : Nat} (hi : i < p.es.length) (h : ¬ (0 ≤ p.es.getD i 0 ∧ p.es.getD i 0 ≤ 20)) : badP p = true := by
  have e : okn 0 20 p.es = false := by
    cases h2 : okn 0 20 p.es with
    | false => rfl
    | true => exact absurd ((okn_iff 0 20 p.es).1 h2 i hi) h
  unfold badP
  rw [e]; simp
theorem bad_sum {p : Pl} (h : ¬ (p.gs.sum = p.es.sum ∧ 1 ≤ p.gs.sum ∧ p.gs.sum ≤ 20)) : badP p = true := by
  cases hb : badP p with
  | true => rfl
  | false =>
    exfalso
    apply h
    unfold badP at hb
    simp only [Bool.or_eq_false_iff, decide_eq_false_iff_not, Bool.not_eq_false'] at hb
    obtain ⟨⟨⟨b1, b2⟩, b3⟩, b4⟩ := hb
    have c3 : 1 ≤ p.gs.sum ∧ p.gs.sum ≤ 20 := by simp [okn, out] at b3; omega
    exact ⟨by simpa using b4, c3.1, c3.2⟩
theorem bad_no {p : Pl} (h1 : ∀ i, i < p.gs.length → 0 ≤ p.gs.getD i 0 ∧ p.gs.getD i 0 ≤ 20) (h2 : ∀ i, i < p.es.length → 0 ≤ p.es.getD i 0 ∧ p.es.getD i 0 ≤ 20) (h3 : p.gs.sum = p.es.sum) (h4 : 1 ≤ p.gs.sum) (h5 : p.gs.sum ≤ 20) : badP p = false := by
  unfold badP
  rw [(okn_iff 0 20 p.gs).2 h1, (okn_iff 0 20 p.es).2 h2]
  have e : okn 1 20 [p.gs.sum] = true := by simp [okn, out]; omega
  rw [e]
  simp [h3]

set_option maxRecDepth 10000 in
set_option maxHeartbeats 8000000 in
theorem rcheckTest_any (A : Option Addr) (n c : Nat) (zs : List Pl) (w : World) (hz : Plates w A n zs) (hn : n ≤ 9223372036854775807) :
    Calls Try.prog 41 #[.slice A n c] w fun e w' => e = .returned (.int .i64 (testE zs)) ∧ Below w.heap.size w w' := by
  have hl := hz.1
  have Hl := Lib.hid hl
  generalize hR : testE zs = R
  have HR : Hid (R = if n = 0 ∨ 6 < n then 6 else if zs.any fewP = true then 6 else if zs.any neP = true then 15 else if zs.any badP = true then 2 else 0) := Lib.hid (by rw [← hR]; unfold testE; rw [hl])
  have Hz := Lib.hid hz
  clear hz hR hl
  by_cases h0 : n = 0 ∨ 6 < n
  · have hR6 : R = 6 := by rw [HR.out, if_pos h0]
    subst hR6
    clear HR
    by_cases h1 : n = 0
    · subst h1
      go_enter Try.func41, Try.ntmps41
      go_wp2_with fail
      go_ret
      exact ⟨rfl, blA⟩
    · have h1i : ¬ (n : Int) < 1 := by omega
      have h2i : (6 : Int) < (n : Int) := by omega
      go_enter Try.func41, Try.ntmps41
      go_wp2_with fail
      go_ret
      exact ⟨rfl, blA⟩
  · have h1i : ¬ (n : Int) < 1 := by omega
    have h2i : ¬ (6 : Int) < (n : Int) := by omega
    have HR2 : Hid (R = if zs.any fewP = true then 6 else if zs.any neP = true then 15 else if zs.any badP = true then 2 else 0) := Lib.hid (by rw [HR.out, if_neg h0])
    clear HR
    go_enter Try.func41, Try.ntmps41
    go_wp2_with fail
    go_loopw [3] (fun s wx => ∃ (k : Nat) (W : World), k ≤ n ∧ s = .int .i64 k ∧ Hid (W = wx) ∧ Hid (∀ j x, j < k → zs[j]? = some x → fewP x = false) ∧ Below w.heap.size w W) (fun s _ => n - (intOf s).toNat)
    case atStart => exact ⟨0, _, Nat.zero_le _, rfl, Lib.hid rfl, Lib.hid (fun j x hj => absurd hj (by omega)), blA⟩
    case round =>
      obtain ⟨k, W, hk, rfl, HW, Hno, hbw⟩ := hrel
      obtain rfl := HW.out
      clear HW
      by_cases hkn : k < n
      · have hkI : (k : Int) < (n : Int) := by omega
        obtain ⟨b, off, p, rfl, hget, c0, c1⟩ := Hz.out.at_ hbw hkn
        by_cases g1 : p.gn < 2
        · have g1i : (p.gn : Int) < 2 := by omega
          have hR6 : R = 6 := by rw [HR2.out, if_pos (any_t hget (by unfold fewP; rw [decide_eq_true g1]; rfl))]
          subst hR6
          clear HR2 Hno hget
          go_wp2_with fail
          go_ret
          exact ⟨rfl, blA⟩
        · have g1i : ¬ (p.gn : Int) < 2 := by omega
          by_cases g2 : 4 < p.gn
          · have g2i : (4 : Int) < (p.gn : Int) := by omega
            have hR6 : R = 6 := by rw [HR2.out, if_pos (any_t hget (by unfold fewP; rw [decide_eq_true g2]; simp))]
            subst hR6
            clear HR2 Hno hget
            go_wp2_with fail
            go_ret
            exact ⟨rfl, blA⟩
          · have g2i : ¬ (4 : Int) < (p.gn : Int) := by omega
            have Hno2 : Hid (∀ j x, j < k + 1 → zs[j]? = some x → fewP x = false) := Lib.hid (fun j x hj hx => by
              by_cases e : j = k
              · subst e
                rw [hget] at hx
                injection hx with hx
                subst hx
                unfold fewP
                rw [decide_eq_false g1, decide_eq_false g2]; rfl
              · exact Hno.out j x (by omega) hx)
            clear Hno hget
            go_wp2_with fail
            go_roundw
            case rel => exact ⟨k + 1, _, by omega, by go_num, Lib.hid rfl, Hno2, hbw⟩
            case measure => simp [intOf]; omega
      · obtain rfl : n = k := by omega
        have hfew := any_f Hl.out (fun j x hj hx => Hno.out j x hj hx)
        have Hfew := Lib.hid (few_le hfew)
        have HR3 : Hid (R = if zs.any neP = true then 15 else if zs.any badP = true then 2 else 0) := Lib.hid (by rw [HR2.out, hfew, if_neg (by decide)])
        clear HR2 hfew Hno hkn
        go_wp2_with fail
        go_loopw [4] (fun s wx => ∃ (k : Nat) (W : World), k ≤ n ∧ s = .int .i64 k ∧ Hid (W = wx) ∧ Hid (∀ j x, j < k → zs[j]? = some x → neP x = false) ∧ Below w.heap.size w W) (fun s _ => n - (intOf s).toNat)
        case atStart => exact ⟨0, _, Nat.zero_le _, rfl, Lib.hid rfl, Lib.hid (fun j x hj => absurd hj (by omega)), hbw⟩
        case round =>
          clear hbw
          obtain ⟨k, W, hk, rfl, HW, Hno, hbw⟩ := hrel
          obtain rfl := HW.out
          clear HW
          by_cases hkn : k < n
          · have hkI : (k : Int) < (n : Int) := by omega
            have hk0 : (0 : Int) ≤ (k : Int) := by omega
            obtain ⟨b, off, p, rfl, hget, c0, c1⟩ := Hz.out.at_ hbw hkn
            by_cases g1 : p.en = p.gn
            · have g1b : ((p.en : Int) != (p.gn : Int)) = false := by simp [g1]
              have Hno2 : Hid (∀ j x, j < k + 1 → zs[j]? = some x → neP x = false) := Lib.hid (fun j x hj hx => by
                by_cases e : j = k
                · subst e
                  rw [hget] at hx
                  injection hx with hx
                  subst hx
                  unfold neP
                  simp [g1]
                · exact Hno.out j x (by omega) hx)
              clear Hno hget
              rw [g1] at g1b c1
              clear g1
              go_wp2_with fail
              go_quiet (fail)
              go_wp2_with fail
              go_roundw
              case rel => exact ⟨k + 1, _, by omega, by go_num, Lib.hid rfl, Hno2, bdrewN hbw _⟩
              case measure => simp [intOf]; omega
            · have g1b : ((p.en : Int) != (p.gn : Int)) = true := by simp; omega
              have g1c : ¬ (p.en : Int) = (p.gn : Int) := by omega
              have hR6 : R = 15 := by rw [HR3.out, if_pos (any_t hget (by unfold neP; simp [g1]))]
              subst hR6
              clear HR3 Hno hget
              go_wp2_with fail
              go_quiet (fail)
              go_wp2_with fail
              go_ret
              exact ⟨rfl, blA⟩
          · obtain rfl : n = k := by omega
            have hne := any_f Hl.out (fun j x hj hx => Hno.out j x hj hx)
            have Hne := Lib.hid (ne_eq hne)
            have HR4 : Hid (R = if zs.any badP = true then 2 else 0) := Lib.hid (by rw [HR3.out, hne, if_neg (by decide)])
            clear HR3 hne Hno hkn
            go_wp2_with fail
            go_loopw [5] (fun s wx => ∃ (k : Nat) (W : World), k ≤ n ∧ s = .int .i64 k ∧ Hid (W = wx) ∧ Hid (∀ j x, j < k → zs[j]? = some x → badP x = false) ∧ Below w.heap.size w W) (fun s _ => n - (intOf s).toNat)
            case atStart => exact ⟨0, _, Nat.zero_le _, rfl, Lib.hid rfl, Lib.hid (fun j x hj => absurd hj (by omega)), hbw⟩
            case round =>
              clear hbw
              obtain ⟨k, W, hk, rfl, HW, Hno, hbw⟩ := hrel
              obtain rfl := HW.out
              clear HW
              by_cases hkn : k < n
              · have hkI : (k : Int) < (n : Int) := by omega
                have hk0 : (0 : Int) ≤ (k : Int) := by omega
                obtain ⟨b, off, p, rfl, hget, c0, c1⟩ := Hz.out.at_ hbw hkn
                have Hget := Lib.hid hget
                have hmem := List.mem_of_getElem? hget
                obtain ⟨f2, f4⟩ := Hfew.out p hmem
                have hen := Hne.out p hmem
                have Hp := Lib.hid (Hz.out.2.2 p hmem)
                obtain ⟨bg, og, hgA, hgl, hgc⟩ := Hp.out.1.2 (by omega)
                obtain ⟨be, oe, heA, hel, hec⟩ := Hp.out.2.1.2 (by omega)
                have Hgc := Lib.hid hgc
                have HgA := Lib.hid hgA
                have HeA := Lib.hid heA
                have Hec := Lib.hid hec
                rw [hgA] at c0
                rw [heA, hen] at c1
                clear hget hmem hgc hec hgA heA
                go_wp2_with fail
                go_loopw [6, 7, 8] (fun s6 s7 s8 wx => ∃ (j : Nat) (g e : Int) (W : World), j ≤ p.gn ∧ s8 = .int .i64 j ∧ s6 = .int .i64 g ∧ s7 = .int .i64 e ∧ Hid (W = wx) ∧ Hid (g = (p.gs.take j).sum) ∧ Hid (e = (p.es.take j).sum) ∧ (0 ≤ g ∧ g ≤ 20 * (j : Int)) ∧ (0 ≤ e ∧ e ≤ 20 * (j : Int)) ∧
                    Hid (∀ i, i < j → (0 ≤ p.gs.getD i 0 ∧ p.gs.getD i 0 ≤ 20) ∧ (0 ≤ p.es.getD i 0 ∧ p.es.getD i 0 ≤ 20)) ∧ Below w.heap.size w W) (fun _ _ s8 _ => p.gn - (intOf s8).toNat)
                case atStart => exact ⟨0, 0, 0, _, Nat.zero_le _, rfl, rfl, rfl, Lib.hid rfl, Lib.hid (by simp), Lib.hid (by simp), by omega, by omega, Lib.hid (fun i hi => absurd hi (by omega)), hbw⟩
                case round =>
                  clear hbw c0 c1
                  obtain ⟨j, g, e, W2, hj, rfl, rfl, rfl, HW2, Hg, He, hg, he, HI, hbw⟩ := hrel
                  obtain rfl := HW2.out
                  clear HW2
                  obtain ⟨c0, c1⟩ := Hz.out.cell hbw hkn Hget.out
                  rw [HgA.out] at c0
                  rw [HeA.out, hen] at c1
                  have hj0 : (0 : Int) ≤ (j : Int) := by omega
                  by_cases hjn : j < p.gn
                  · have hjI : (j : Int) < (p.gn : Int) := by omega
                    have cg : W2.cell? ⟨bg, og + j, none⟩ = some (.int .i64 (p.gs.getD j 0)) := (hbw.cell (p := ⟨bg, og + j, none⟩) hgl).trans (Hgc.out j hjn)
                    have ce : W2.cell? ⟨be, oe + j, none⟩ = some (.int .i64 (p.es.getD j 0)) := (hbw.cell (p := ⟨be, oe + j, none⟩) hel).trans (Hec.out j (by omega))
                    have Hst := Lib.hid (sum_take p.gs j (by rw [Hp.out.1.1]; exact hjn))
                    have Het := Lib.hid (sum_take p.es j (by rw [Hp.out.2.1.1]; omega))
                    by_cases a1 : p.gs.getD j 0 < 0
                    case pos =>
                      have hR6 : R = 2 := by rw [HR4.out, if_pos (any_t Hget.out (bad_g (i := j) (by rw [Hp.out.1.1]; omega) (by omega)))]
                      subst hR6
                      clear HR4 Hno HI Hg He Hp Hget Hst Het Hgc Hec HgA HeA Hfew Hne
                      generalize p.gs.getD j 0 = x at *
                      generalize p.es.getD j 0 = y at *
                      go_wp2_with fail
                      go_quiet (fail)
                      go_wp2_with fail
                      go_ret
                      exact ⟨rfl, blA⟩
                    case neg =>
                    by_cases a2 : 20 < p.gs.getD j 0
                    case pos =>
                      have hR6 : R = 2 := by rw [HR4.out, if_pos (any_t Hget.out (bad_g (i := j) (by rw [Hp.out.1.1]; omega) (by omega)))]
                      subst hR6
                      clear HR4 Hno HI Hg He Hp Hget Hst Het Hgc Hec HgA HeA Hfew Hne
                      generalize p.gs.getD j 0 = x at *
                      generalize p.es.getD j 0 = y at *
                      go_wp2_with fail
                      go_quiet (fail)
                      go_wp2_with fail
                      go_ret
                      exact ⟨rfl, blA⟩
                    case neg =>
                    by_cases a3 : p.es.getD j 0 < 0
                    case pos =>
                      have hR6 : R = 2 := by rw [HR4.out, if_pos (any_t Hget.out (bad_e (i := j) (by rw [Hp.out.2.1.1]; omega) (by omega)))]
                      subst hR6
                      clear HR4 Hno HI Hg He Hp Hget Hst Het Hgc Hec HgA HeA Hfew Hne
                      generalize p.gs.getD j 0 = x at *
                      generalize p.es.getD j 0 = y at *
                      go_wp2_with fail
                      go_quiet (fail)
                      go_wp2_with fail
                      go_ret
                      exact ⟨rfl, blA⟩
                    case neg =>
                    by_cases a4 : 20 < p.es.getD j 0
                    case pos =>
                      have hR6 : R = 2 := by rw [HR4.out, if_pos (any_t Hget.out (bad_e (i := j) (by rw [Hp.out.2.1.1]; omega) (by omega)))]
                      subst hR6
                      clear HR4 Hno HI Hg He Hp Hget Hst Het Hgc Hec HgA HeA Hfew Hne
                      generalize p.gs.getD j 0 = x at *
                      generalize p.es.getD j 0 = y at *
                      go_wp2_with fail
                      go_quiet (fail)
                      go_wp2_with fail
                      go_ret
                      exact ⟨rfl, blA⟩
                    case neg =>
                    have HI2 : Hid (∀ i, i < j + 1 → (0 ≤ p.gs.getD i 0 ∧ p.gs.getD i 0 ≤ 20) ∧ (0 ≤ p.es.getD i 0 ∧ p.es.getD i 0 ≤ 20)) := Lib.hid (fun i hi => by
                      by_cases e : i = j
                      · subst e; exact ⟨⟨by omega, by omega⟩, ⟨by omega, by omega⟩⟩
                      · exact HI.out i (by omega))
                    have Hg2 : Hid (g + p.gs.getD j 0 = (p.gs.take (j + 1)).sum) := Lib.hid (by rw [Hst.out, ← Hg.out])
                    have He2 : Hid (e + p.es.getD j 0 = (p.es.take (j + 1)).sum) := Lib.hid (by rw [Het.out, ← He.out])
                    clear Hst Het HI Hg He
                    have hcast : ((j + 1 : Nat) : Int) = (j : Int) + 1 := by omega
                    have f1 : IntKind.i64.wrap (g + p.gs.getD j 0) = g + p.gs.getD j 0 := IntWalk.i64_in _ (by omega)
                    have f2 : IntKind.i64.wrap (e + p.es.getD j 0) = e + p.es.getD j 0 := IntWalk.i64_in _ (by omega)
                    have b1 : 0 ≤ g + p.gs.getD j 0 ∧ g + p.gs.getD j 0 ≤ 20 * ((j + 1 : Nat) : Int) := by omega
                    have b2 : 0 ≤ e + p.es.getD j 0 ∧ e + p.es.getD j 0 ≤ 20 * ((j + 1 : Nat) : Int) := by omega
                    have Hb1 := Lib.hid b1
                    have Hb2 := Lib.hid b2
                    clear b1 b2 hcast
                    generalize p.gs.getD j 0 = x at *
                    generalize p.es.getD j 0 = y at *
                    go_wp2_with fail
                    go_quiet (fail)
                    go_wp2_with fail
                    go_roundw
                    case rel => exact ⟨j + 1, g + x, e + y, _, by omega, by go_num, rfl, rfl, Lib.hid rfl, Hg2, He2, Hb1.out, Hb2.out, HI2, bdrewN hbw _⟩
                    case measure => simp [intOf]; omega
                  · have hje : j = p.gn := by omega
                    have hgs : g = p.gs.sum := by rw [Hg.out, List.take_of_length_le (by rw [Hp.out.1.1]; omega)]
                    have hes : e = p.es.sum := by rw [He.out, List.take_of_length_le (by rw [Hp.out.2.1.1]; omega)]
                    subst hje
                    by_cases s1 : g = e
                    case neg =>
                      have s1b : (g == e) = false := by simp [s1]
                      have s1c : (g != e) = true := by simp [s1]
                      have hR6 : R = 2 := by rw [HR4.out, if_pos (any_t Hget.out (bad_sum (by rw [← hgs, ← hes]; omega)))]
                      subst hR6
                      clear HR4 Hno HI Hg He Hp Hget Hgc Hec HgA HeA Hfew Hne hgs hes
                      go_wp2_with fail
                      go_ret
                      exact ⟨rfl, blA⟩
                    case pos =>
                    have s1b : (g == e) = true := by simp [s1]
                    have s1c : (g != e) = false := by simp [s1]
                    by_cases s2 : g < 1
                    case pos =>
                      have hR6 : R = 2 := by rw [HR4.out, if_pos (any_t Hget.out (bad_sum (by rw [← hgs, ← hes]; omega)))]
                      subst hR6
                      clear HR4 Hno HI Hg He Hp Hget Hgc Hec HgA HeA Hfew Hne hgs hes
                      go_wp2_with fail
                      go_ret
                      exact ⟨rfl, blA⟩
                    case neg =>
                    by_cases s3 : 20 < g
                    case pos =>
                      have hR6 : R = 2 := by rw [HR4.out, if_pos (any_t Hget.out (bad_sum (by rw [← hgs, ← hes]; omega)))]
                      subst hR6
                      clear HR4 Hno HI Hg He Hp Hget Hgc Hec HgA HeA Hfew Hne hgs hes
                      go_wp2_with fail
                      go_ret
                      exact ⟨rfl, blA⟩
                    case neg =>
                    have hnb : badP p = false := bad_no (fun i hi => (HI.out i (by rw [Hp.out.1.1] at hi; exact hi)).1) (fun i hi => (HI.out i (by rw [Hp.out.2.1.1, hen] at hi; exact hi)).2) (by rw [← hgs, ← hes]; exact s1) (by rw [← hgs]; omega) (by rw [← hgs]; omega)
                    have Hno2 : Hid (∀ j x, j < k + 1 → zs[j]? = some x → badP x = false) := Lib.hid (fun i x hi hx => by
                      by_cases e : i = k
                      · subst e
                        rw [Hget.out] at hx
                        injection hx with hx
                        subst hx
                        exact hnb
                      · exact Hno.out i x (by omega) hx)
                    clear Hno HI Hg He Hp Hget Hgc Hec HgA HeA hgs hes hnb
                    subst s1
                    go_wp2_with fail
                    go_roundw
                    case rel => exact ⟨k + 1, _, by omega, by go_num, Lib.hid rfl, Hno2, hbw⟩
                    case measure => simp [intOf]; omega
              · obtain rfl : n = k := by omega
                have hbad := any_f Hl.out (fun j x hj hx => Hno.out j x hj hx)
                have hR0 : R = 0 := by rw [HR4.out, hbad, if_neg (by decide)]
                subst hR0
                clear HR4 hbad Hno hkn
                go_wp2_with fail
                go_ret
                exact ⟨rfl, blA⟩

end Go.Proofs.Ytcmllkjgggcghaa
end

/- Walks of the law package of layer 10: the test of the chapter's examples. -/
section
namespace Go.Proofs.Ytcmllkjgggcghaa
open Go.RowKit Go.Shelf
set_option linter.unusedSimpArgs false
set_option linter.unusedVariables false

theorem Ints.new3 (w : World) (H : Nat) (x y z : Int) (t : TypeId) (hH : w.heap.size = H) : Ints (w.alloc (.cells #[.int .i64 x, .int .i64 y, .int .i64 z] t)) (some ⟨H, 0, none⟩) 3 [x, y, z] := Ints.new w H [x, y, z] t hH

/-- the plate of the chapter's examples, where its lists lie -/
def exPl (g1 g2 : Nat) : Pl := ⟨some ⟨g1, 0, none⟩, 3, 3, [1, 1, 1], some ⟨g2, 0, none⟩, 3, 3, [0, 1, 2]⟩

set_option maxHeartbeats 1000000 in
theorem plate_any (w : World) :
    Calls Try.prog 72 #[] w fun e w' => ∃ g1 g2 : Nat, e = .returned (.agg #[.slice (some ⟨g1, 0, none⟩) 3 3, .slice (some ⟨g2, 0, none⟩) 3 3]) ∧ PlOk w' (exPl g1 g2) ∧ Below w.heap.size w w' := by
  go_enter Try.func72, Try.ntmps72
  go_wp2_with fail
  have B0 : Cs (((w.alloc (.cells #[.slice (some ⟨w.heap.size + 1, 0, none⟩) 3 3, .slice (some ⟨w.heap.size + 1 + 1, 0, none⟩) 3 3] 73)).alloc (.cells #[.int .i64 1, .int .i64 1, .int .i64 1] 2)).alloc (.cells #[.int .i64 0, .int .i64 1, .int .i64 2] 2)) w.heap.size #[.slice (some ⟨w.heap.size + 1, 0, none⟩) 3 3, .slice (some ⟨w.heap.size + 1 + 1, 0, none⟩) 3 3] := csA
  have i1 : Ints (((w.alloc (.cells #[.slice (some ⟨w.heap.size + 1, 0, none⟩) 3 3, .slice (some ⟨w.heap.size + 1 + 1, 0, none⟩) 3 3] 73)).alloc (.cells #[.int .i64 1, .int .i64 1, .int .i64 1] 2)).alloc (.cells #[.int .i64 0, .int .i64 1, .int .i64 2] 2)) (some ⟨w.heap.size + 1, 0, none⟩) 3 [1, 1, 1] := Ints.alloc (Ints.new3 _ _ _ _ _ _ (by simp)) _
  have i2 : Ints (((w.alloc (.cells #[.slice (some ⟨w.heap.size + 1, 0, none⟩) 3 3, .slice (some ⟨w.heap.size + 1 + 1, 0, none⟩) 3 3] 73)).alloc (.cells #[.int .i64 1, .int .i64 1, .int .i64 1] 2)).alloc (.cells #[.int .i64 0, .int .i64 1, .int .i64 2] 2)) (some ⟨w.heap.size + 1 + 1, 0, none⟩) 3 [0, 1, 2] := Ints.new3 _ _ _ _ _ _ (by simp)
  have cB0 := B0.c
  have fB0 := B0.f
  have lB0 := B0.lt
  exact bodyPost_ret (v := .agg #[.slice (some ⟨w.heap.size + 1, 0, none⟩) 3 3, .slice (some ⟨w.heap.size + 1 + 1, 0, none⟩) 3 3]) (by simp [results, Try.results72, go_sem, cB0, fB0, lB0]) rfl ⟨_, _, rfl, ⟨i1, i2, by show 3 ≤ 9223372036854775807; decide, by show 3 ≤ 9223372036854775807; decide⟩, blA⟩

/-- the test of the chapter's examples is handed back -/
def RetPlates (w : World) (e : Ending) (w' : World) : Prop :=
  ∃ g g1 g2 g3 g4 c : Nat, e = .returned (.slice (some ⟨g, 0, none⟩) 2 c) ∧ Plates w' (some ⟨g, 0, none⟩) 2 [exPl g1 g2, exPl g3 g4] ∧ Below w.heap.size w w'

set_option maxHeartbeats 1000000 in
theorem test_any (w : World) : Calls Try.prog 46 #[] w (RetPlates w) := by
  go_enter Try.func46, Try.ntmps46
  go_wp2_with fail
  refine (plate_any _).mono ?_
  rintro _ w1 ⟨g1, g2, rfl, h1, hb1⟩
  replace hbw : Below w.heap.size w w1 := blA
  clear hb1
  go_wp2_with fail
  refine (plate_any _).mono ?_
  rintro _ w2 ⟨g3, g4, rfl, h3, hb2⟩
  replace h1 := h1.below hb2
  replace hbw : Below w.heap.size w w2 := blA
  clear hb2
  go_wp2_with fail
  have hP : Plates (w2.alloc (.cells #[.slice (some ⟨g1, 0, none⟩) 3 3, .slice (some ⟨g2, 0, none⟩) 3 3, .slice (some ⟨g3, 0, none⟩) 3 3, .slice (some ⟨g4, 0, none⟩) 3 3] 73)) (some ⟨w2.heap.size, 0, none⟩) 2 [exPl g1 g2, exPl g3 g4] := by
    refine ⟨rfl, fun _ => ⟨w2.heap.size, 0, rfl, by simp, fun i p hp => ?_⟩, fun p hp => ?_⟩
    · match i, hp with
      | 0, hp =>
        simp at hp
        subst hp
        simp [exPl]
      | 1, hp =>
        simp at hp
        subst hp
        simp [exPl]
      | _ + 2, hp => simp at hp
    · have hb : Below w2.heap.size w2 (w2.alloc (.cells #[.slice (some ⟨g1, 0, none⟩) 3 3, .slice (some ⟨g2, 0, none⟩) 3 3, .slice (some ⟨g3, 0, none⟩) 3 3, .slice (some ⟨g4, 0, none⟩) 3 3] 73)) := blA
      simp at hp
      rcases hp with rfl | rfl
      · exact h1.below hb
      · exact h3.below hb
  go_ret
  exact ⟨_, g1, g2, g3, g4, _, rfl, hP, blA⟩

end Go.Proofs.Ytcmllkjgggcghaa
end

/- Walks of the reference of layer 10: the odds of answers. -/
section
namespace Go.Proofs.Ytcmllkjgggcghaa
open Go.RowKit Go.Shelf
set_option linter.unusedSimpArgs false
set_option linter.unusedVariables false

set_option maxRecDepth 10000 in
set_option maxHeartbeats 4000000 in
theorem rodds_any (A B : Option Addr) (n c c2 : Nat) (zs : List Pl) (ds : List Int) (f : Nat → Nat) (w : World) (hz : Plates w A n zs) (hd : Ints w B n ds) (hn : n ≤ 6) (hg : ∀ p ∈ zs, Good p) (hf : Fit zs f) (hdf : ∀ i, i < n → ds.getD i 0 = (f i : Int)) :
    Calls Try.prog 65 #[.slice A n c, .slice B n c2] w fun e w' => e = .returned (.agg #[.int .i64 (oddG zs f n), .int .i64 (oddE zs f n)]) ∧ Below w.heap.size w w' := by
  have hl := hz.1
  have Hz := Lib.hid hz
  have Hg := Lib.hid hg
  have Hf := Lib.hid hf
  have Hd := Lib.hid hd
  have Hdf := Lib.hid hdf
  have Hb := Lib.hid (fun k hk => odd_bd hg hz.2.2 hf k hk)
  generalize hR1 : oddG zs f n = R1 at *
  generalize hR2 : oddE zs f n = R2 at *
  have HR1 := Lib.hid hR1
  have HR2 := Lib.hid hR2
  clear hz hg hf hR1 hR2 hd hdf
  go_enter Try.func65, Try.ntmps65
  go_wp2_with fail
  go_loopw [6] (fun s6 wx => ∃ (k : Nat) (x y : Int) (W : World), k ≤ n ∧ s6 = .int .i64 k ∧ Hid (W = wx) ∧ Hid (x = oddG zs f k) ∧ Hid (y = oddE zs f k) ∧ Cs W w.heap.size #[.int .i64 0, .int .i64 0] ∧ Cs W (w.heap.size + 1) #[.int .i64 x, .int .i64 y] ∧ Below w.heap.size w W) (fun s6 _ => n - (intOf s6).toNat)
  case atStart => exact ⟨0, 1, 1, _, Nat.zero_le _, rfl, Lib.hid rfl, Lib.hid rfl, Lib.hid rfl, csA, csA, blA⟩
  case round =>
    obtain ⟨k, x, y, W, hk, rfl, HW, Hx, Hy, B1, B2, hbw⟩ := hrel
    obtain rfl := HW.out
    clear HW
    by_cases hkn : k < n
    · have hkI : (k : Int) < (n : Int) := by omega
      have hk0 : (0 : Int) ≤ (k : Int) := by omega
      obtain ⟨b, off, p, rfl, hget, c0, c1⟩ := Hz.out.at_ hbw hkn
      obtain ⟨bd, od, rfl, hdl, cd⟩ := Hd.out.at0 hbw hkn
      rw [Hdf.out k hkn] at cd
      have hmem := List.mem_of_getElem? hget
      have Hget := Lib.hid hget
      have g := Hg.out p hmem
      have hok := Hz.out.2.2 p hmem
      have hfk := Hf.out k p hget
      have hen := g.en
      have hpa := plAt_eq hget
      obtain ⟨⟨q1, q2⟩, ⟨q3, q4⟩⟩ := Hb.out (k + 1) (by omega)
      have hp20 := pow20 (k + 1) (by omega)
      have Hx2 : Hid (x * p.gs.getD (f k) 0 = oddG zs f (k + 1)) := Lib.hid (by rw [Hx.out, oddG, hpa])
      have Hy2 : Hid (y * p.es.getD (f k) 0 = oddE zs f (k + 1)) := Lib.hid (by rw [Hy.out, oddE, hpa])
      have f1 : IntKind.i64.wrap (x * p.gs.getD (f k) 0) = x * p.gs.getD (f k) 0 := by rw [Hx2.out]; exact IntWalk.i64_in _ (by omega)
      have f2 : IntKind.i64.wrap (y * p.es.getD (f k) 0) = y * p.es.getD (f k) 0 := by rw [Hy2.out]; exact IntWalk.i64_in _ (by omega)
      obtain ⟨bg, og, hgA, hgl, hgc⟩ := hok.1.2 (by omega)
      obtain ⟨be, oe, heA, hel, hec⟩ := hok.2.1.2 (by omega)
      have hgc2 := hgc (f k) hfk
      have hec2 := hec (f k) (by omega)
      rw [hgA] at c0
      rw [heA, hen] at c1
      have HgA := Lib.hid hgA
      have HeA := Lib.hid heA
      have hfkI : ((f k : Nat) : Int) < (p.gn : Int) := by omega
      have hfk0 : (0 : Int) ≤ ((f k : Nat) : Int) := by omega
      clear hgc hec hget hmem g hok hpa q1 q2 q3 q4 hp20 Hx Hy hgA heA
      have cg : W.cell? ⟨bg, og + f k, none⟩ = some (.int .i64 (p.gs.getD (f k) 0)) := (hbw.cell (p := ⟨bg, og + f k, none⟩) hgl).trans hgc2
      have x2 : w.heap.size ≠ w.heap.size + 1 := by omega
      have x5 : w.heap.size ≤ w.heap.size + 1 := by omega
      generalize p.gs.getD (f k) 0 = u at *
      generalize p.es.getD (f k) 0 = v at *
      have cB2 := B2.c
      have fB2 := B2.f
      have lB2 := B2.lt
      go_wp2_with fail
      go_region
      have D1 := (B1.other (p := ⟨w.heap.size + 1, 0, none⟩) x2 (.int .i64 (x * u))).drew
      have D2 : Cs _ (w.heap.size + 1) #[.int .i64 (x * u), .int .i64 y] := (B2.set 0 (.int .i64 (x * u)) (by simp)).drew
      have hbD := (bset hbw (p := ⟨w.heap.size + 1, 0, none⟩) x5 (.int .i64 (x * u))).drew
      clear B1 B2 hbw cg cd c0 c1 cB2 fB2 lB2 f1
      generalize (W.setCell ⟨w.heap.size + 1, 0, none⟩ (.int .i64 (x * u))).drew = W3 at *
      obtain ⟨c0, c1⟩ := Hz.out.cell hbD hkn Hget.out
      rw [HgA.out] at c0
      rw [HeA.out, hen] at c1
      have cd : W3.cell? ⟨bd, od + k, none⟩ = some (.int .i64 (f k : Nat)) := by
        obtain ⟨bd', od', e, _, h⟩ := Hd.out.at0 hbD hkn
        injection e with e
        injection e with e1 e2
        subst e1 e2
        rw [Hdf.out k hkn] at h
        exact h
      have ce : W3.cell? ⟨be, oe + f k, none⟩ = some (.int .i64 v) := (hbD.cell (p := ⟨be, oe + f k, none⟩) hel).trans hec2
      have cD2 := D2.c
      have fD2 := D2.f
      have lD2 := D2.lt
      go_wp2_with fail
      go_region
      have E1 := (D1.other (p := ⟨w.heap.size + 1, 1, none⟩) x2 (.int .i64 (y * v))).drew
      have E2 : Cs _ (w.heap.size + 1) #[.int .i64 (x * u), .int .i64 (y * v)] := (D2.set 1 (.int .i64 (y * v)) (by simp)).drew
      have hbE := (bset hbD (p := ⟨w.heap.size + 1, 1, none⟩) x5 (.int .i64 (y * v))).drew
      go_wp2_with fail
      go_roundw
      case rel => exact ⟨k + 1, x * u, y * v, _, by omega, by go_num, Lib.hid rfl, Hx2, Hy2, E1, E2, hbE⟩
      case measure => simp [intOf]; omega
    · obtain rfl : k = n := by omega
      have hf1 : x = R1 := by rw [Hx.out, HR1.out]
      have hf2 : y = R2 := by rw [Hy.out, HR2.out]
      subst hf1 hf2
      clear Hx Hy HR1 HR2
      have cB1 := B1.c
      have fB1 := B1.f
      have lB1 := B1.lt
      have cB2 := B2.c
      have fB2 := B2.f
      have lB2 := B2.lt
      have n2 := B2.lt
      go_wp2_with fail
      have F1 := B1.set2 (.int .i64 x) (.int .i64 y)
      have cF := F1.c
      have fF := F1.f
      have lF := F1.lt
      have hbF := bset2 hbw (g := w.heap.size) (Nat.le_refl _) (.int .i64 x) (.int .i64 y)
      exact bodyPost_ret (v := .agg #[.int .i64 x, .int .i64 y]) (by simp [results, Try.results65, go_sem, cF, fF, lF]) rfl ⟨rfl, hbF⟩

end Go.Proofs.Ytcmllkjgggcghaa
end

/- Plain laws of outcomes: answers as digits, the number of an outcome, what comes next. -/
section
namespace Go.Proofs.Ytcmllkjgggcghaa
set_option linter.unusedSimpArgs false
set_option linter.unusedVariables false

/-- how many answers the first plates have together -/
def mt (L : Nat → Nat) : Nat → Nat
  | 0 => 1
  | k + 1 => mt L k * L k
/-- the number of answers -/
def vl (L : Nat → Nat) : Nat → (Nat → Nat) → Nat
  | 0, _ => 0
  | k + 1, f => vl L k f * L k + f k

variable {L : Nat → Nat}

theorem vl_congr : ∀ k (f g : Nat → Nat), (∀ i, i < k → f i = g i) → vl L k f = vl L k g
  | 0, _, _, _ => rfl
  | k + 1, f, g, h => by rw [vl, vl, vl_congr k f g (fun i hi => h i (by omega)), h k (by omega)]

theorem vl_lt : ∀ k (f : Nat → Nat), (∀ i, i < k → f i < L i) → vl L k f < mt L k
  | 0, _, _ => by simp [vl, mt]
  | k + 1, f, h => by
    have h1 := vl_lt k f (fun i hi => h i (by omega))
    have h2 := h k (by omega)
    rw [vl, mt]
    have h3 : (vl L k f + 1) * L k ≤ mt L k * L k := Nat.mul_le_mul_right _ h1
    rw [Nat.add_mul] at h3
    omega

theorem vl_inj : ∀ k (f g : Nat → Nat), (∀ i, i < k → f i < L i) → (∀ i, i < k → g i < L i) → vl L k f = vl L k g → ∀ i, i < k → f i = g i
  | 0, _, _, _, _, _, i, hi => by omega
  | k + 1, f, g, hf, hg, h, i, hi => by
    have h1 := hf k (by omega)
    have h2 := hg k (by omega)
    rw [vl, vl] at h
    have e1 : f k = g k := by
      have a := congrArg (· % L k) h
      simp only [Nat.mul_add_mod_self_right, Nat.mod_eq_of_lt h1, Nat.mod_eq_of_lt h2] at a
      exact a
    have e2 : vl L k f = vl L k g := by
      have : vl L k f * L k = vl L k g * L k := by omega
      exact Nat.eq_of_mul_eq_mul_right (by omega) this
    by_cases e : i = k
    · subst e; exact e1
    · exact vl_inj k f g (fun j hj => hf j (by omega)) (fun j hj => hg j (by omega)) e2 i (by omega)

theorem upd_same (f : Nat → Nat) (k v : Nat) : upd f k v k = v := by simp [upd]
theorem upd_ne (f : Nat → Nat) {k i : Nat} (v : Nat) (h : i ≠ k) : upd f k v i = f i := by simp [upd, h]

/-- what comes next -/
theorem next_vl : ∀ k (f : Nat → Nat), (∀ i, i < k → f i < L i) →
    (vl L k f + 1 < mt L k → vl L k (nextA L k f) = vl L k f + 1) ∧ (vl L k f + 1 = mt L k → ∀ i, i < k → nextA L k f i = 0) ∧ (∀ i, i < k → nextA L k f i < L i) ∧ (∀ i, k ≤ i → nextA L k f i = f i)
  | 0, f, _ => ⟨fun h => by simp [mt, vl] at h, fun _ i hi => by omega, fun i hi => by omega, fun _ _ => rfl⟩
  | k + 1, f, h => by
    have hk := h k (by omega)
    have hv := vl_lt (L := L) k f (fun i hi => h i (by omega))
    have hm : (vl L k f + 1) * L k ≤ mt L k * L k := Nat.mul_le_mul_right _ hv
    rw [Nat.add_mul, Nat.one_mul] at hm
    rw [nextA]
    by_cases hd : f k + 1 < L k
    · rw [if_pos hd]
      have e : vl L k (upd f k (f k + 1)) = vl L k f := vl_congr k _ _ (fun i hi => upd_ne f _ (by omega))
      refine ⟨fun _ => ?_, fun hx => ?_, fun i hi => ?_, fun i hi => upd_ne f _ (by omega)⟩
      · rw [vl, vl, e, upd_same]; omega
      · rw [vl, mt] at hx; omega
      · by_cases ei : i = k
        · subst ei; rw [upd_same]; exact hd
        · rw [upd_ne f _ ei]; exact h i hi
    · rw [if_neg hd]
      have hd2 : f k + 1 = L k := by omega
      have e : vl L k (upd f k 0) = vl L k f := vl_congr k _ _ (fun i hi => upd_ne f _ (by omega))
      obtain ⟨i1, i2, i3, i4⟩ := next_vl k (upd f k 0) (fun i hi => by rw [upd_ne f _ (by omega)]; exact h i (by omega))
      rw [e] at i1 i2
      have ek : nextA L k (upd f k 0) k = 0 := by rw [i4 k (Nat.le_refl _), upd_same]
      refine ⟨fun hx => ?_, fun hx i hi => ?_, fun i hi => ?_, fun i hi => by rw [i4 i (by omega), upd_ne f _ (by omega)]⟩
      · rw [vl, mt] at hx
        have hx2 : vl L k f + 1 < mt L k := by
          rcases Nat.lt_or_ge (vl L k f + 1) (mt L k) with h1 | h1
          · exact h1
          · exfalso
            have : mt L k * L k ≤ (vl L k f + 1) * L k := Nat.mul_le_mul_right _ h1
            rw [Nat.add_mul, Nat.one_mul] at this
            omega
        rw [vl, vl, i1 hx2, ek, Nat.add_mul, Nat.one_mul]; omega
      · rw [vl, mt] at hx
        by_cases ei : i = k
        · subst ei; exact ek
        · refine i2 ?_ i (by omega)
          have : (vl L k f + 1) * L k = mt L k * L k := by rw [Nat.add_mul, Nat.one_mul]; omega
          exact Nat.eq_of_mul_eq_mul_right (by omega) this
      · by_cases ei : i = k
        · subst ei; rw [ek]; omega
        · exact i3 i (by omega)

/-- the digits of a number, the last plate's first -/
def digF (L : Nat → Nat) : Nat → Nat → (Nat → Nat) → (Nat → Nat)
  | 0, _, f => f
  | k + 1, N, f => digF L k (N / L k) (upd f k (N % L k))

theorem dig_vl : ∀ k N (f : Nat → Nat), (∀ i, i < k → 0 < L i) → N < mt L k → vl L k (digF L k N f) = N ∧ (∀ i, i < k → digF L k N f i < L i) ∧ (∀ i, k ≤ i → digF L k N f i = f i)
  | 0, N, f, _, h => ⟨by simp [mt] at h; simp [vl, h], fun i hi => by omega, fun _ _ => rfl⟩
  | k + 1, N, f, hp, h => by
    have hL := hp k (by omega)
    rw [mt] at h
    obtain ⟨i1, i2, i3⟩ := dig_vl k (N / L k) (upd f k (N % L k)) (fun i hi => hp i (by omega)) (Nat.div_lt_of_lt_mul (by rw [Nat.mul_comm]; exact h))
    have ek : digF L (k + 1) N f k = N % L k := by rw [digF, i3 k (Nat.le_refl _), upd_same]
    refine ⟨?_, fun i hi => ?_, fun i hi => ?_⟩
    · rw [vl, ek, digF, i1, Nat.mul_comm]; exact Nat.div_add_mod _ _
    · by_cases ei : i = k
      · subst ei; rw [ek]; exact Nat.mod_lt _ hL
      · rw [digF]; exact i2 i (by omega)
    · rw [digF, i3 i (by omega), upd_ne f _ (by omega)]

end Go.Proofs.Ytcmllkjgggcghaa
end
