/- ZM3 ZA6 -/
import Derived.Test.YtminplfgadhnnaaGreatDoorTZ01
import Derived.Test.YtminplfgadhnnaaGreatDoorTZ06
/- Plain laws of zones: what the bounds and a lantern's lights can be; a lantern light by light. -/
section
namespace Go.Proofs.YtminplfgadhnnaaGreatDoor
namespace Zm
set_option linter.unusedSimpArgs false
set_option linter.unusedVariables false
variable {an : List Int} {ls : List (Int × Int)} {fs : List Bool} {ws us : List Int}

theorem ini_bd {g : Nat → Int} {o : Int} {n k : Nat} (hg : ∀ i, i < n → 0 ≤ g i ∧ g i ≤ 200) (ho : 0 ≤ o ∧ o ≤ 200) : ∀ m, m ≤ n → 0 ≤ ini an g o m k ∧ ini an g o m k ≤ 200
  | 0, _ => ho
  | m + 1, hm => by
    have ih := ini_bd hg ho (k := k) m (by omega)
    simp only [ini]
    split
    · exact hg m hm
    · exact ih
theorem loZ_bd (h : LampOk an ls fs ws) {k : Nat} (hk : k < ws.length) : 0 ≤ loZ an ls fs ws.length k ∧ loZ an ls fs ws.length k ≤ 200 := by
  obtain ⟨j, hj, -, e⟩ := from_rnd (d := dF an fs) (f := ini an (fun i => (ls.getD i (0, 0)).1) 0 an.length) (show 0 < ws.length by omega) ws.length k hk
  unfold loZ
  rw [e]
  exact ini_bd (fun i hi => by have := h.lsb i hi; omega) (by omega) _ (Nat.le_refl _)
theorem hiZ_bd (h : LampOk an ls fs ws) {k : Nat} (hk : k < ws.length) : 0 ≤ hiZ an ls fs ws.length k ∧ hiZ an ls fs ws.length k ≤ 200 := by
  obtain ⟨j, hj, -, e⟩ := from_rnd (d := fun k => !dF an fs k) (f := fun k => - ini an (fun i => (ls.getD i (0, 0)).2) 200 an.length k) (show 0 < ws.length by omega) ws.length k hk
  unfold hiZ hiN
  rw [e]
  have := ini_bd (an := an) (k := j) (g := fun i => (ls.getD i (0, 0)).2) (o := 200) (n := an.length) (fun i hi => by have := h.lsb i hi; omega) (by omega) _ (Nat.le_refl _)
  show 0 ≤ - - _ ∧ - - _ ≤ (200 : Int)
  omega
/-- between which numbers a light is, by the one before -/
def loA (d : Nat → Bool) (lo x : Nat → Int) : Nat → Int
  | 0 => lo 0
  | k + 1 => if d (k + 1) then lo (k + 1) else if lo (k + 1) < x k then x k else lo (k + 1)
def hiA (d : Nat → Bool) (hi x : Nat → Int) : Nat → Int
  | 0 => hi 0
  | k + 1 => if d (k + 1) then (if x k < hi (k + 1) then x k else hi (k + 1)) else hi (k + 1)
theorem lnt_step (N k : Nat) : lntZ an ls fs us N k = pkZ us k (loA (dF an fs) (loZ an ls fs N) (lntZ an ls fs us N) k) (hiA (dF an fs) (hiZ an ls fs N) (lntZ an ls fs us N) k) := by
  match k with
  | 0 => rw [lntZ]; rfl
  | k + 1 =>
    rw [lntZ]
    simp only [loA, hiA]
    cases hd : dF an fs (k + 1) with
    | true =>
      simp only [if_true]
      congr 1
      split <;> omega
    | false =>
      simp only [Bool.false_eq_true, if_false]
      congr 1
      split <;> omega
theorem lnt_bd (h : LampOk an ls fs ws) (hd : dbtZ an ls fs ws.length = false) {k : Nat} (hk : k < ws.length) : 0 ≤ lntZ an ls fs us ws.length k ∧ lntZ an ls fs us ws.length k ≤ 200 := by
  obtain ⟨a, b, -⟩ := lnt_in (us := us) hd k hk
  have h1 := loZ_bd h hk
  have h2 := hiZ_bd h hk
  omega
theorem lnt_ab (h : LampOk an ls fs ws) (hd : dbtZ an ls fs ws.length = false) {k : Nat} (hk : k < ws.length) : 0 ≤ loA (dF an fs) (loZ an ls fs ws.length) (lntZ an ls fs us ws.length) k ∧ loA (dF an fs) (loZ an ls fs ws.length) (lntZ an ls fs us ws.length) k ≤ hiA (dF an fs) (hiZ an ls fs ws.length) (lntZ an ls fs us ws.length) k ∧ hiA (dF an fs) (hiZ an ls fs ws.length) (lntZ an ls fs us ws.length) k ≤ 200 := by
  have b1 := loZ_bd h hk
  have b2 := hiZ_bd h hk
  have b3 := dbt_no hd k hk
  match k, hk, b1, b2, b3 with
  | 0, hk, b1, b2, b3 => exact ⟨b1.1, b3, b2.2⟩
  | k + 1, hk, b1, b2, b3 =>
    have f1 := loZ_fix (an := an) (ls := ls) (fs := fs) (show 1 ≤ k + 1 by omega) hk
    have f2 := hiZ_fix (an := an) (ls := ls) (fs := fs) (show 1 ≤ k + 1 by omega) hk
    obtain ⟨i1, i2, -⟩ := lnt_in (us := us) hd k (by omega)
    have b4 := lnt_bd (us := us) h hd (show k < ws.length by omega)
    rw [Nat.add_sub_cancel] at f1 f2
    simp only [loA, hiA]
    cases e : dF an fs (k + 1) with
    | true =>
      rw [e] at f1 f2
      simp only [if_true] at f1 f2 ⊢
      refine ⟨b1.1, ?_, ?_⟩ <;> split <;> omega
    | false =>
      rw [e] at f1 f2
      simp only [Bool.false_eq_true, if_false] at f1 f2 ⊢
      refine ⟨?_, ?_, b2.2⟩ <;> split <;> omega

end Zm
end Go.Proofs.YtminplfgadhnnaaGreatDoor
end

/- Walks of layer 3: the reference's Doubted; Lantern. -/
section
namespace Go.Proofs.YtminplfgadhnnaaGreatDoor
open Go.RowKit Go.Shelf
set_option linter.unusedSimpArgs false
set_option linter.unusedVariables false
open Zm

theorem rowF_at {n k : Nat} {f : Nat → Int} (hk : k < n) : (rowF n f).getD k 0 = f k := rowF_get f hk

set_option maxRecDepth 100000 in
set_option maxHeartbeats 4000000 in
theorem zdoubted_any (A1 : Option Addr) (n1 c1 : Nat) (A2 : Option Addr) (n2 c2 : Nat) (A3 : Option Addr) (n3 c3 : Nat) (A4 : Option Addr) (n4 c4 : Nat) (an : List Int) (ls : List (Int × Int)) (fs : List Bool) (ws : List Int) (w : World) (h : Lmp w A1 n1 c1 A2 n2 c2 A3 n3 c3 A4 n4 c4 an ls fs ws) (ho : LampOk an ls fs ws) :
    Calls Tryz.prog 30 #[.agg #[.slice A1 n1 c1, .slice A2 n2 c2, .slice A3 n3 c3, .slice A4 n4 c4]] w fun e w' => e = .returned (.bool (dbtZ an ls fs n4)) ∧ Below w.heap.size w w' := by
  have hws := ho.ws91
  rw [h.h4.1] at hws
  have kb := fun (W : World) (hb : Below w.heap.size w W) => zbounds_any _ _ _ _ _ _ _ _ _ _ _ _ _ _ _ _ W (h.below hb) ho
  have Hyes : Hid (∀ k, k < n4 → hiZ an ls fs n4 k < loZ an ls fs n4 k → dbtZ an ls fs n4 = true) := Lib.hid (fun k hk hlt => by
    unfold dbtZ; exact List.any_eq_true.2 ⟨k, List.mem_range.2 hk, by simpa using hlt⟩)
  have Hno : Hid ((∀ k, k < n4 → loZ an ls fs n4 k ≤ hiZ an ls fs n4 k) → dbtZ an ls fs n4 = false) := Lib.hid (fun hh => by
    unfold dbtZ; rw [List.any_eq_false]; intro k hk; simpa using hh k (List.mem_range.1 hk))
  generalize dbtZ an ls fs n4 = r at *
  generalize loZ an ls fs n4 = lo at *
  generalize hiZ an ls fs n4 = hi at *
  clear h ho
  go_enter Tryz.func30, Tryz.ntmps30
  go_wp2_with fail
  refine (kb _ blA).mono ?_
  rintro _ w1 ⟨g4, k4, g5, k5, rfl, i4, i5, ⟨m4, m5⟩, hb1⟩
  try clear cB1 fB1 lB1
  try clear B1
  replace hbw : Below w.heap.size w w1 := blA
  clear hb1
  clear kb
  have H4 := Lib.hid i4
  have H5 := Lib.hid i5
  clear i4 i5
  go_wp2_with fail
  go_loopw [5] (fun s5 wx => ∃ (k : Nat) (W : World), k ≤ n4 ∧ s5 = .int .i64 (k : Nat) ∧ Hid (W = wx) ∧ Hid (∀ j, j < k → lo j ≤ hi j) ∧ Below w1.heap.size w1 W) (fun s5 _ => n4 - (intOf s5).toNat)
  case atStart => exact ⟨0, _, Nat.zero_le _, rfl, Lib.hid rfl, Lib.hid (fun j hj => absurd hj (by omega)), blA⟩
  case round =>
    obtain ⟨k, W, hk, rfl, HW, HK, hbx⟩ := hrel
    obtain rfl := HW.out
    clear HW
    by_cases hkn : k < n4
    · obtain ⟨b, off, e, _, c4⟩ := H4.out.at0 hbx hkn
      injection e with e
      injection e with e1 e2
      subst e1 e2
      obtain ⟨b, off, e, _, c5⟩ := H5.out.at0 hbx hkn
      injection e with e
      injection e with e1 e2
      subst e1 e2
      rw [rowF_at hkn, Nat.zero_add] at c4 c5
      have hkl : (k : Int) < (n4 : Int) := by omega
      cases d1 : decide (hi k < lo k) with
      | true =>
        obtain rfl : r = true := Hyes.out k hkn (by simpa using d1)
        clear Hyes Hno HK
        generalize lo k = a at *
        generalize hi k = b at *
        go_wp2_with fail
        go_quiet (fail)
        go_wp2_with fail
        go_ret
        exact ⟨rfl, blA⟩
      | false =>
        have Hd : Hid (lo k ≤ hi k) := Lib.hid (by simpa using d1)
        obtain ⟨a, ha⟩ : ∃ a, lo k = a := ⟨_, rfl⟩
        obtain ⟨b, hb⟩ : ∃ a, hi k = a := ⟨_, rfl⟩
        rw [ha] at c4 d1
        rw [hb] at c5 d1
        clear ha hb
        go_wp2_with fail
        go_quiet (fail)
        go_wp2_with fail
        go_roundw
        case rel =>
          refine ⟨k + 1, _, by omega, by go_num, Lib.hid rfl, Lib.hid (fun j hj => ?_), blA⟩
          by_cases e : j = k
          · subst e; exact Hd.out
          · exact HK.out j (by omega)
        case measure => simp [intOf]; omega
    · obtain rfl : n4 = k := by omega
      obtain rfl : r = false := Hno.out HK.out
      clear Hyes Hno HK
      go_wp2_with fail
      go_ret
      exact ⟨rfl, blA⟩

/-- a list of small numbers -/
def U8s (w : World) (A : Option Addr) (n : Nat) (zs : List Int) : Prop :=
  zs.length = n ∧ (0 < n → ∃ b off, A = some ⟨b, off, none⟩ ∧ b < w.heap.size ∧ ∀ i, i < n → w.cell? ⟨b, off + i, none⟩ = some (.int .u8 (zs.getD i 0)) ∧ 0 ≤ zs.getD i 0 ∧ zs.getD i 0 ≤ 255)
theorem U8s.below {w w' : World} {A : Option Addr} {n : Nat} {zs : List Int} (h : U8s w A n zs) (hb : Below w.heap.size w w') : U8s w' A n zs := by
  refine ⟨h.1, fun hn => ?_⟩
  obtain ⟨b, off, rfl, hlt, hc⟩ := h.2 hn
  exact ⟨b, off, rfl, Nat.lt_of_lt_of_le hlt hb.size, fun i hi => ⟨(hb.cell (p := ⟨b, off + i, none⟩) hlt).trans (hc i hi).1, (hc i hi).2⟩⟩
theorem U8s.at_ {w wr : World} {A : Option Addr} {n k : Nat} {zs : List Int} (h : U8s w A n zs) (hb : Below w.heap.size w wr) (hk : k < n) :
    ∃ b off, A = some ⟨b, off, none⟩ ∧ b < w.heap.size ∧ wr.cell? ⟨b, off + k, none⟩ = some (.int .u8 (zs.getD k 0)) ∧ 0 ≤ zs.getD k 0 ∧ zs.getD k 0 ≤ 255 := by
  obtain ⟨b, off, rfl, hlt, hc⟩ := h.2 (by omega)
  exact ⟨b, off, rfl, hlt, (hb.cell (p := ⟨b, off + k, none⟩) hlt).trans (hc k hk).1, (hc k hk).2⟩

end Go.Proofs.YtminplfgadhnnaaGreatDoor
end
