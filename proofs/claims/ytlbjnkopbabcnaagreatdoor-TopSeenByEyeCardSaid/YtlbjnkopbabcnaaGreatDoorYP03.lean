/- PB1 -/
import Derived.Test.YtlbjnkopbabcnaaGreatDoorYP02
/- Walks of the reference of layer 4: which cases and chips are valid. -/
section
namespace Go.Proofs.YtlbjnkopbabcnaaGreatDoor
open Go.RowKit Go.Shelf
set_option linter.unusedSimpArgs false
set_option linter.unusedVariables false

theorem no_iff {q : Int} {P : Prop} (hq : q ≠ 0) (hp : ¬ P) : q = 0 ↔ P := ⟨fun e => absurd e hq, fun p => absurd p hp⟩
/-- a range of a list, a row of rows -/
def rgA (zs : List (Int × Int)) (b : Nat) : Int × Int := zs.getD b (0, 0)
def rwP (rs : List (RowR (Int × Int))) (i : Nat) : RowR (Int × Int) := rs.getD i ⟨none, 0, 0, []⟩
def egA (rs : List (RowR (Int × Int))) (i b : Nat) : Int × Int := rgA (rwP rs i).zs b
/-- a case that is valid -/
def CaseOk (n : Nat) (ls : List (Int × Int)) (m : Nat) (rs : List (RowR (Int × Int))) : Prop :=
  1 ≤ n ∧ n ≤ 8 ∧ m = 3 ∧ (∀ i, i < 3 → (rwP rs i).n = n) ∧ ∀ b, b < n → Mm.okr 100 (rgA ls b) ∧ ∀ i, i < 3 → Mm.okr 100 (egA rs i b)
theorem CaseOk.ok {n m : Nat} {ls : List (Int × Int)} {rs : List (RowR (Int × Int))} (h : CaseOk n ls m rs) : Mm.OkC n (rgA ls) (egA rs) :=
  ⟨h.1, h.2.1, fun b hb => (h.2.2.2.2 b hb).1, fun i b hi hb => (h.2.2.2.2 b hb).2 i hi⟩
/-- what a case is in memory -/
structure Cse (w : World) (E : Option Addr) (m : Nat) (L : Option Addr) (n : Nat) (rs : List (RowR (Int × Int))) (ls : List (Int × Int)) : Prop where
  e : RowsP w E m rs
  l : Prs w L n ls
  me : m ≤ 9223372036854775807
  ml : n ≤ 9223372036854775807
theorem Cse.below {w w' : World} {E L : Option Addr} {m n : Nat} {rs : List (RowR (Int × Int))} {ls : List (Int × Int)} (h : Cse w E m L n rs ls) (hb : Below w.heap.size w w') : Cse w' E m L n rs ls :=
  ⟨h.e.below hb, h.l.below hb, h.me, h.ml⟩
theorem Prs.atA {w wr : World} {A : Option Addr} {n k : Nat} {zs : List (Int × Int)} (h : Prs w A n zs) (hb : Below w.heap.size w wr) (hk : k < n) :
    ∃ b off, A = some ⟨b, off, none⟩ ∧ b < w.heap.size ∧ wr.cell? ⟨b, off + k * 2, none⟩ = some (.int .i64 (rgA zs k).1) ∧ wr.cell? ⟨b, off + k * 2 + 1, none⟩ = some (.int .i64 (rgA zs k).2) := by
  obtain ⟨b, off, rfl, hlt, _⟩ := h.2 (by omega)
  obtain ⟨b', off', x, y, e, hg, c0, c1⟩ := h.at_ hb hk
  injection e with e
  injection e with e1 e2
  subst e1 e2
  have : rgA zs k = (x, y) := by unfold rgA; rw [List.getD_eq_getElem?_getD, hg]; rfl
  rw [this]
  exact ⟨b, off, rfl, hlt, c0, c1⟩
theorem RowsP.atA {w wr : World} {E : Option Addr} {m k : Nat} {rs : List (RowR (Int × Int))} (h : RowsP w E m rs) (hb : Below w.heap.size w wr) (hk : k < m) :
    ∃ b off A n c zs, E = some ⟨b, off, none⟩ ∧ rwP rs k = ⟨A, n, c, zs⟩ ∧ b < w.heap.size ∧ wr.cell? ⟨b, off + k, none⟩ = some (.slice A n c) ∧ Prs wr A n zs ∧ n ≤ 9223372036854775807 := by
  obtain ⟨b, off, A, n, c, zs, e, hg, h1, h2, h3, h4⟩ := RowsQ.at_ h hb hk
  exact ⟨b, off, A, n, c, zs, e, by unfold rwP; rw [List.getD_eq_getElem?_getD, hg]; rfl, h1, h2, h3, h4⟩

/-- a range is valid, with ends from 0 to top -/
def rgB4 (top : Int) (x : Int × Int) : Bool := decide (0 ≤ x.1) && (decide (x.1 ≤ x.2) && decide (x.2 ≤ top))
theorem rgB4_iff (top : Int) (x : Int × Int) : rgB4 top x = true ↔ Mm.okr top x := by unfold rgB4 Mm.okr; simp

set_option maxHeartbeats 1000000 in
theorem rvalid4_any (x y top : Int) (w : World) :
    Calls Tryz.prog 65 #[.agg #[.int .i64 x, .int .i64 y], .int .i64 top] w fun e w' => e = .returned (.bool (rgB4 top (x, y))) ∧ Below w.heap.size w w' := by
  by_cases h1 : 0 ≤ x
  · by_cases h2 : x ≤ y
    · have e1 : Hid (decide (y ≤ top) = rgB4 top (x, y)) := Lib.hid (by simp [rgB4, h1, h2])
      go_enter Tryz.func65, Tryz.ntmps65
      go_wp2_with fail
      go_ret
      exact ⟨ret_bool e1.out, blA⟩
    · have e1 : Hid (false = rgB4 top (x, y)) := Lib.hid (by simp [rgB4, h2])
      go_enter Tryz.func65, Tryz.ntmps65
      go_wp2_with fail
      go_ret
      exact ⟨ret_bool e1.out, blA⟩
  · have e1 : Hid (false = rgB4 top (x, y)) := Lib.hid (by simp [rgB4, h1])
    go_enter Tryz.func65, Tryz.ntmps65
    go_wp2_with fail
    go_ret
    exact ⟨ret_bool e1.out, blA⟩

/-- a chip that is valid -/
def ChipOk (n k : Nat) (zs : List Int) : Prop := k = n ∧ ∀ b, b < n → 0 ≤ zs.getD b 0 ∧ zs.getD b 0 ≤ 1000

set_option maxRecDepth 100000 in
set_option maxHeartbeats 4000000 in
theorem rchip_any (E : Option Addr) (m ce : Nat) (L : Option Addr) (n cl : Nat) (A : Option Addr) (k c : Nat) (zs : List Int) (w : World) (hz : Ints w A k zs) (hk : k ≤ 9223372036854775807) :
    Calls Tryz.prog 14 #[.agg #[.slice E m ce, .slice L n cl], .slice A k c] w fun e w' => (∃ q : Int, e = .returned (.int .i64 q) ∧ (q = 0 ↔ ChipOk n k zs)) ∧ Below w.heap.size w w' := by
  by_cases h0 : k = n
  · subst h0
    have Hz := Lib.hid hz
    clear hz
    go_enter Tryz.func14, Tryz.ntmps14
    go_wp2_with fail
    go_loopw [5] (fun s5 wx => ∃ (i : Nat), i ≤ k ∧ s5 = .int .i64 (i : Nat) ∧ Hid (∀ b, b < i → 0 ≤ zs.getD b 0 ∧ zs.getD b 0 ≤ 1000) ∧ Below w.heap.size w wx) (fun s5 _ => k - (intOf s5).toNat)
    case atStart => exact ⟨0, Nat.zero_le _, rfl, Lib.hid (fun b hb => by omega), blA⟩
    case round =>
      obtain ⟨i, hi, rfl, HI, hbw⟩ := hrel
      by_cases hin : i < k
      · obtain ⟨b, off, rfl, _, ci⟩ := Hz.out.at0 hbw hin
        obtain ⟨a, ha⟩ : ∃ a, zs.getD i 0 = a := ⟨_, rfl⟩
        rw [ha] at ci
        have Ha := Lib.hid ha
        clear ha
        by_cases h1 : a < 0
        · have Hn : Hid ¬ (∀ b, b < k → 0 ≤ zs.getD b 0 ∧ zs.getD b 0 ≤ 1000) := Lib.hid (fun q => by have := q i hin; rw [Ha.out] at this; omega)
          go_wp2_with fail
          go_ret
          exact ⟨⟨2, rfl, no_iff (by decide) (fun q => Hn.out q.2)⟩, blA⟩
        by_cases h2 : 1000 < a
        · have Hn : Hid ¬ (∀ b, b < k → 0 ≤ zs.getD b 0 ∧ zs.getD b 0 ≤ 1000) := Lib.hid (fun q => by have := q i hin; rw [Ha.out] at this; omega)
          go_wp2_with fail
          go_ret
          exact ⟨⟨2, rfl, no_iff (by decide) (fun q => Hn.out q.2)⟩, blA⟩
        have Hn : Hid (∀ b, b < i + 1 → 0 ≤ zs.getD b 0 ∧ zs.getD b 0 ≤ 1000) := Lib.hid (fun q hq => by
          by_cases e : q = i
          · subst e; rw [Ha.out]; omega
          · exact HI.out q (by omega))
        clear HI Ha
        go_wp2_with fail
        go_roundw
        case rel => exact ⟨i + 1, by omega, by go_num, Hn, blA⟩
        case measure => simp [intOf]; omega
      · obtain rfl : i = k := by omega
        go_wp2_with fail
        go_ret
        exact ⟨⟨0, rfl, ⟨fun _ => ⟨rfl, HI.out⟩, fun _ => rfl⟩⟩, blA⟩
  · have b1 : ((k : Int) == (n : Int)) = false := by simp; omega
    have b2 : ((k : Int) != (n : Int)) = true := by simp; omega
    clear hz
    go_enter Tryz.func14, Tryz.ntmps14
    go_wp2_with fail
    go_ret
    exact ⟨⟨15, rfl, no_iff (by decide) (fun q => h0 q.1)⟩, blA⟩

end Go.Proofs.YtlbjnkopbabcnaaGreatDoor
end
