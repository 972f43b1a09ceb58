/- PE7 -/
import Derived.Test.YtlbjnkopbabcnaaGreatDoorYP20
/- Walks of package metamer: Spans. -/
section
namespace Go.Proofs.YtlbjnkopbabcnaaGreatDoor
open Go.RowKit Go.Shelf
set_option linter.unusedSimpArgs false
set_option linter.unusedVariables false

/-- the spans of what the curves see of a chip -/
def spanL (L : Nat → Int × Int) (E : Nat → Nat → Int × Int) (s : Nat → Int) (n : Nat) : List (Int × Int) :=
  [(Mm.seen (Mm.low L E) s n 0, Mm.seen (Mm.high L E) s n 0), (Mm.seen (Mm.low L E) s n 1, Mm.seen (Mm.high L E) s n 1), (Mm.seen (Mm.low L E) s n 2, Mm.seen (Mm.high L E) s n 2)]
set_option maxRecDepth 100000 in
set_option maxHeartbeats 4000000 in
theorem spansE_ok (E : Option Addr) (ce : Nat) (L : Option Addr) (n cl : Nat) (rs : List (RowR (Int × Int))) (ls : List (Int × Int)) (A : Option Addr) (c : Nat) (zs : List Int) (w : World)
    (hC : Cse w E 3 L n rs ls) (hc : CaseOk n ls 3 rs) (hz : Ints w A n zs) (oz : ChipOk n n zs) :
    Calls Tryz.prog 15 #[.agg #[.slice E 3 ce, .slice L n cl], .slice A n c] w fun e w' => ∃ g, e = .returned (.tuple #[.slice (some ⟨g, 0, none⟩) 3 3, .int .i64 0]) ∧ Prs w' (some ⟨g, 0, none⟩) 3 (spanL (rgA ls) (egA rs) (zF zs) n) ∧ w.heap.size ≤ g ∧ Below w.heap.size w w' := by
  have hn8 := hc.2.1
  have k1 := fun (C : Option Addr) (cc : Nat) (W : World) (hW : Below w.heap.size w W) (hr : RowsI W C 1 [⟨A, n, c, zs⟩]) => newMatcher_ok E 3 ce L n cl rs ls C 1 cc [⟨A, n, c, zs⟩] W (hC.below hW) hc hr (by omega) (fun x hx => by simp at hx; subst hx; exact oz)
  have k2 := fun (W : World) (hW : Below w.heap.size w W) => spans_any E ce L n cl rs ls A c zs W (hC.below hW) hc (hz.below hW) oz
  have Hz := Lib.hid hz
  have K2 := Lib.hid k2
  have hnm : n ≤ 9223372036854775807 := by omega
  unfold spanL
  generalize Mm.seen (Mm.low (rgA ls) (egA rs)) (zF zs) n 0 = x0 at *
  generalize Mm.seen (Mm.low (rgA ls) (egA rs)) (zF zs) n 1 = x1 at *
  generalize Mm.seen (Mm.low (rgA ls) (egA rs)) (zF zs) n 2 = x2 at *
  generalize Mm.seen (Mm.high (rgA ls) (egA rs)) (zF zs) n 0 = y0 at *
  generalize Mm.seen (Mm.high (rgA ls) (egA rs)) (zF zs) n 1 = y1 at *
  generalize Mm.seen (Mm.high (rgA ls) (egA rs)) (zF zs) n 2 = y2 at *
  clear hC hc hz oz k2
  go_enter Tryz.func15, Tryz.ntmps15
  go_wp2_with fail
  refine (k1 _ _ _ blA (RowsI.new1 _ _ _ _ _ _ _ (by simp) (Hz.out.alloc _) hnm)).mono ?_
  rintro _ w2 ⟨rfl, hb2⟩
  have hbw : Below w.heap.size w w2 := blA
  clear hb2 k1
  go_wp2_with fail
  refine (K2.out _ blA).mono ?_
  rintro _ w3 ⟨g, rfl, hP, hg3, hb3⟩
  have hgF : w.heap.size ≤ g := by have := hbw.size; simp at hg3; omega
  clear hg3
  have hbF : Below w.heap.size w w3 := blA
  have HP := Lib.hid hP
  clear hb3 hP
  go_wp2_with fail
  exact bodyPost_ret (v := .tuple #[.slice (some ⟨g, 0, none⟩) 3 3, .int .i64 0]) (by simp [results, Tryz.results15, go_sem]) rfl ⟨g, rfl, HP.out, hgF, hbF⟩
end Go.Proofs.YtlbjnkopbabcnaaGreatDoor
end
