/- BC7 BC8 BC9 BD0 -/
import Derived.Test.YtminplfgadhnnaaGreatDoorTB12
/- Walks of package bench: unordered. -/
section
namespace Go.Proofs.YtminplfgadhnnaaGreatDoor
open Go.RowKit Go.Shelf
set_option linter.unusedSimpArgs false
set_option linter.unusedVariables false
open Bm (wd anN tab tabP runB Pr OkP unord)

/-- the rows of which a pair ahead is wrong -/
def unI (bf : Nat → Nat → Bool) (T : Nat → Nat → Bool) (k i q : Nat) : Bool := (List.range i).any fun a => bf a k && (T k q && !T a q)
def unK (bf : Nat → Nat → Bool) (T : Nat → Nat → Bool) (k q : Nat) : Bool := (List.range k).any fun c => unI bf T c c q
theorem unI_succ (bf : Nat → Nat → Bool) (T : Nat → Nat → Bool) (k i q : Nat) : unI bf T k (i + 1) q = (unI bf T k i q || (bf i k && (T k q && !T i q))) := by
  unfold unI; rw [List.range_succ]; simp
theorem unK_succ (bf : Nat → Nat → Bool) (T : Nat → Nat → Bool) (k q : Nat) : unK bf T (k + 1) q = (unK bf T k q || unI bf T k k q) := by
  unfold unK; rw [List.range_succ]; simp
/-- the words of the rows found so far -/
def unA (bf : Nat → Nat → Bool) (T : Nat → Nat → Bool) (k i j : Nat) : Nat := wd (fun q => unK bf T k q || unI bf T k i q) j

/-- what a function of two places answers -/
def BfAt (g : FuncId) (lb : Array Value) (n : Nat) (bf : Nat → Nat → Bool) (w : World) : Prop := ∀ (i k : Nat) (W : World), i < k → k < n → Below w.heap.size w W →
  Calls Tryz.prog g (#[.int .i64 (i : Nat), .int .i64 (k : Nat)] ++ lb) W fun e w' => e = .returned (.bool (bf i k)) ∧ Below W.heap.size W w'

set_option maxRecDepth 100000 in
set_option maxHeartbeats 8000000 in
theorem unordered_any (gt gl m n : Nat) (A : Option Addr) (T : Nat → Nat → Bool) (g : FuncId) (lb : Array Value) (bf : Nat → Nat → Bool) (w : World) (hT : Tb w gt gl A m n (fun i j => wd (T i) j)) (hn : n ≤ 12) (hbf : BfAt g lb n bf w)
    (eg : ∀ args w, (callFunc g args).run Tryz.prog w = .ok (.enter g args) w) :
    Calls Tryz.prog 123 #[.pointer (some ⟨gt, 0, none⟩), .func (.func g) #[] lb] w fun e w' => e = .returned (.agg (lnA (wd (unK bf T n)))) ∧ Below w.heap.size w w' := by
  have HT := Lib.hid hT
  have HB := Lib.hid hbf
  have cC := hT.1.c
  have lC := hT.1.lt
  have hW : W64 n (fun i j => wd (T i) j) := fun i j _ _ => Bm.wd_lt _ _
  have HW := Lib.hid hW
  clear hT hbf hW
  go_enter Tryz.func123, Tryz.ntmps123
  go_wp2_with fail
  obtain ⟨W0, hW0⟩ : ∃ W, (w.alloc (.cells #[.int .u64 0, .int .u64 0, .int .u64 0, .int .u64 0, .int .u64 0, .int .u64 0, .int .u64 0, .int .u64 0, .int .u64 0, .int .u64 0, .int .u64 0, .int .u64 0, .int .u64 0, .int .u64 0, .int .u64 0, .int .u64 0, .int .u64 0, .int .u64 0, .int .u64 0, .int .u64 0, .int .u64 0, .int .u64 0, .int .u64 0, .int .u64 0, .int .u64 0, .int .u64 0, .int .u64 0, .int .u64 0, .int .u64 0, .int .u64 0, .int .u64 0, .int .u64 0, .int .u64 0, .int .u64 0, .int .u64 0, .int .u64 0, .int .u64 0, .int .u64 0, .int .u64 0, .int .u64 0, .int .u64 0, .int .u64 0, .int .u64 0, .int .u64 0, .int .u64 0, .int .u64 0, .int .u64 0, .int .u64 0, .int .u64 0, .int .u64 0, .int .u64 0, .int .u64 0, .int .u64 0, .int .u64 0, .int .u64 0, .int .u64 0, .int .u64 0, .int .u64 0, .int .u64 0, .int .u64 0, .int .u64 0, .int .u64 0, .int .u64 0, .int .u64 0] 176)).alloc (.cells #[.int .u64 0, .int .u64 0, .int .u64 0, .int .u64 0, .int .u64 0, .int .u64 0, .int .u64 0, .int .u64 0, .int .u64 0, .int .u64 0, .int .u64 0, .int .u64 0, .int .u64 0, .int .u64 0, .int .u64 0, .int .u64 0, .int .u64 0, .int .u64 0, .int .u64 0, .int .u64 0, .int .u64 0, .int .u64 0, .int .u64 0, .int .u64 0, .int .u64 0, .int .u64 0, .int .u64 0, .int .u64 0, .int .u64 0, .int .u64 0, .int .u64 0, .int .u64 0, .int .u64 0, .int .u64 0, .int .u64 0, .int .u64 0, .int .u64 0, .int .u64 0, .int .u64 0, .int .u64 0, .int .u64 0, .int .u64 0, .int .u64 0, .int .u64 0, .int .u64 0, .int .u64 0, .int .u64 0, .int .u64 0, .int .u64 0, .int .u64 0, .int .u64 0, .int .u64 0, .int .u64 0, .int .u64 0, .int .u64 0, .int .u64 0, .int .u64 0, .int .u64 0, .int .u64 0, .int .u64 0, .int .u64 0, .int .u64 0, .int .u64 0, .int .u64 0] 176) = W := ⟨_, rfl⟩
  have X1 : Ln W0 w.heap.size (fun _ => 0) := by
    rw [← hW0, lnA_zero]
    exact Ln.alloc ⟨176, heap_alloc_new w _⟩ _
  have X2 : Ln W0 (w.heap.size + 1) (fun _ => 0) := by
    rw [← hW0, lnA_zero]
    refine ⟨176, ?_⟩
    have := heap_alloc_new (w.alloc (.cells (lnA fun _ => 0) 176)) (.cells (lnA fun _ => 0) 176)
    simpa using this
  have hb0 : Below w.heap.size w W0 := by rw [← hW0]; exact blA
  rw [hW0]
  have HX := Lib.hid (And.intro X1 (And.intro (X2.congr (u := unA bf T 0 0) (fun j _ => (Bm.wd_zero.2 fun i _ => by simp [unK, unI]).symm)) hb0))
  clear X1 X2 hb0 hW0 cC lC
  go_loopw [14] (fun s14 wx => ∃ (k : Nat) (W : World), k ≤ n ∧ s14 = .int .i64 (k : Nat) ∧ Hid (W = wx) ∧ Hid (Ln W w.heap.size (fun _ => 0) ∧ Ln W (w.heap.size + 1) (unA bf T k 0) ∧ Below w.heap.size w W)) (fun s14 _ => n - (intOf s14).toNat)
  case atStart => exact ⟨0, _, Nat.zero_le _, rfl, Lib.hid rfl, HX⟩
  case round =>
    clear HX
    obtain ⟨k, W, hk, rfl, HWx, HX⟩ := hrel
    obtain rfl := HWx.out
    clear HWx
    by_cases hkn : k < n
    · go_wp2_with fail
      go_loopw [18] (fun s18 wx => ∃ (i : Nat) (U : World), i ≤ k ∧ s18 = .int .i64 (i : Nat) ∧ Hid (U = wx) ∧ Hid (Ln U w.heap.size (fun _ => 0) ∧ Ln U (w.heap.size + 1) (unA bf T k i) ∧ Below w.heap.size w U)) (fun s18 _ => k - (intOf s18).toNat)
      case atStart => exact ⟨0, _, Nat.zero_le _, rfl, Lib.hid rfl, HX⟩
      case round =>
        clear HX
        obtain ⟨i, U, hi, rfl, HUx, HX⟩ := hrel
        obtain rfl := HUx.out
        clear HUx
        by_cases hik : i < k
        · have k1 := HB.out i k U hik hkn HX.out.2.2
          go_wp2_with (simp only [eg])
          refine k1.mono ?_
          rintro _ w1 ⟨rfl, hb1⟩
          have HX1 : Hid (Ln w1 w.heap.size (fun _ => 0) ∧ Ln w1 (w.heap.size + 1) (unA bf T k i) ∧ Below w.heap.size w w1) := Lib.hid ⟨HX.out.1.below hb1, HX.out.2.1.below hb1, HX.out.2.2.trans (hb1.mono HX.out.2.2.size)⟩
          clear HX hb1 k1
          cases hbf : bf i k with
          | false =>
            have HN : Hid (Ln w1 w.heap.size (fun _ => 0) ∧ Ln w1 (w.heap.size + 1) (unA bf T k (i + 1)) ∧ Below w.heap.size w w1) := Lib.hid ⟨HX1.out.1, HX1.out.2.1.congr (fun j _ => Bm.wd_congr fun q _ => by rw [unI_succ, hbf]; simp), HX1.out.2.2⟩
            clear HX1
            go_wp2_with fail
            go_roundw
            case rel => exact ⟨i + 1, _, by omega, by go_num, Lib.hid rfl, HN⟩
            case measure => simp [intOf]; omega
          | true =>
            have k2 := exchanged_any gt gl A m n i k (fun i j => wd (T i) j) w1 ⟨HT.out.1.keep HX1.out.2.2, HT.out.2.1.below HX1.out.2.2, HT.out.2.2⟩ HW.out (by omega) hkn hn
            rw [show (fun j => anN (wd (T k) j) (wd (T i) j)) = wd (fun q => T k q && !T i q) from funext fun j => Bm.wd_anN _ _ _] at k2
            go_wp2_with fail
            refine k2.mono ?_
            rintro _ w2 ⟨rfl, hb2⟩
            have HX2 : Hid (Ln w2 w.heap.size (fun _ => 0) ∧ Ln w2 (w.heap.size + 1) (fun j => if j < 0 then unA bf T k (i + 1) j else unA bf T k i j) ∧ Below w.heap.size w w2) := Lib.hid ⟨HX1.out.1.below hb2, (HX1.out.2.1.below hb2).congr (fun j _ => by simp), HX1.out.2.2.trans (hb2.mono HX1.out.2.2.size)⟩
            clear HX1 hb2 k2
            go_wp2_with fail
            go_loopw [31] (fun s31 wx => ∃ (j : Nat) (V : World), j ≤ 64 ∧ s31 = .int .i64 (j : Nat) ∧ Hid (V = wx) ∧ Hid (Ln V w.heap.size (fun _ => 0) ∧ Ln V (w.heap.size + 1) (fun q => if q < j then unA bf T k (i + 1) q else unA bf T k i q) ∧ Below w.heap.size w V)) (fun s31 _ => 64 - (intOf s31).toNat)
            case atStart => exact ⟨0, _, by omega, rfl, Lib.hid rfl, HX2⟩
            case round =>
              clear HX2
              obtain ⟨j, V, hj, rfl, HVx, HX⟩ := hrel
              obtain rfl := HVx.out
              clear HVx
              by_cases hjl : j < 64
              · obtain ⟨X1, X2, hbw⟩ := HX.out
                have hix := fun W => run_index_ln (wd (fun q => T k q && !T i q)) j hjl W
                have c2 := X2.cell hjl
                have f2 := X2.frozen
                have l2 := X2.lt
                rw [if_neg (show ¬ j < j by omega)] at c2
                have hor : bits .or .u64 ((unA bf T k i j : Nat) : Int) ((wd (fun q => T k q && !T i q) j : Nat) : Int) = ((unA bf T k (i + 1) j : Nat) : Int) := by
                  unfold unA
                  rw [u64_or_nat _ _ (Bm.wd_lt _ _) (Bm.wd_lt _ _), Bm.wd_or]
                  exact congrArg (fun x : Nat => (x : Int)) (Bm.wd_congr fun q _ => by rw [unI_succ, hbf]; simp [Bool.or_assoc])
                obtain ⟨x, hx⟩ : ∃ x, unA bf T k i j = x := ⟨_, rfl⟩
                obtain ⟨y, hy⟩ : ∃ x, wd (fun q => T k q && !T i q) j = x := ⟨_, rfl⟩
                obtain ⟨z, hz⟩ : ∃ x, unA bf T k (i + 1) j = x := ⟨_, rfl⟩
                rw [hx] at c2 hor
                rw [hy] at hix hor
                rw [hz] at hor
                have HN : Hid (Ln (V.setCell ⟨w.heap.size + 1, j, none⟩ (.int .u64 ((z : Nat) : Int)))  w.heap.size (fun _ => 0) ∧ Ln (V.setCell ⟨w.heap.size + 1, j, none⟩ (.int .u64 ((z : Nat) : Int)))  (w.heap.size + 1) (fun q => if q < j + 1 then unA bf T k (i + 1) q else unA bf T k i q) ∧ Below w.heap.size w (V.setCell ⟨w.heap.size + 1, j, none⟩ (.int .u64 ((z : Nat) : Int))))  := Lib.hid ⟨(X1.other (p := ⟨w.heap.size + 1, j, none⟩) (by show w.heap.size ≠ w.heap.size + 1; omega) _), ((X2.set hjl z).congr (fun q hq => by
                    show (if q = j then z else if q < j then unA bf T k (i + 1) q else unA bf T k i q) = if q < j + 1 then unA bf T k (i + 1) q else unA bf T k i q
                    by_cases e : q = j
                    · subst e; rw [if_pos rfl, if_pos (by omega), hz]
                    · rw [if_neg e]
                      by_cases e2 : q < j
                      · rw [if_pos e2, if_pos (by omega)]
                      · rw [if_neg e2, if_neg (by omega)])), (bset hbw (p := ⟨w.heap.size + 1, j, none⟩) (by show w.heap.size ≤ w.heap.size + 1; omega) _)⟩
                clear X1 X2 hbw HX hx hy hz
                go_wp2_with fail
                go_roundw
                case rel => exact ⟨j + 1, _, by omega, by go_num, Lib.hid rfl, HN⟩
                case measure => simp [intOf]; omega
              · obtain rfl : j = 64 := by omega
                have HN : Hid (Ln V w.heap.size (fun _ => 0) ∧ Ln V (w.heap.size + 1) (unA bf T k (i + 1)) ∧ Below w.heap.size w V) := Lib.hid ⟨HX.out.1, HX.out.2.1.congr (fun q hq => by rw [if_pos hq]), HX.out.2.2⟩
                clear HX
                go_wp2_with fail
                go_roundw
                case rel => exact ⟨i + 1, _, by omega, by go_num, Lib.hid rfl, HN⟩
                case measure => simp [intOf]; omega
        · obtain rfl : i = k := by omega
          have HN : Hid (Ln U w.heap.size (fun _ => 0) ∧ Ln U (w.heap.size + 1) (unA bf T (i + 1) 0) ∧ Below w.heap.size w U) := Lib.hid ⟨HX.out.1, HX.out.2.1.congr (fun j _ => Bm.wd_congr fun q _ => by rw [unK_succ]; simp [unI]), HX.out.2.2⟩
          clear HX
          go_wp2_with fail
          go_roundw
          case rel => exact ⟨i + 1, _, by omega, by go_num, Lib.hid rfl, HN⟩
          case measure => simp [intOf]; omega
    · obtain rfl : k = n := by omega
      obtain ⟨X1, X2, hbw⟩ := HX.out
      have X3 : Ln W (w.heap.size + 1) (wd (unK bf T k)) := X2.congr (fun j _ => Bm.wd_congr fun q _ => by simp [unI])
      obtain ⟨t1, X1⟩ := X1
      obtain ⟨t3, X3⟩ := X3
      clear X2 HX
      go_wp2_with (first | (refine wpList_load_row rfl _ _ rfl (w.heap.size + 1) (by rfl) t3 _ (0, 0) _ X3 lineT_under rfl (by rw [lineT_size, lnA_size]) ?_) | (refine list_store_row rfl _ _ _ rfl w.heap.size (by rfl) t1 _ (lnA (wd (unK bf T k))) (by rfl) X1 (by rw [lineT_size, lnA_size]) (by rw [lnA_size, lnA_size]) (lnA_one _) ?_))
      have X4 := setRow_heap W w.heap.size _ (lnA (wd (unK bf T k))) t1 _ X1
      exact bodyPost_ret (v := .agg (lnA (wd (unK bf T k)))) (results_cell_row (P := Tryz.prog) rfl _ _ w.heap.size t1 _ (0, 0) _ (by rfl) X4 lineT_under rfl (by rw [lineT_size, lnA_size])) rfl ⟨rfl, bsetRow hbw (by omega) _⟩

end Go.Proofs.YtminplfgadhnnaaGreatDoor
end

/- Walks of package bench: the closures that say which pairs of places count. -/
section
namespace Go.Proofs.YtminplfgadhnnaaGreatDoor
open Go.RowKit Go.Shelf
set_option linter.unusedSimpArgs false
set_option linter.unusedVariables false
open Bm (bfP)

set_option maxHeartbeats 1000000 in
theorem test1_any (n m gb gn : Nat) (w : World) (hb : Cs w gb #[.int .i64 (m : Nat)]) (hl : Cs w gn #[.int .i64 (n : Nat)]) :
    BfAt 119 #[.pointer (some ⟨gb, 0, none⟩), .pointer (some ⟨gn, 0, none⟩)] n (fun i k => decide (m = n) || bfP m i k) w := by
  intro i k W hik hkn hbw
  have c1 := (hb.keep hbw).c
  have c2 := (hl.keep hbw).c
  have l1 := (hb.keep hbw).lt
  have l2 := (hl.keep hbw).lt
  clear hb hl
  show Calls _ _ #[.int .i64 (i : Nat), .int .i64 (k : Nat), .pointer (some ⟨gb, 0, none⟩), .pointer (some ⟨gn, 0, none⟩)] _ _
  unfold bfP
  go_enter Tryz.func119, Tryz.ntmps119
  by_cases e : m = n
  · subst e
    go_wp2_with fail
    go_ret
    exact ⟨by simp, Below.refl _ _⟩
  · have e' : ¬ (m : Int) = (n : Int) := by omega
    by_cases h1 : i < m <;> by_cases h2 : m ≤ k
    all_goals
      go_wp2_with fail
      go_ret
      exact ⟨by first | (simp [e, h1, h2]; done) | (simp [e, h1, h2]; omega), Below.refl _ _⟩

set_option maxHeartbeats 1000000 in
theorem merge1_any (n f gb : Nat) (w : World) (hb : Cs w gb #[.int .i64 (f : Nat)]) :
    BfAt 124 #[.pointer (some ⟨gb, 0, none⟩)] n (ins f) w := by
  intro i k W hik hkn hbw
  have c1 := (hb.keep hbw).c
  have l1 := (hb.keep hbw).lt
  clear hb
  show Calls _ _ #[.int .i64 (i : Nat), .int .i64 (k : Nat), .pointer (some ⟨gb, 0, none⟩)] _ _
  unfold ins
  go_enter Tryz.func124, Tryz.ntmps124
  go_wp2_with fail
  go_ret
  exact ⟨by simp, Below.refl _ _⟩

set_option maxHeartbeats 1000000 in
theorem merge2_any (n : Nat) (w : World) : BfAt 125 #[] n (fun _ _ => true) w := by
  intro i k W hik hkn hbw
  show Calls _ _ #[.int .i64 (i : Nat), .int .i64 (k : Nat)] _ _
  go_enter Tryz.func125, Tryz.ntmps125
  go_wp2_with fail
  go_ret
  exact ⟨rfl, Below.refl _ _⟩

end Go.Proofs.YtminplfgadhnnaaGreatDoor
end

/- Walks of package bench: the closures that give a table's wrong rows. -/
section
namespace Go.Proofs.YtminplfgadhnnaaGreatDoor
open Go.RowKit Go.Shelf
set_option linter.unusedSimpArgs false
set_option linter.unusedVariables false
open Bm (wd)

set_option maxRecDepth 100000 in
set_option maxHeartbeats 4000000 in
theorem test3_any (gt gl m n gb : Nat) (A : Option Addr) (T : Nat → Nat → Bool) (g : FuncId) (lb : Array Value) (bf : Nat → Nat → Bool) (w : World) (hT : Tb w gt gl A m n (fun i j => wd (T i) j)) (hn : n ≤ 12) (hbf : BfAt g lb n bf w)
    (eg : ∀ args w, (callFunc g args).run Tryz.prog w = .ok (.enter g args) w) (hb : Cs w gb #[.func (.func g) #[] lb]) :
    Calls Tryz.prog 122 #[.pointer (some ⟨gt, 0, none⟩), .pointer (some ⟨gb, 0, none⟩)] w fun e w' => e = .returned (.agg (lnA (wd (unK bf T n)))) ∧ Below w.heap.size w w' := by
  have k1 := fun (W : World) (hW : Below w.heap.size w W) => unordered_any gt gl m n A T g lb bf W ⟨hT.1.keep hW, hT.2.1.below hW, hT.2.2⟩ hn (fun i k W' h1 h2 h3 => hbf i k W' h1 h2 (hW.trans (h3.mono hW.size))) eg
  have cb := hb.c
  have lb' := hb.lt
  clear hT hb hbf
  go_enter Tryz.func122, Tryz.ntmps122
  go_wp2_with fail
  refine (k1 _ blA).mono ?_
  rintro _ w1 ⟨rfl, hb1⟩
  have X1 : w1.heap[w.heap.size]? = some (.cells (lnA fun _ => 0) 176 (0, 0)) := by
    rw [hb1.block _ (by simp), lnA_zero]; exact heap_alloc_new w _
  have hbw : Below w.heap.size w w1 := blA
  clear k1 hb1
  go_wp2_with ((refine list_store_row rfl _ _ _ rfl w.heap.size (by rfl) 176 _ (lnA (wd (unK bf T n))) (by rfl) X1 (by rw [lineT_size, lnA_size]) (by rw [lnA_size, lnA_size]) (lnA_one _) ?_))
  have X4 := setRow_heap w1 w.heap.size _ (lnA (wd (unK bf T n))) 176 _ X1
  exact bodyPost_ret (v := .agg (lnA (wd (unK bf T n)))) (results_cell_row (P := Tryz.prog) rfl _ _ w.heap.size 176 _ (0, 0) _ (by rfl) X4 lineT_under rfl (by rw [lineT_size, lnA_size])) rfl ⟨rfl, bsetRow hbw (by omega) _⟩

set_option maxRecDepth 100000 in
set_option maxHeartbeats 4000000 in
theorem merge3_any (gt gl m n gb : Nat) (A : Option Addr) (T : Nat → Nat → Bool) (g : FuncId) (lb : Array Value) (bf : Nat → Nat → Bool) (w : World) (hT : Tb w gt gl A m n (fun i j => wd (T i) j)) (hn : n ≤ 12) (hbf : BfAt g lb n bf w)
    (eg : ∀ args w, (callFunc g args).run Tryz.prog w = .ok (.enter g args) w) (hb : Cs w gb #[.func (.func g) #[] lb]) :
    Calls Tryz.prog 126 #[.pointer (some ⟨gt, 0, none⟩), .pointer (some ⟨gb, 0, none⟩)] w fun e w' => e = .returned (.agg (lnA (wd (unK bf T n)))) ∧ Below w.heap.size w w' := by
  have k1 := fun (W : World) (hW : Below w.heap.size w W) => unordered_any gt gl m n A T g lb bf W ⟨hT.1.keep hW, hT.2.1.below hW, hT.2.2⟩ hn (fun i k W' h1 h2 h3 => hbf i k W' h1 h2 (hW.trans (h3.mono hW.size))) eg
  have cb := hb.c
  have lb' := hb.lt
  clear hT hb hbf
  go_enter Tryz.func126, Tryz.ntmps126
  go_wp2_with fail
  refine (k1 _ blA).mono ?_
  rintro _ w1 ⟨rfl, hb1⟩
  have X1 : w1.heap[w.heap.size]? = some (.cells (lnA fun _ => 0) 176 (0, 0)) := by
    rw [hb1.block _ (by simp), lnA_zero]; exact heap_alloc_new w _
  have hbw : Below w.heap.size w w1 := blA
  clear k1 hb1
  go_wp2_with ((refine list_store_row rfl _ _ _ rfl w.heap.size (by rfl) 176 _ (lnA (wd (unK bf T n))) (by rfl) X1 (by rw [lineT_size, lnA_size]) (by rw [lnA_size, lnA_size]) (lnA_one _) ?_))
  have X4 := setRow_heap w1 w.heap.size _ (lnA (wd (unK bf T n))) 176 _ X1
  exact bodyPost_ret (v := .agg (lnA (wd (unK bf T n)))) (results_cell_row (P := Tryz.prog) rfl _ _ w.heap.size 176 _ (0, 0) _ (by rfl) X4 lineT_under rfl (by rw [lineT_size, lnA_size])) rfl ⟨rfl, bsetRow hbw (by omega) _⟩

set_option maxRecDepth 100000 in
set_option maxHeartbeats 4000000 in
theorem merge4_any (gt gl m n gb : Nat) (A : Option Addr) (T : Nat → Nat → Bool) (g : FuncId) (lb : Array Value) (bf : Nat → Nat → Bool) (w : World) (hT : Tb w gt gl A m n (fun i j => wd (T i) j)) (hn : n ≤ 12) (hbf : BfAt g lb n bf w)
    (eg : ∀ args w, (callFunc g args).run Tryz.prog w = .ok (.enter g args) w) (hb : Cs w gb #[.func (.func g) #[] lb]) :
    Calls Tryz.prog 127 #[.pointer (some ⟨gt, 0, none⟩), .pointer (some ⟨gb, 0, none⟩)] w fun e w' => e = .returned (.agg (lnA (wd (unK bf T n)))) ∧ Below w.heap.size w w' := by
  have k1 := fun (W : World) (hW : Below w.heap.size w W) => unordered_any gt gl m n A T g lb bf W ⟨hT.1.keep hW, hT.2.1.below hW, hT.2.2⟩ hn (fun i k W' h1 h2 h3 => hbf i k W' h1 h2 (hW.trans (h3.mono hW.size))) eg
  have cb := hb.c
  have lb' := hb.lt
  clear hT hb hbf
  go_enter Tryz.func127, Tryz.ntmps127
  go_wp2_with fail
  refine (k1 _ blA).mono ?_
  rintro _ w1 ⟨rfl, hb1⟩
  have X1 : w1.heap[w.heap.size]? = some (.cells (lnA fun _ => 0) 176 (0, 0)) := by
    rw [hb1.block _ (by simp), lnA_zero]; exact heap_alloc_new w _
  have hbw : Below w.heap.size w w1 := blA
  clear k1 hb1
  go_wp2_with ((refine list_store_row rfl _ _ _ rfl w.heap.size (by rfl) 176 _ (lnA (wd (unK bf T n))) (by rfl) X1 (by rw [lineT_size, lnA_size]) (by rw [lnA_size, lnA_size]) (lnA_one _) ?_))
  have X4 := setRow_heap w1 w.heap.size _ (lnA (wd (unK bf T n))) 176 _ X1
  exact bodyPost_ret (v := .agg (lnA (wd (unK bf T n)))) (results_cell_row (P := Tryz.prog) rfl _ _ w.heap.size 176 _ (0, 0) _ (by rfl) X4 lineT_under rfl (by rw [lineT_size, lnA_size])) rfl ⟨rfl, bsetRow hbw (by omega) _⟩

end Go.Proofs.YtminplfgadhnnaaGreatDoor
end

/- Walks of package bench: the closure that gives no rows. -/
section
namespace Go.Proofs.YtminplfgadhnnaaGreatDoor
open Go.RowKit Go.Shelf
set_option linter.unusedSimpArgs false
set_option linter.unusedVariables false
open Bm (wd)

set_option maxRecDepth 100000 in
set_option maxHeartbeats 4000000 in
theorem test2_any (p : Value) (w : World) : Calls Tryz.prog 121 #[p] w fun e w' => e = .returned (.agg (lnA fun _ => 0)) ∧ Below w.heap.size w w' := by
  go_enter Tryz.func121, Tryz.ntmps121
  go_upto_region 1 with fail
  rw [lnA_zero]
  obtain ⟨W0, hW0⟩ : ∃ W, w.alloc (.cells (lnA fun _ => 0) 176) = W := ⟨_, rfl⟩
  have X1 : W0.heap[w.heap.size]? = some (.cells (lnA fun _ => 0) 176 (0, 0)) := by rw [← hW0]; exact heap_alloc_new w _
  have hbw : Below w.heap.size w W0 := by rw [← hW0]; exact blA
  rw [hW0]
  clear hW0
  go_wp2_with ((refine list_store_row rfl _ _ _ rfl w.heap.size (by rfl) 176 _ (lnA fun _ => 0) (by rfl) X1 (by rw [lineT_size, lnA_size]) rfl (lnA_one _) ?_))
  have X4 := setRow_heap W0 w.heap.size _ (lnA fun _ => 0) 176 _ X1
  exact bodyPost_ret (v := .agg (lnA fun _ => 0)) (results_cell_row (P := Tryz.prog) rfl _ _ w.heap.size 176 _ (0, 0) _ (by rfl) X4 lineT_under rfl (by rw [lineT_size, lnA_size])) rfl ⟨rfl, bsetRow hbw (by omega) _⟩

end Go.Proofs.YtminplfgadhnnaaGreatDoor
end
