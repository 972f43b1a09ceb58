/- A law for a long region that draws its order, and is yet all but in a row: one check of the row of operations (by masks, once), then the operations one by one, with no list of what has come up in sight. -/
import Derived.Deep.RegionHeld3
namespace Go.Proofs.Ytcmllkjgggcghaa
open Go
set_option linter.unusedSimpArgs false
set_option linter.unusedVariables false

/-- A step: operation i is taken first; operation i is the only one that may come up; i and j may come up. Behind it the mask of what has come up. -/
inductive Stp
  | t (i m : Nat)
  | o (i m : Nat)
  | b (i j mi mj m : Nat)

def nth {α : Type} : List α → Nat → Option α
  | [], _ => none
  | x :: _, 0 => some x
  | _ :: l, n + 1 => nth l n
theorem nth_eq {α : Type} : ∀ (l : List α) (i : Nat), nth l i = l[i]?
  | [], i => by simp [nth]
  | x :: l, 0 => by simp [nth]
  | x :: l, n + 1 => by simp [nth, nth_eq l n]
theorem nth_ops {ops : Array Oper} {i : Nat} {o : Oper} (h : nth ops.toList i = some o) : ops[i]? = some o := by
  rw [nth_eq] at h; simpa using h

def rdy (md : Region.Mode) : List Oper → Nat → Nat → List Nat
  | [], _, _ => []
  | o :: r, k, m => bif !m.testBit k && o.after.all (fun e => !Region.binds md e || m.testBit e.on) then k :: rdy md r (k + 1) m else rdy md r (k + 1) m
def fre (md : Region.Mode) (ops : Array Oper) (oi : Oper) (i : Nat) : List Oper → Nat → Nat → Bool
  | [], _, _ => true
  | oj :: r, k, m => (Nat.beq k i || m.testBit k || oj.after.any (fun e => Region.binds md e && Nat.beq e.on i) || oi.apart ops oj) && fre md ops oi i r (k + 1) m
def freAt (md : Region.Mode) (ops : Array Oper) (i m : Nat) : Bool :=
  match nth ops.toList i with
  | none => false
  | some oi => fre md ops oi i ops.toList 0 m
def hasN : List Nat → Nat → Bool
  | [], _ => false
  | x :: l, i => Nat.beq x i || hasN l i
theorem hasN_mem : ∀ (l : List Nat) (i : Nat), hasN l i = true → i ∈ l
  | [], i, h => by simp [hasN] at h
  | x :: l, i, h => by
    simp only [hasN, Bool.or_eq_true] at h
    rcases h with h | h
    · rw [Nat.eq_of_beq_eq_true h]; simp
    · exact List.mem_cons_of_mem _ (hasN_mem l i h)
def one1 : List Nat → Nat → Bool
  | [x], i => Nat.beq x i
  | _, _ => false
theorem one1_eq {l : List Nat} {i : Nat} (h : one1 l i = true) : l = [i] := by
  match l, h with
  | [x], h => rw [Nat.eq_of_beq_eq_true h]
def two2 : List Nat → Nat → Nat → Bool
  | [x, y], i, j => Nat.beq x i && Nat.beq y j
  | _, _, _ => false
theorem two2_eq {l : List Nat} {i j : Nat} (h : two2 l i j = true) : l = [i, j] := by
  match l, h with
  | [x, y], h => simp only [two2, Bool.and_eq_true] at h; rw [Nat.eq_of_beq_eq_true h.1, Nat.eq_of_beq_eq_true h.2]
def emp : List Nat → Bool
  | [] => true
  | _ => false
theorem emp_eq {l : List Nat} (h : emp l = true) : l = [] := by
  match l, h with
  | [], _ => rfl

/-- The check of the whole row. -/
def plan (md : Region.Mode) (ops : Array Oper) : List Stp → Nat → Bool
  | [], m => emp (rdy md ops.toList 0 m)
  | .t i m' :: r, m => hasN (rdy md ops.toList 0 m) i && freAt md ops i m && Nat.beq m' (m ||| 1 <<< i) && plan md ops r m'
  | .o i m' :: r, m => one1 (rdy md ops.toList 0 m) i && Nat.beq m' (m ||| 1 <<< i) && plan md ops r m'
  | .b i j mi mj m' :: r, m => two2 (rdy md ops.toList 0 m) i j && Nat.beq mi (m ||| 1 <<< i) && Nat.beq mj (m ||| 1 <<< j) &&
      one1 (rdy md ops.toList 0 mi) j && one1 (rdy md ops.toList 0 mj) i && Nat.beq m' (mi ||| 1 <<< j) && plan md ops r m'
def lng : List Stp → Nat
  | [] => 0
  | .t _ _ :: r => lng r + 1
  | .o _ _ :: r => lng r + 1
  | .b _ _ _ _ _ :: r => lng r + 2

/-- The list of what has come up is that of the mask. -/
structure Msk (n : Nat) (l : Array Bool) (m : Nat) : Prop where
  size : l.size = n
  bit : ∀ i, i < n → l[i]? = some (m.testBit i)
  hi : ∀ i, n ≤ i → m.testBit i = false
theorem Msk.getD {n : Nat} {l : Array Bool} {m : Nat} (h : Msk n l m) (i : Nat) (d : Bool) (hi : i < n) : l.getD i d = m.testBit i := by
  have := h.bit i hi
  rw [Array.getD_eq_getD_getElem?, this]; rfl
theorem Msk.getF {n : Nat} {l : Array Bool} {m : Nat} (h : Msk n l m) (i : Nat) : l.getD i false = m.testBit i := by
  rcases Nat.lt_or_ge i n with hi | hi
  · exact h.getD i _ hi
  · rw [h.hi i hi, Array.getD_eq_getD_getElem?, Array.getElem?_eq_none (by have := h.size; omega)]; rfl
theorem bit1 (q : Nat) : Nat.testBit 1 (q + 1) = false := by
  rw [Nat.testBit_succ]; simp
theorem Msk.set {n : Nat} {l : Array Bool} {m : Nat} (h : Msk n l m) (i : Nat) (hi : i < n) : Msk n (l.setIfInBounds i true) (m ||| 1 <<< i) := by
  refine ⟨by simp [h.size], fun j hj => ?_, fun j hj => ?_⟩
  · rw [Array.getElem?_setIfInBounds, Nat.testBit_or]
    by_cases hij : i = j
    · subst hij; simp [h.size, hi, Nat.testBit_shiftLeft]
    · rw [if_neg hij, h.bit j hj]
      have : (1 <<< i).testBit j = false := by
        rw [Nat.testBit_shiftLeft]
        rcases Nat.lt_or_ge j i with h' | h'
        · simp; omega
        · have : j - i ≠ 0 := by omega
          obtain ⟨q, hq⟩ : ∃ q, j - i = q + 1 := ⟨j - i - 1, by omega⟩
          rw [hq, bit1, Bool.and_false]
      rw [this, Bool.or_false]
  · rw [Nat.testBit_or, h.hi j hj, Nat.testBit_shiftLeft]
    obtain ⟨q, hq⟩ : ∃ q, j - i = q + 1 := ⟨j - i - 1, by omega⟩
    rw [hq, bit1, Bool.and_false, Bool.or_false]
theorem Msk.zero (n : Nat) : Msk n (Array.replicate n false) 0 := ⟨by simp, fun i hi => by simp [hi], fun i _ => by simp⟩

theorem rdy_eq {md : Region.Mode} {ops : Array Oper} {l : Array Bool} {m : Nat} (h : Msk ops.size l m) : Region.ready md ops l = rdy md ops.toList 0 m := by
  have H : ∀ (L : List Oper) (k : Nat), k + L.length ≤ ops.size → (∀ i, i < L.length → ops[k + i]? = L[i]?) →
      (List.range' k L.length).filter (fun i => !l.getD i true && ((ops[i]?).map (·.after.all fun e => !Region.binds md e || l.getD e.on false)).getD false) = rdy md L k m := by
    intro L
    induction L with
    | nil => intro k _ _; rfl
    | cons o r ih =>
      intro k hk hL
      rw [List.length_cons, List.range'_succ, List.filter_cons]
      have h0 : ops[k]? = some o := by have := hL 0 (by simp); simpa using this
      have ihr := ih (k + 1) (by simp only [List.length_cons] at hk; omega) (fun i hi => by
        have := hL (i + 1) (by simp; omega)
        rw [List.getElem?_cons_succ] at this
        rw [← this]; congr 1; omega)
      rw [ihr, h0, Option.map_some, Option.getD_some, h.getD k true (by simp only [List.length_cons] at hk; omega)]
      have he : (o.after.all fun e => !Region.binds md e || l.getD e.on false) = (o.after.all fun e => !Region.binds md e || m.testBit e.on) := by
        congr 1; funext e; rw [h.getF]
      rw [he, rdy]
      cases hc : (!m.testBit k && o.after.all fun e => !Region.binds md e || m.testBit e.on) <;> simp [hc]
  have := H ops.toList 0 (by simp) (fun i hi => by simp)
  unfold Region.ready
  rw [List.range_eq_range']
  simpa using this

theorem fre_spec {md : Region.Mode} {ops : Array Oper} {oi : Oper} {i m : Nat} : ∀ (L : List Oper) (k : Nat), fre md ops oi i L k m = true → ∀ j oj, L[j]? = some oj →
    (Nat.beq (k + j) i || m.testBit (k + j) || oj.after.any (fun e => Region.binds md e && Nat.beq e.on i) || oi.apart ops oj) = true
  | [], k, _, j, oj, hj => by simp at hj
  | o :: r, k, h, j, oj, hj => by
    simp only [fre, Bool.and_eq_true] at h
    cases j with
    | zero => simp only [List.getElem?_cons_zero, Option.some.injEq] at hj; subst hj; exact h.1
    | succ j =>
      rw [List.getElem?_cons_succ] at hj
      have := fre_spec r (k + 1) h.2 j oj hj
      rw [show k + 1 + j = k + (j + 1) by omega] at this
      exact this

section
variable {P : Program} {ops : Array Oper} {Q : Exit → Act → World → Prop} {md : Region.Mode} {S : World → Prop}

/-- The operations in a row. -/
def wpSeq (P : Program) (ops : Array Oper) (Q : Exit → Act → World → Prop) (S : World → Prop) : List Stp → Act → World → Prop
  | [], a, w => Q .normal a w
  | .t i _ :: r, a, w => ∃ o v, nth ops.toList i = some o ∧ YieldsIf P ops S o v a ∧ wpSeq P ops Q S r (a.put o.dst v) w
  | .o i _ :: r, a, w => wpOp P ops Q i (fun a' w' => S w' ∧ wpSeq P ops Q S r a' w') a w
  | .b i j _ _ _ :: r, a, w =>
    wpOp P ops Q i (fun a' w' => S w' ∧ wpOp P ops Q j (fun a' w' => S w' ∧ wpSeq P ops Q S r a' w') a' w') a w ∧
    wpOp P ops Q j (fun a' w' => S w' ∧ wpOp P ops Q i (fun a' w' => S w' ∧ wpSeq P ops Q S r a' w') a' w') a w

theorem lt_of_rdy {m i : Nat} {l : Array Bool} (h : Msk ops.size l m) (hi : i ∈ rdy md ops.toList 0 m) : i < ops.size := by
  rw [← rdy_eq h] at hi
  exact (Array.getElem?_eq_some_iff.1 (mem_ready.1 hi).2.choose_spec.1).1

theorem wpAnyH_seq (hns : Region.noSelect ops = true) (hQ : ∀ c a d v w, Q (.panic c) (a.put d v) w → Q (.panic c) a w) :
    ∀ (sts : List Stp) (m : Nat) (l : Array Bool) (fuel : Nat) (a : Act) (w : World), Msk ops.size l m → plan md ops sts m = true → lng sts ≤ fuel → S w →
      wpSeq P ops Q S sts a w → wpAnyH P md ops Q S fuel l a w
  | [], m, l, fuel, a, w, hm, hp, _, _, h => by
    have := emp_eq (show emp (rdy md ops.toList 0 m) = true from hp)
    exact wpAnyH_done (by rw [rdy_eq hm, this]) h fuel
  | .t i m' :: r, m, l, fuel, a, w, hm, hp, hl, hS, h => by
    simp only [plan, Bool.and_eq_true] at hp
    obtain ⟨⟨⟨h1, h2⟩, h3⟩, h4⟩ := hp
    obtain ⟨o, v, ho, hy, h⟩ := h
    have hmem := hasN_mem _ _ h1
    have hlt := lt_of_rdy hm hmem
    obtain ⟨f, rfl⟩ : ∃ f, fuel = f + 1 := ⟨fuel - 1, by simp only [lng] at hl; omega⟩
    simp only [lng] at hl
    have h2' : fre md ops o i ops.toList 0 m = true := by unfold freAt at h2; rw [ho] at h2; exact h2
    have hms := hm.set i hlt
    rw [← Nat.eq_of_beq_eq_true h3] at hms
    refine wpAnyH_first (nth_ops ho) (Region.noSelect_spec hns) (fun c a w => hQ c a o.dst v w) f l a w (fun j oj hj hne hun hno => ?_) (by rw [rdy_eq hm]; exact hmem) hy hS
      (wpAnyH_seq hns hQ r m' _ f _ w hms h4 (by omega) hS h)
    have hjl := (Array.getElem?_eq_some_iff.1 hj).1
    have hs := fre_spec ops.toList 0 h2' j oj (by simpa using hj)
    rw [Nat.zero_add] at hs
    rw [hm.getD j true hjl] at hun
    simp only [Bool.or_eq_true] at hs
    rcases hs with ((hs | hs) | hs) | hs
    · exact absurd (Nat.eq_of_beq_eq_true hs) hne
    · rw [hun] at hs; cases hs
    · obtain ⟨e, he, hb⟩ := Array.any_eq_true'.1 hs
      simp only [Bool.and_eq_true] at hb
      exact absurd (Nat.eq_of_beq_eq_true hb.2) (hno e he hb.1)
    · exact hs
  | .o i m' :: r, m, l, fuel, a, w, hm, hp, hl, hS, h => by
    simp only [plan, Bool.and_eq_true] at hp
    obtain ⟨⟨h1, h3⟩, h4⟩ := hp
    have h1 := one1_eq h1
    have hlt := lt_of_rdy (md := md) hm (i := i) (by rw [h1]; simp)
    obtain ⟨f, rfl⟩ : ∃ f, fuel = f + 1 := ⟨fuel - 1, by simp only [lng] at hl; omega⟩
    simp only [lng] at hl
    have hms := hm.set i hlt
    rw [← Nat.eq_of_beq_eq_true h3] at hms
    refine wpAnyH_all (rs := [i]) (by rw [rdy_eq hm, h1]) (by simp) (fun k hk => ?_)
    obtain rfl : k = i := by simpa using hk
    exact wpOp_mono (fun a' w' h' => ⟨h'.1, wpAnyH_seq hns hQ r m' _ f a' w' hms h4 (by omega) h'.1 h'.2⟩) h
  | .b i j mi mj m' :: r, m, l, fuel, a, w, hm, hp, hl, hS, h => by
    simp only [plan, Bool.and_eq_true] at hp
    obtain ⟨⟨⟨⟨⟨⟨h1, h2⟩, h3⟩, h4⟩, h5⟩, h6⟩, h7⟩ := hp
    have h1 := two2_eq h1
    have hlti := lt_of_rdy (md := md) hm (i := i) (by rw [h1]; simp)
    have hltj := lt_of_rdy (md := md) hm (i := j) (by rw [h1]; simp)
    obtain ⟨f, rfl⟩ : ∃ f, fuel = f + 2 := ⟨fuel - 2, by simp only [lng] at hl; omega⟩
    simp only [lng] at hl
    have hmi := hm.set i hlti
    have hmj := hm.set j hltj
    have hmij := hmi.set j hltj
    have hmji := hmj.set i hlti
    rw [show (m ||| 1 <<< j) ||| 1 <<< i = (m ||| 1 <<< i) ||| 1 <<< j by rw [Nat.or_assoc, Nat.or_assoc, Nat.or_comm (1 <<< j)]] at hmji
    rw [← Nat.eq_of_beq_eq_true h2] at hmi hmij hmji
    rw [← Nat.eq_of_beq_eq_true h6] at hmij hmji
    rw [← Nat.eq_of_beq_eq_true h3] at hmj
    refine wpAnyH_all (rs := [i, j]) (by rw [rdy_eq hm, h1]) (by simp) (fun k hk => ?_)
    rcases (show k = i ∨ k = j by simpa using hk) with rfl | rfl
    · refine wpOp_mono (fun a' w' h' => ⟨h'.1, ?_⟩) h.1
      refine wpAnyH_all (rs := [j]) (by rw [rdy_eq hmi, one1_eq h4]) (by simp) (fun q hq => ?_)
      obtain rfl : q = j := by simpa using hq
      exact wpOp_mono (fun a' w' h' => ⟨h'.1, wpAnyH_seq hns hQ r m' _ f a' w' hmij h7 (by omega) h'.1 h'.2⟩) h'.2
    · refine wpOp_mono (fun a' w' h' => ⟨h'.1, ?_⟩) h.2
      refine wpAnyH_all (rs := [i]) (by rw [rdy_eq hmj, one1_eq h5]) (by simp) (fun q hq => ?_)
      obtain rfl : q = i := by simpa using hq
      exact wpOp_mono (fun a' w' h' => ⟨h'.1, wpAnyH_seq hns hQ r m' _ f a' w' hmji h7 (by omega) h'.1 h'.2⟩) h'.2

/-- The beginning. -/
theorem wp_region_seq {id : Nat} {a : Act} {w : World} (sts : List Stp) (hm : P.follows .mixedOrders = true) (hns : Region.noSelect ops = true) (hp : plan .any ops sts 0 = true)
    (hl : Nat.ble (lng sts) ops.size = true) (hQ : ∀ c a d v w, Q (.panic c) (a.put d v) w → Q (.panic c) a w) (hS : S w.drew) (h : S w.drew → wpSeq P ops Q S sts a w.drew) :
    (Code.region id ops true).wp P Q a w :=
  wp_region_held_drew hm hS fun h' => wpAnyH_seq hns hQ sts 0 _ _ _ _ (Msk.zero _) hp (Nat.le_of_ble_eq_true hl) h' (h h')

/-- An operation is taken first. -/
theorem seq_take {i m' : Nat} {r : List Stp} {o : Oper} {v : Value} {a : Act} {w : World} (ho : nth ops.toList i = some o) (hw : Region.wanted o (yielded ops a.tmps) = true)
    (hv : ∀ w, S w → (execOp a.eval o).run P w = .ok (.value v) w) (h : wpSeq P ops Q S r (a.put o.dst v) w) : wpSeq P ops Q S (.t i m' :: r) a w :=
  ⟨o, v, ho, .inl ⟨hw, hv⟩, h⟩
/-- An operation is carried out. -/
theorem seq_one {i m' : Nat} {r : List Stp} {o : Oper} {a : Act} {w : World} (ho : nth ops.toList i = some o)
    (h : ∀ K' : Act → World → Prop, Shut (∀ a w, S w → (S w → wpSeq P ops Q S r a w) → K' a w) → if Region.wanted o (yielded ops a.tmps) = true then Oper.wp P o a w K' Q else K' (a.put o.dst undef) w) :
    wpSeq P ops Q S (.o i m' :: r) a w :=
  wpOp_step (nth_ops ho) (fun K' hK => h K' (fun a w hS hW => hK a w ⟨hS, hW hS⟩))
/-- One of two is carried out, then the other. -/
theorem seq_two {i j mi mj m' : Nat} {r : List Stp} {o p : Oper} {a : Act} {w : World} (ho : nth ops.toList i = some o) (hp : nth ops.toList j = some p)
    (h1 : ∀ K' : Act → World → Prop, Shut (∀ a w, S w → (S w → wpSeq P ops Q S (.o j 0 :: r) a w) → K' a w) → if Region.wanted o (yielded ops a.tmps) = true then Oper.wp P o a w K' Q else K' (a.put o.dst undef) w)
    (h2 : ∀ K' : Act → World → Prop, Shut (∀ a w, S w → (S w → wpSeq P ops Q S (.o i 0 :: r) a w) → K' a w) → if Region.wanted p (yielded ops a.tmps) = true then Oper.wp P p a w K' Q else K' (a.put p.dst undef) w) :
    wpSeq P ops Q S (.b i j mi mj m' :: r) a w :=
  ⟨wpOp_step (nth_ops ho) (fun K' hK => h1 K' (fun a w hS hW => hK a w ⟨hS, hW hS⟩)), wpOp_step (nth_ops hp) (fun K' hK => h2 K' (fun a w hS hW => hK a w ⟨hS, hW hS⟩))⟩
/-- All have come up. -/
theorem seq_done {a : Act} {w : World} (h : Q .normal a w) : wpSeq P ops Q S [] a w := h
end

end Go.Proofs.Ytcmllkjgggcghaa
