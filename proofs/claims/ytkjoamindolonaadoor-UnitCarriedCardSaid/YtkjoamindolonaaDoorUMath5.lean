/- Plain laws for the statements of layer 1: paths turned over, spans carried over, fractions inside a span. -/
import Derived.Test.YtkjoamindolonaaDoorUMath3
import Derived.Lib.Hide
namespace Um
set_option linter.unusedSimpArgs false
set_option linter.unusedVariables false

theorem canon_uniq (l l' : List Int) (h : canon l) (h' : canon l') (e : ev l = ev l') : l = l' := by
  have a := eu_canon l (max l.length l'.length) h (Nat.le_max_left _ _)
  have b := eu_canon l' (max l.length l'.length) h' (Nat.le_max_right _ _)
  rw [e] at a
  exact a.symm.trans b

theorem canon_zero {l : List Int} (h : tailOk l) : canon (0 :: l) := by
  match l, h with
  | [], h => exact absurd h (by simp [tailOk])
  | y :: l, h => exact ⟨Int.le_refl _, h⟩

/-- the path of a fraction below 1 is that of the fraction turned over, with a 0 ahead -/
theorem eu_below (n d : Int) (hf : frac n d = true) (h : n < d) : eu (d.toNat + 1) n d = 0 :: eu (n.toNat + 1) d n := by
  obtain ⟨n1, n2, d1, d2⟩ := frac_bd hf
  have hg := frac_gcd hf
  have hg2 : Int.gcd d n = 1 := by rw [Int.gcd_comm]; exact hg
  have ht := eu_tailOk (n.toNat + 1) d n h n1 hg2 (by omega)
  have e1 := eu_ev (d.toNat + 1) n d (by omega) (by omega) hg (by omega)
  have e2 := eu_ev (n.toNat + 1) d n (by omega) (by omega) hg2 (by omega)
  refine canon_uniq _ _ (eu_canonical _ n d n1 d1 hg (by omega)) (canon_zero ht) ?_
  rw [e1, ev, e2]
  simp

/-- the path of a simplest fraction is no longer than that of any fraction in the span -/
theorem best_short {s : S4} {n d : Int} (h : spanB s = true) (hf : frac n d = true) (h1 : s.1 * d ≤ n * s.2.1) (h2 : n * s.2.2.2 ≤ s.2.2.1 * d) :
    (eu ((ev (best s)).2.toNat + 1) (ev (best s)).1 (ev (best s)).2).length ≤ (eu (d.toNat + 1) n d).length := by
  obtain ⟨n1, n2, d1, d2⟩ := frac_bd hf
  have hB := best_ok s h
  obtain ⟨g1, g2, g3⟩ := (spanB_iff s).1 h
  obtain ⟨a1, a2, b1, b2⟩ := frac_bd g1
  obtain ⟨c1, c2, e1, e2⟩ := frac_bd g2
  have hm := hB.simp.m0
  have hn := hB.simp.n0
  have hg := ev_gcd (best s)
  have e : eu ((ev (best s)).2.toNat + 1) (ev (best s)).1 (ev (best s)).2 = best s := by
    refine canon_uniq _ _ (eu_canonical _ _ _ (by omega) (by omega) hg (by omega)) hB.can ?_
    exact eu_ev _ _ _ (by omega) (by omega) hg (by omega)
  rw [e]
  exact sp_short _ _ _ _ _ _ _ _ (by omega) (by omega) (by omega) (by omega) g3 (by omega) (by omega) h1 h2 (by omega)

theorem mul4_order {s d : S4} (hs : spanB s = true) (hd : spanB d = true) (h : frac4 (mul4 s d) = true) : spanB (mul4 s d) = true := by
  obtain ⟨s1, s2, s3⟩ := (spanB_iff s).1 hs
  obtain ⟨d1, d2, d3⟩ := (spanB_iff d).1 hd
  obtain ⟨m1, m2⟩ := (frac4_iff _).1 h
  refine (spanB_iff _).2 ⟨m1, m2, ?_⟩
  exact mulR_mono (frac_pos s1).1 (frac_pos s1).2 (frac_pos d1).1 (frac_pos d1).2 (frac_pos s2).1 (frac_pos s2).2 (frac_pos d2).1 (frac_pos d2).2 s3 d3

theorem carryL_span (l : List S4) : ∀ {s t : S4}, (∀ x ∈ l, spanB x = true) → spanB s = true → carryL s l = some t → spanB t = true := by
  induction l with
  | nil => intro s t _ hs h; simp [carryL] at h; subst h; exact hs
  | cons d l ih =>
    intro s t hl hs h
    rw [carryL] at h
    split at h
    · rename_i hm
      exact ih (fun x hx => hl x (List.mem_cons_of_mem _ hx)) (mul4_order hs (hl d (List.mem_cons_self)) hm) h
    · exact absurd h (by simp)

theorem span_frac4 {s : S4} (h : spanB s = true) : frac4 s = true := by
  obtain ⟨s1, s2, _⟩ := (spanB_iff s).1 h
  exact (frac4_iff s).2 ⟨s1, s2⟩

theorem span_turn {s : S4} (h : spanB s = true) : spanB (turn4 s) = true := by
  obtain ⟨s1, s2, s3⟩ := (spanB_iff s).1 h
  have h4 := (frac4_iff _).1 (turn4_frac (span_frac4 h))
  refine (spanB_iff _).2 ⟨h4.1, h4.2, ?_⟩
  show s.2.2.2 * s.1 ≤ s.2.1 * s.2.2.1
  rw [Int.mul_comm, Int.mul_comm s.2.1]
  exact s3

/-- a fraction is in a span -/
def inS (x : Int × Int) (s : S4) : Prop := s.1 * x.2 ≤ x.1 * s.2.1 ∧ x.1 * s.2.2.2 ≤ s.2.2.1 * x.2

/-- a span of one number -/
def pt (x : Int × Int) : S4 := (x.1, x.2, x.1, x.2)

theorem pt_span {x : Int × Int} (h : frac x.1 x.2 = true) : spanB (pt x) = true := (spanB_iff _).2 ⟨h, h, Int.le_refl _⟩

/-- what a call of Carry and one of Back say of a value and of true numbers -/
theorem carried_laws {s : S4} {zs : List S4} {x : Int × Int} {xs : List (Int × Int)} (hs : spanB s = true) (hlen : zs.length ≤ 8) (hzs : ∀ z ∈ zs, spanB z = true)
    (hx : frac x.1 x.2 = true) (hin : inS x s) (hxl : xs.length = zs.length) (hxs : ∀ y ∈ xs, frac y.1 y.2 = true) (hxz : ∀ i, (h : i < zs.length) → inS (xs[i]'(by omega)) zs[i]) :
    ((carried s zs id).2 = 0 ∨ (carried s zs id).2 = 4) ∧ ((carried s zs id).2 = 0 → spanB (carried s zs id).1 = true) ∧
    ((carried (pt x) (xs.map pt) id).2 = 0 ∨ (carried (pt x) (xs.map pt) id).2 = 4) ∧
    ((carried (pt x) (xs.map pt) id).2 = 0 → spanB (carried (pt x) (xs.map pt) id).1 = true ∧ (carried (pt x) (xs.map pt) id).1.1 = (carried (pt x) (xs.map pt) id).1.2.2.1 ∧ (carried (pt x) (xs.map pt) id).1.2.1 = (carried (pt x) (xs.map pt) id).1.2.2.2 ∧
      ((carried s zs id).2 = 0 → inS ((carried (pt x) (xs.map pt) id).1.1, (carried (pt x) (xs.map pt) id).1.2.1) (carried s zs id).1)) ∧
    ((carried s zs id).2 = 0 → ((carried (carried s zs id).1 zs.reverse turn4).2 = 0 ∨ (carried (carried s zs id).1 zs.reverse turn4).2 = 4) ∧
      ((carried (carried s zs id).1 zs.reverse turn4).2 = 0 → spanB (carried (carried s zs id).1 zs.reverse turn4).1 = true ∧
        inS (s.1, s.2.1) (carried (carried s zs id).1 zs.reverse turn4).1 ∧ inS (s.2.2.1, s.2.2.2) (carried (carried s zs id).1 zs.reverse turn4).1 ∧
        ((∀ z ∈ zs, z.1 = z.2.2.1 ∧ z.2.1 = z.2.2.2) → (carried (carried s zs id).1 zs.reverse turn4).1 = s))) := by
  have good : ∀ (s : S4) (l : List S4) (ch : S4 → S4), spanB s = true → l.length ≤ 8 → (∀ z ∈ l, spanB z = true) → carried s l ch = match carryL s (l.map ch) with | none => ((0, 0, 0, 0), 4) | some t => (t, 0) := by
    intro s l ch h1 h2 h3
    have ha : l.any (fun d => !spanB d) = false := by
      rw [List.any_eq_false]
      intro z hz
      simp [h3 z hz]
    unfold carried
    rw [if_neg (by rw [h1]; decide), if_neg (by omega), if_neg (by rw [ha]; decide)]
    rfl
  have hpts : ∀ z ∈ xs.map pt, spanB z = true := fun z hz => by
    obtain ⟨y, hy, rfl⟩ := List.mem_map.1 hz
    exact pt_span (hxs y hy)
  have e1 := good s zs id hs hlen hzs
  have e2 := good (pt x) (xs.map pt) id (pt_span hx) (by simp; omega) hpts
  rw [List.map_id] at e1 e2
  cases hc : carryL s zs with
  | none =>
    rw [hc] at e1
    dsimp only at e1
    have z4 : (carried s zs id).2 = 4 := by rw [e1]
    refine ⟨Or.inr z4, fun h => absurd (h.symm.trans z4) (by decide), ?_, ?_, fun h => absurd (h.symm.trans z4) (by decide)⟩
    · cases hp : carryL (pt x) (xs.map pt) with
      | none => rw [hp] at e2; rw [e2]; exact Or.inr rfl
      | some v => rw [hp] at e2; rw [e2]; exact Or.inl rfl
    · intro h
      cases hp : carryL (pt x) (xs.map pt) with
      | none => rw [hp] at e2; rw [e2] at h; exact absurd h (by decide)
      | some v =>
        rw [hp] at e2
        obtain ⟨p1, p2⟩ := carryL_point (s := pt x) (u := v) (l := xs.map pt) rfl rfl (fun y hy => by obtain ⟨q, _, rfl⟩ := List.mem_map.1 hy; exact ⟨rfl, rfl⟩) hp
        rw [e2]
        exact ⟨carryL_span _ hpts (pt_span hx) hp, p1, p2, fun h => absurd (h.symm.trans z4) (by decide)⟩
  | some t =>
    rw [hc] at e1
    dsimp only at e1
    have ht := carryL_span _ hzs hs hc
    have hrev : ∀ z ∈ zs.reverse, spanB z = true := fun z hz => hzs z (List.mem_reverse.1 hz)
    have e3 := good t zs.reverse turn4 ht (by simp; omega) hrev
    rw [e1]
    refine ⟨Or.inl rfl, fun _ => ht, ?_, ?_, fun _ => ⟨?_, ?_⟩⟩
    · cases hp : carryL (pt x) (xs.map pt) with
      | none => rw [hp] at e2; rw [e2]; exact Or.inr rfl
      | some v => rw [hp] at e2; rw [e2]; exact Or.inl rfl
    · intro h
      cases hp : carryL (pt x) (xs.map pt) with
      | none => rw [hp] at e2; rw [e2] at h; exact absurd h (by decide)
      | some v =>
        rw [hp] at e2
        obtain ⟨p1, p2⟩ := carryL_point (s := pt x) (u := v) (l := xs.map pt) rfl rfl (fun y hy => by obtain ⟨q, _, rfl⟩ := List.mem_map.1 hy; exact ⟨rfl, rfl⟩) hp
        have hz1 : (((xs.map pt).zip zs).map (·.1)) = xs.map pt := List.map_fst_zip (by simp; omega)
        have hz2 : (((xs.map pt).zip zs).map (·.2)) = zs := List.map_snd_zip (by simp; omega)
        have hsub : sub4 v t := by
          refine carryL_sub (l := (xs.map pt).zip zs) (s := pt x) (t := s) (span_frac4 (pt_span hx)) (span_frac4 hs) ⟨hin.1, hin.2⟩ ?_ (by rw [hz1]; exact hp) (by rw [hz2]; exact hc)
          intro y hy
          obtain ⟨i, hi, rfl⟩ := List.getElem_of_mem hy
          have hi2 : i < zs.length := by simp at hi; omega
          have hi3 : i < xs.length := by omega
          rw [List.getElem_zip, List.getElem_map]
          have hk := hxz i hi2
          exact ⟨span_frac4 (pt_span (hxs _ (List.getElem_mem _))), span_frac4 (hzs _ (List.getElem_mem _)), ⟨hk.1, hk.2⟩⟩
        rw [e2]
        refine ⟨carryL_span _ hpts (pt_span hx) hp, p1, p2, fun _ => ⟨hsub.1, ?_⟩⟩
        have := hsub.2
        unfold qle at this
        show v.1 * t.2.2.2 ≤ t.2.2.1 * v.2.1
        rw [p1, p2]
        exact this
    · show (carried t zs.reverse turn4).2 = 0 ∨ (carried t zs.reverse turn4).2 = 4
      rw [e3]
      cases carryL t (zs.reverse.map turn4) with
      | none => exact Or.inr rfl
      | some v => exact Or.inl rfl
    · show (carried t zs.reverse turn4).2 = 0 → spanB (carried t zs.reverse turn4).1 = true ∧ inS (s.1, s.2.1) (carried t zs.reverse turn4).1 ∧ inS (s.2.2.1, s.2.2.2) (carried t zs.reverse turn4).1 ∧ ((∀ z ∈ zs, z.1 = z.2.2.1 ∧ z.2.1 = z.2.2.2) → (carried t zs.reverse turn4).1 = s)
      intro h
      rw [e3] at h ⊢
      cases hu : carryL t (zs.reverse.map turn4) with
      | none => rw [hu] at h; exact absurd h (by decide)
      | some u =>
        have hturn : ∀ z ∈ zs.reverse.map turn4, spanB z = true := fun z hz => by
          obtain ⟨y, hy, rfl⟩ := List.mem_map.1 hz
          exact span_turn (hrev y hy)
        have hus := carryL_span _ hturn ht hu
        obtain ⟨b1, b2⟩ := carry_back zs hzs (span_frac4 hs) hc hu
        obtain ⟨s1, s2, s3⟩ := (spanB_iff s).1 hs
        obtain ⟨u1, u2, u3⟩ := (spanB_iff u).1 hus
        refine ⟨hus, ⟨b1.1, ?_⟩, ⟨?_, b1.2⟩, b2⟩
        · exact qle_trans (frac_pos s1).2 (frac_pos s2).2 (frac_pos u2).2 s3 b1.2
        · exact qle_trans (frac_pos u1).2 (frac_pos s1).2 (frac_pos s2).2 b1.1 s3

/-- a fraction of a span by a number, as the law package takes it -/
def inside (s : S4) (b : Int) : Int × Int :=
  if b % 3 = 0 then (s.1, s.2.1) else if b % 3 = 1 then (s.2.2.1, s.2.2.2)
  else if frac ((s.1 + s.2.2.1) / (Int.gcd (s.1 + s.2.2.1) (s.2.1 + s.2.2.2) : Int)) ((s.2.1 + s.2.2.2) / (Int.gcd (s.1 + s.2.2.1) (s.2.1 + s.2.2.2) : Int)) = true
    then ((s.1 + s.2.2.1) / (Int.gcd (s.1 + s.2.2.1) (s.2.1 + s.2.2.2) : Int), (s.2.1 + s.2.2.2) / (Int.gcd (s.1 + s.2.2.1) (s.2.1 + s.2.2.2) : Int)) else (s.1, s.2.1)

theorem inside_in {s : S4} (b : Int) (h : spanB s = true) : frac (inside s b).1 (inside s b).2 = true ∧ inS (inside s b) s := by
  obtain ⟨s1, s2, s3⟩ := (spanB_iff s).1 h
  obtain ⟨a1, a2, b1, b2⟩ := frac_bd s1
  obtain ⟨c1, c2, d1, d2⟩ := frac_bd s2
  have lo : frac s.1 s.2.1 = true ∧ inS (s.1, s.2.1) s := ⟨s1, Int.le_refl _, s3⟩
  unfold inside
  split
  · exact lo
  · split
    · exact ⟨s2, s3, Int.le_refl _⟩
    · split
      · rename_i hf
        refine ⟨hf, ?_⟩
        obtain ⟨p, hp⟩ := Int.gcd_dvd_left (a := s.1 + s.2.2.1) (b := s.2.1 + s.2.2.2)
        obtain ⟨q, hq⟩ := Int.gcd_dvd_right (a := s.1 + s.2.2.1) (b := s.2.1 + s.2.2.2)
        have hg0 : 0 < Int.gcd (s.1 + s.2.2.1) (s.2.1 + s.2.2.2) := Int.gcd_pos_of_ne_zero_left _ (by omega)
        have hg : (0 : Int) < (Int.gcd (s.1 + s.2.2.1) (s.2.1 + s.2.2.2) : Int) := by omega
        generalize (Int.gcd (s.1 + s.2.2.1) (s.2.1 + s.2.2.2) : Int) = g at *
        have e1 : (s.1 + s.2.2.1) / g = p := Int.ediv_eq_of_eq_mul_right (by omega) hp
        have e2 : (s.2.1 + s.2.2.2) / g = q := Int.ediv_eq_of_eq_mul_right (by omega) hq
        rw [e1, e2]
        unfold inS
        constructor
        · show s.1 * q ≤ p * s.2.1
          apply le_of_mul_le hg
          have f1 : s.1 * q * g = s.1 * (s.2.1 + s.2.2.2) := by rw [hq, Int.mul_assoc, Int.mul_comm q]
          have f2 : p * s.2.1 * g = (s.1 + s.2.2.1) * s.2.1 := by rw [hp, Int.mul_right_comm, Int.mul_comm p]
          rw [f1, f2, Int.mul_add, Int.add_mul]
          omega
        · show p * s.2.2.2 ≤ s.2.2.1 * q
          apply le_of_mul_le hg
          have f1 : s.2.2.1 * q * g = s.2.2.1 * (s.2.1 + s.2.2.2) := by rw [hq, Int.mul_assoc, Int.mul_comm q]
          have f2 : p * s.2.2.2 * g = (s.1 + s.2.2.1) * s.2.2.2 := by rw [hp, Int.mul_right_comm, Int.mul_comm p]
          rw [f1, f2, Int.mul_add, Int.add_mul]
          omega
      · exact lo

end Um
