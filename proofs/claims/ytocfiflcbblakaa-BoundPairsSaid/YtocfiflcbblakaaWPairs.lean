/-
  To meet goes both ways; one that lies in another one meets it, and has no text that the other one has not; each of the other is the same.
-/
import Derived.Test.YtocfiflcbblakaaXPr
import Derived.Test.YtocfiflcbblakaaPB1
import Derived.Test.YtocfiflcbblakaaB10
namespace Go.Proofs.Ytocfiflcbblakaa
set_option linter.unusedVariables false
set_option linter.unusedSimpArgs false
open Go.RowKit Go.Proofs.Ytocfiflcbblakaa.XPr
theorem le_lt {x y z : Bs} (h : ¬ y < x) (k : y < z) : x < z := by
  rcases ord_tri x y with e | rfl | e
  · exact ord_trans e k
  · exact k
  · exact absurd e h
theorem lt_le {x y z : Bs} (h : x < y) (k : ¬ z < y) : x < z := by
  rcases ord_tri y z with e | rfl | e
  · exact ord_trans h e
  · exact h
  · exact absurd e k
theorem le_le {x y z : Bs} (h : ¬ y < x) (k : ¬ z < y) : ¬ z < x := fun e => k (lt_le e h)
theorem le_eq {x y : Bs} (h : ¬ y < x) (k : ¬ x < y) : x = y := by
  rcases ord_tri x y with e | e | e
  · exact absurd e k
  · exact e
  · exact absurd e h
theorem in_parts {f t g u : Bs} (h : insideL f t g u = true) : okL f t = true ∧ okL g u = true ∧ ¬ f < g ∧ (u = [] ∨ (t ≠ [] ∧ ¬ u < t)) := by
  unfold insideL at h
  simp only [Bool.and_eq_true, Bool.or_eq_true, Bool.not_eq_true', decide_eq_false_iff_not, List.isEmpty_iff, List.isEmpty_eq_false_iff] at h
  exact ⟨h.1.1.1, h.1.1.2, h.1.2, h.2⟩
theorem ends_iff {t k : Bs} : endsL t k = true ↔ t = [] ∨ k < t := by
  unfold endsL
  simp only [Bool.or_eq_true, decide_eq_true_eq, List.isEmpty_iff]
theorem has_iff {f t k : Bs} : hasL f t k = true ↔ ¬ k < f ∧ (t = [] ∨ k < t) := by
  unfold hasL
  simp only [Bool.and_eq_true, Bool.not_eq_true', decide_eq_false_iff_not, ends_iff]
theorem meet_iff {f t g u : Bs} : meetL f t g u = true ↔ okL f t = true ∧ okL g u = true ∧ (t = [] ∨ g < t) ∧ (u = [] ∨ f < u) := by
  unfold meetL
  simp only [Bool.and_eq_true, ends_iff, and_assoc]
theorem meet_comm (f t g u : Bs) : meetL g u f t = meetL f t g u := by
  rw [Bool.eq_iff_iff, meet_iff, meet_iff]
  constructor
  · rintro ⟨a, b, c, d⟩
    exact ⟨b, a, d, c⟩
  · rintro ⟨a, b, c, d⟩
    exact ⟨b, a, d, c⟩
theorem in_meet {f t g u : Bs} (h : insideL f t g u = true) : meetL f t g u = true := by
  obtain ⟨h1, h2, h3, h4⟩ := in_parts h
  rw [meet_iff]
  have ht : t = [] ∨ f < t := (ok_len h1).2.2
  refine ⟨h1, h2, ?_, ?_⟩
  · rcases ht with ht | ht
    · exact .inl ht
    · exact .inr (le_lt h3 ht)
  · rcases h4 with h4 | ⟨h4, h5⟩
    · exact .inl h4
    · rcases ht with ht | ht
      · exact absurd ht h4
      · exact .inr (lt_le ht h5)
theorem in_has {f t g u s : Bs} (h : insideL f t g u = true) (k : hasL f t s = true) : hasL g u s = true := by
  obtain ⟨h1, h2, h3, h4⟩ := in_parts h
  rw [has_iff] at k ⊢
  refine ⟨le_le h3 k.1, ?_⟩
  rcases h4 with h4 | ⟨h4, h5⟩
  · exact .inl h4
  · rcases k.2 with k | k
    · exact absurd k h4
    · exact .inr (lt_le k h5)
theorem in_both {f t g u : Bs} (h : insideL f t g u = true) (k : insideL g u f t = true) : f = g ∧ t = u := by
  obtain ⟨h1, h2, h3, h4⟩ := in_parts h
  obtain ⟨k1, k2, k3, k4⟩ := in_parts k
  refine ⟨le_eq k3 h3, ?_⟩
  rcases h4 with h4 | ⟨h4, h5⟩
  · rcases k4 with k4 | ⟨k4, _⟩
    · rw [h4, k4]
    · exact absurd h4 k4
  · rcases k4 with k4 | ⟨_, k5⟩
    · exact absurd k4 h4
    · exact le_eq h5 k5
theorem both_meet {f t g u s : Bs} (h1 : okL f t = true) (h2 : okL g u = true) (h : hasL f t s = true) (k : hasL g u s = true) : meetL f t g u = true := by
  rw [has_iff] at h k
  rw [meet_iff]
  refine ⟨h1, h2, ?_, ?_⟩
  · rcases h.2 with h | h
    · exact .inl h
    · exact .inr (le_lt k.1 h)
  · rcases k.2 with k | k
    · exact .inl k
    · exact .inr (le_lt h.1 k)
theorem in_self (f t : Bs) : insideL f t f t = okL f t := by
  unfold insideL
  have h1 : ¬ f < f := ord_irr _
  have h2 : ¬ t < t := ord_irr _
  cases h3 : t.isEmpty <;> simp [h1, h2, h3]
theorem pairs_j2 (f t : ByteArray) : furlonglaw02_BoundPairs.j2 1 false f t = some true := by
  simp only [furlonglaw02_BoundPairs.j2, bound_Inside.f, bound_Check.f, furlonglaw02_num.f, furlonglaw02_live.f, Option.bind_some, in_self, err20_beq, beq_self_eq_true, if_true, Bool.false_eq_true, if_false]
theorem w_err (b c : Bool) : (wrap64 (err20 b + err20 c) = 0) ↔ (b = true ∧ c = true) := by
  cases b <;> cases c <;> (unfold wrap64 err20; simp)
theorem pairs_j1 (f t g u s : ByteArray) : furlonglaw02_BoundPairs.j1 2 s (insideL f.toList t.toList g.toList u.toList) false f t g u = some true := by
  simp only [furlonglaw02_BoundPairs.j1, bound_Check.f, furlonglaw02_num.f, Option.bind_some, w_err, bound_Has.f, bound_Meet.f, Bool.false_eq_true, if_false]
  have hj := pairs_j2 f t
  by_cases hm : okL f.toList t.toList = true ∧ okL g.toList u.toList = true
  · have hb := fun h k => both_meet (s := s.toList) hm.1 hm.2 h k
    simp only [if_pos hm, hj]
    repeat' split
    all_goals first | rfl | (rename_i h1 h2 h3; exact absurd (hb h1 h2) h3) | skip
  · have hn : meetL f.toList t.toList g.toList u.toList = false := by
      cases h : meetL f.toList t.toList g.toList u.toList with
      | false => rfl
      | true => rw [meet_iff] at h; exact absurd ⟨h.1, h.2.1⟩ hm
    have hi : insideL f.toList t.toList g.toList u.toList = false := by
      cases h : insideL f.toList t.toList g.toList u.toList with
      | false => rfl
      | true => exact absurd ⟨(in_parts h).1, (in_parts h).2.1⟩ hm
    simp only [if_neg hm, hn, hi, hj, Bool.false_eq_true, if_false]
theorem pairs_j0 (b : Bool) (f t g u s : ByteArray) : furlonglaw02_BoundPairs.j0 3 s b f t g u = some true := by
  simp only [furlonglaw02_BoundPairs.j0]
  cases b with
  | true => rfl
  | false =>
    have hj := pairs_j1 f t g u s
    simp only [bound_Inside.f, bound_Meet.f, bound_Has.f, Option.bind_some, Bool.false_eq_true, if_false, meet_comm f.toList t.toList g.toList u.toList, bne_self_eq_false]
    cases h1 : insideL f.toList t.toList g.toList u.toList with
    | false =>
      rw [h1] at hj
      simp only [Bool.false_eq_true, if_false]
      exact hj
    | true =>
      rw [h1] at hj
      have h2 := in_meet h1
      simp only [if_true, h2]
      have hc : insideL g.toList u.toList f.toList t.toList = true → (!(f.toList == g.toList) || !(t.toList == u.toList)) = false := by
        intro h3
        obtain ⟨e1, e2⟩ := in_both h1 h3
        rw [e1, e2]
        simp
      have fin : (if insideL g.toList u.toList f.toList t.toList = true then furlonglaw02_BoundPairs.j1 2 s true (!(f.toList == g.toList) || !(t.toList == u.toList)) f t g u else furlonglaw02_BoundPairs.j1 2 s true false f t g u) = some true := by
        split
        · rename_i h3
          rw [hc h3]
          exact hj
        · exact hj
      cases h4 : hasL f.toList t.toList s.toList with
      | false =>
        simp only [Bool.false_eq_true, if_false]
        exact fin
      | true =>
        have h5 := in_has h1 h4
        simp only [h5, if_true]
        exact fin
theorem pairs_pure (f t g u s : ByteArray) : furlonglaw02_BoundPairs.f 3 f t g u s = some true := by
  simp only [furlonglaw02_BoundPairs.f, furlonglaw02_small.f, Option.bind_some, pairs_j0]
  repeat' split
  all_goals rfl
theorem pairs_walk {H : Type} {enc : TypeId × Value → H} (W : World) (v0 : Value) {d0 : DataW H} {p0 : List MemPlace} (o0 : ∃ cs, v0 = .agg cs) (h0 : DataW.Trod enc Try.prog W 0 (fun _ => true) true 23 v0 d0 p0) (l0 : Light Try.prog 23 d0)
    (v1 : Value) {d1 : DataW H} {p1 : List MemPlace} (o1 : ∃ cs, v1 = .agg cs) (h1 : DataW.Trod enc Try.prog W 0 (fun _ => true) true 23 v1 d1 p1) (l1 : Light Try.prog 23 d1) (s : ByteArray) (_hs : s.size ≤ 140737488351232) :
    Calls Try.prog 10 #[v0, v1, .string s] W fun e w' => e = .returned (.bool true) ∧ Below W.heap.size W w' := by
  obtain ⟨f, t, rfl⟩ := open_bound o0 h0 l0
  obtain ⟨g, u, rfl⟩ := open_bound o1 h1 l1
  exact furlonglaw02_BoundPairs.calls 3 f t g u s true W (pairs_pure f t g u s) rfl
end Go.Proofs.Ytocfiflcbblakaa
