/-
  What was cut is joined again; each text lies in just one of the parts, if it lies in the bound.
-/
import Derived.Test.YtocfiflcbblakaaXPt
import Derived.Test.YtocfiflcbblakaaPB1
import Derived.Test.YtocfiflcbblakaaB10
namespace Go.Proofs.Ytocfiflcbblakaa
set_option linter.unusedVariables false
set_option linter.unusedSimpArgs false
open Go.RowKit Go.Proofs.Ytocfiflcbblakaa.XPt
theorem has_parts {f t k : Bs} (h : cutL f t k = true) (s : Bs) : hasL f t s = (hasL f k s != hasL k t s) := by
  obtain ⟨_, hk, hf, ht⟩ := cut_parts h
  have hne : k.isEmpty = false := by
    cases k with
    | nil => simp at hk
    | cons => rfl
  unfold hasL endsL
  rw [hne]
  by_cases h1 : s < f
  · have h2 : s < k := ord_trans h1 hf
    simp [h1, h2]
  · by_cases h2 : s < k
    · have h3 : (t.isEmpty || decide (s < t)) = true := by
        rcases ht with rfl | ht
        · rfl
        · have := ord_trans h2 ht
          simp [this]
      simp [h1, h2, h3]
    · simp [h1, h2]
theorem parts_ok {f t k : Bs} (h : cutL f t k = true) : okL f k = true ∧ okL k t = true ∧ nextL f k k t = true ∧ meetL f k k t = false ∧ insideL f k f t = true ∧ insideL k t f t = true := by
  obtain ⟨h1, hk, hf, ht⟩ := cut_parts h
  obtain ⟨l1, l2, _⟩ := ok_len h1
  have o1 : okL f k = true := ok_mk l1 (by omega) (.inr hf)
  have o2 : okL k t = true := ok_mk (by omega) l2 ht
  have hne : k.isEmpty = false := by
    cases k with
    | nil => simp at hk
    | cons => rfl
  have e1 : ¬ k < f := fun h => ord_irr _ (ord_trans h hf)
  have e2 : ¬ f < f := ord_irr _
  have e3 : ¬ k < k := ord_irr _
  refine ⟨o1, o2, ?_, ?_, ?_, ?_⟩
  · unfold nextL
    simp [o1, o2, hne]
  · unfold meetL endsL
    simp [o1, o2, hne, e3]
  · unfold insideL
    rcases ht with rfl | ht
    · simp [o1, h1, e2]
    · have : ¬ t < k := fun h => ord_irr _ (ord_trans h ht)
      simp [o1, h1, e2, hne, this]
  · unfold insideL
    have : ¬ t < t := ord_irr _
    cases h3 : t.isEmpty <;> simp [o2, h1, e1, h3, this]
theorem parts_j0 (b : Bool) (f t k s : ByteArray) : furlonglaw02_BoundParts.j0 2 k s b f t = some true := by
  simp only [furlonglaw02_BoundParts.j0]
  cases b with
  | true => rfl
  | false =>
    rw [if_neg (by decide)]
    unfold bound_Cut.f
    cases hc : cutL f.toList t.toList k.toList with
    | false =>
      rw [if_neg (by decide)]
      simp [furlonglaw02_num.f, furlonglaw02_live.f]
    | true =>
      obtain ⟨h1, h2, h3, h4, h5, h6⟩ := parts_ok hc
      have h7 := has_parts hc s.toList
      have hw : wrap64 0 = 0 := by unfold wrap64; omega
      rw [if_pos rfl]
      simp [furlonglaw02_num.f, furlonglaw02_live.f, bound_Join.f, h1, h2, h3, h4, h5, h6, bound_Check.f, bound_Meet.f, bound_Inside.f, bound_Next.f, err20_t, furlonglaw02_BoundParts.j1, bound_Has.f, h7, hw]
theorem parts_pure (f t k s : ByteArray) : furlonglaw02_BoundParts.f 2 f t k s = some true := by
  simp only [furlonglaw02_BoundParts.f, furlonglaw02_small.f, Option.bind_some, parts_j0]
  repeat' split
  all_goals rfl
theorem parts_walk {H : Type} {enc : TypeId × Value → H} (W : World) (v0 : Value) {d0 : DataW H} {p0 : List MemPlace} (o0 : ∃ cs, v0 = .agg cs) (h0 : DataW.Trod enc Try.prog W 0 (fun _ => true) true 23 v0 d0 p0) (l0 : Light Try.prog 23 d0)
    (k : ByteArray) (_hk : k.size ≤ 140737488351232) (s : ByteArray) (_hs : s.size ≤ 140737488351232) :
    Calls Try.prog 9 #[v0, .string k, .string s] W fun e w' => e = .returned (.bool true) ∧ Below W.heap.size W w' := by
  obtain ⟨f, t, rfl⟩ := open_bound o0 h0 l0
  exact furlonglaw02_BoundParts.calls 2 f t k s true W (parts_pure f t k s) rfl
end Go.Proofs.Ytocfiflcbblakaa
