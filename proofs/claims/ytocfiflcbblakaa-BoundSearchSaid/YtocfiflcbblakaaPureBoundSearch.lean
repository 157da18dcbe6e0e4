/-
  What ends behind a key is found where it is searched; what ends at it, or ahead of it, is not.
-/
import Derived.Test.YtocfiflcbblakaaXSr
import Derived.Test.YtocfiflcbblakaaPB1
namespace Go.Proofs.Ytocfiflcbblakaa.Pure
set_option linter.unusedVariables false
set_option linter.unusedSimpArgs false
open Go.RowKit Go.Proofs.Ytocfiflcbblakaa.XSr Go.Proofs.YtocfiflcbblakaaW.PrintWords Go.Proofs.YtocfiflcbblakaaW.PrintLast
theorem j0_t (k : Nat) (a : Int) (b c : ByteArray) : furlonglaw02_BoundSearch.j0 (k + 1) a b c true = some true := by
  simp [furlonglaw02_BoundSearch.j0, furlonglaw02_live.f]
theorem j0_f (a : Int) (b c : ByteArray) (ha : a = 1 ∨ a = 2) (hb : b.size ≤ 30) (hc : c.size ≤ 30) : furlonglaw02_BoundSearch.j0 2 a b c (b.toList == ([] : List UInt8)) = some true := by
  by_cases e : b.toList = []
  · rw [e]
    exact j0_t 1 a b c
  · have e1 : (b.toList == ([] : List UInt8)) = false := beq_eq_false_iff_ne.mpr e
    obtain ⟨h1, h2, h3, h4⟩ := search_law ha hb hc e
    rw [e1]
    simp only [furlonglaw02_BoundSearch.j0, furlonglaw02_BoundSearch.j1, bound_Search.f, bound_Meta.f, bound_Check.f, furlonglaw02_num.f, bound_Key.f, bound_Level.f, bound_Has.f, furlonglaw02_live.f, Option.bind_some, if_pos (show b.size ≤ 2000 by omega), if_pos (show c.size ≤ 2000 by omega), h1, h2, h3, h4, err20_t, if_true]
    have e2 : (a != a) = false := bne_self_eq_false a
    rw [e2, if_neg (by decide)]
    by_cases e3 : c.toList = []
    · simp [e3]
    · simp [e3, bytesLess_lt]
theorem BoundSearch : furlonglaw02_BoundSearch.Pure := by
  intro a b c _ _ _
  refine ⟨2, ?_⟩
  unfold furlonglaw02_BoundSearch.f
  by_cases h1 : a = 1
  · rw [if_pos h1]
    by_cases hb : (b.size : Int) > 30
    · rw [if_pos hb]; exact j0_t 1 a b c
    · by_cases hc : (c.size : Int) > 30
      · rw [if_neg hb, if_pos hc]; exact j0_t 1 a b c
      · rw [if_neg hb, if_neg hc]; exact j0_f a b c (.inl h1) (by omega) (by omega)
  · rw [if_neg h1]
    by_cases h2 : a = 2
    · rw [if_pos h2]
      by_cases hb : (b.size : Int) > 30
      · rw [if_pos hb]; exact j0_t 1 a b c
      · by_cases hc : (c.size : Int) > 30
        · rw [if_neg hb, if_pos hc]; exact j0_t 1 a b c
        · rw [if_neg hb, if_neg hc]; exact j0_f a b c (.inr h2) (by omega) (by omega)
    · rw [if_neg h2]; exact j0_t 1 a b c
end Go.Proofs.Ytocfiflcbblakaa.Pure
