/-
  Of every key: its level, its places in the directory are as the document says.
-/
import Derived.Test.YtocfiflcbblakaaXMt
import Derived.Test.YtocfiflcbblakaaPB1
namespace Go.Proofs.Ytocfiflcbblakaa.Pure
set_option linter.unusedVariables false
set_option linter.unusedSimpArgs false
open Go.RowKit Go.Proofs.Ytocfiflcbblakaa.XMt Go.Proofs.YtocfiflcbblakaaW.PrintWords Go.Proofs.YtocfiflcbblakaaW.PrintLast
theorem l0_1 : furlongref02_Meta.l0 38 ⟨#[1]⟩ 0 = some ((⟨#[1]⟩ : ByteArray) ++ ff31) := by kernel_rfl
theorem l0_2 : furlongref02_Meta.l0 38 ⟨#[2]⟩ 0 = some ((⟨#[2]⟩ : ByteArray) ++ ff31) := by kernel_rfl
theorem ref_meta (l : Int) (k : ByteArray) (hk : k.size ≤ 2000) : furlongref02_Meta.f 40 l k = some (metaL l k) := by
  have s1 : (⟨#[1]⟩ : ByteArray).size = 1 := rfl
  have s2 : (⟨#[2]⟩ : ByteArray).size = 1 := rfl
  unfold furlongref02_Meta.f metaL
  by_cases h1 : l = 1
  · subst h1
    rw [if_pos rfl, if_neg (by decide), if_pos rfl]
    show furlongref02_Meta.j0 (39 + 1) 1 k false = _
    simp only [furlongref02_Meta.j0]
    rw [if_neg (by decide), if_neg (by decide)]
    show furlongref02_Meta.j1 (38 + 1) k _ = _
    simp only [furlongref02_Meta.j1]
    by_cases e : k.toList = []
    · rw [if_pos e, if_pos e]
      exact l0_1
    · rw [if_neg e, if_neg e, if_pos (by omega)]
  · rw [if_neg h1]
    by_cases h2 : l = 2
    · subst h2
      rw [if_neg (by decide), if_neg (by decide)]
      show furlongref02_Meta.j0 (39 + 1) 2 k false = _
      simp only [furlongref02_Meta.j0]
      rw [if_neg (by decide), if_pos trivial]
      show furlongref02_Meta.j1 (38 + 1) k _ = _
      simp only [furlongref02_Meta.j1]
      by_cases e : k.toList = []
      · rw [if_pos e, if_pos e]
        exact l0_2
      · rw [if_neg e, if_neg e, if_pos (by omega)]
    · rw [if_pos (by omega)]
      have : (l != 2) = true := by simpa using h2
      rw [this]
      show furlongref02_Meta.j0 (39 + 1) l k true = _
      simp only [furlongref02_Meta.j0, if_true]
theorem ref_search (l : Int) (k : ByteArray) (hk : k.size ≤ 2000) : furlongref02_Search.f 40 l k = some (searchF l k, searchT l) := by
  unfold furlongref02_Search.f searchF searchT
  by_cases h1 : l = 1
  · subst h1
    rw [if_pos rfl, ref_meta 1 k hk]
    have := meta_size (l := 1) (.inl rfl) hk
    simp only [Option.bind_some]
    rw [if_pos (by omega)]
    rfl
  · rw [if_neg h1]
    by_cases h2 : l = 2
    · subst h2
      rw [if_pos rfl, ref_meta 2 k hk]
      have := meta_size (l := 2) (.inr rfl) hk
      simp only [Option.bind_some]
      rw [if_pos (by omega)]
      rfl
    · rw [if_neg h2, if_pos (by omega), if_pos (by omega)]
theorem BoundMeta : furlonglaw02_BoundMeta.Pure := by
  intro l k _ _
  refine ⟨40, ?_⟩
  unfold furlonglaw02_BoundMeta.f
  by_cases h : (k.size : Int) > 2000
  · rw [if_pos h]
    rfl
  · have hk : k.size ≤ 2000 := by omega
    rw [if_neg h, ref_meta l k hk, ref_search l k hk]
    unfold bound_Level.f furlongref02_Level.f bound_Meta.f bound_Search.f furlonglaw02_live.f
    simp [hk]
end Go.Proofs.Ytocfiflcbblakaa.Pure
