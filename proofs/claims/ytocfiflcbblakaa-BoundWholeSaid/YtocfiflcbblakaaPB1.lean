/-
  The plain laws of bounds: what Whole tells, a cut of what is whole, where a key's place in the directory stands. No program in sight.
-/
import Derived.Test.YtocfiflcbblakaaB7
import Derived.Test.YtocfiflcbblakaaB12
namespace Go.Proofs.Ytocfiflcbblakaa
set_option linter.unusedVariables false
set_option linter.unusedSimpArgs false
open Go.RowKit
theorem err20_beq (b : Bool) : (err20 b == 0) = b := by cases b <;> rfl
/-- In how many bounds a text lies. -/
def inHow (s : Bs) : List Bnd → Nat
  | [] => 0
  | a :: r => (if hasL a.f.toList a.t.toList s then 1 else 0) + inHow s r
def cutAll (k : ByteArray) : List Bnd → List Bnd
  | [] => []
  | a :: r => (if cutL a.f.toList a.t.toList k.toList then [⟨a.f, k⟩, ⟨k, a.t⟩] else [a]) ++ cutAll k r
theorem whole_cons {at_ : Bs} {a : Bnd} {r : List Bnd} (h : wholeFrom at_ (a :: r) = true) :
    okL a.f.toList a.t.toList = true ∧ a.f.toList = at_ ∧ ((a.t.toList = [] ∧ r = []) ∨ (a.t.toList ≠ [] ∧ wholeFrom a.t.toList r = true)) := by
  unfold wholeFrom at h
  split at h
  · rename_i h1
    simp only [Bool.and_eq_true, beq_iff_eq] at h1
    refine ⟨h1.1, h1.2, ?_⟩
    split at h
    · rename_i h2
      exact .inl ⟨by simpa using h2, by simpa using h⟩
    · rename_i h2
      exact .inr ⟨by simpa using h2, h⟩
  · cases h
theorem ok_lt {f t : Bs} (h : okL f t = true) (ht : t ≠ []) : f < t := by
  unfold okL at h
  simp only [Bool.and_eq_true, Bool.or_eq_true, decide_eq_true_eq, List.isEmpty_iff] at h
  rcases h.2 with h | h
  · exact absurd h ht
  · exact h
theorem not_lt_le {x y : Bs} (h : ¬ x < y) : y < x ∨ y = x := by
  rcases ord_tri x y with k | k | k
  · exact absurd k h
  · exact .inr k.symm
  · exact .inl k
theorem whole_once (s : Bs) : ∀ (l : List Bnd) (at_ : Bs), wholeFrom at_ l = true → inHow s l = if s < at_ then 0 else 1
  | [], _, h => by cases h
  | a :: r, at_, h => by
    obtain ⟨h1, rfl, h3⟩ := whole_cons h
    unfold inHow
    rcases h3 with ⟨ht, rfl⟩ | ⟨ht, hr⟩
    · unfold inHow hasL endsL
      rw [ht]
      by_cases hs : s < a.f.toList <;> simp [hs]
    · have hlt := ok_lt h1 ht
      rw [whole_once s r _ hr]
      unfold hasL endsL
      have he : a.t.toList.isEmpty = false := by simpa using ht
      rw [he]
      by_cases hs : s < a.f.toList
      · have := ord_trans hs hlt
        simp [hs, this]
      · by_cases hs2 : s < a.t.toList <;> simp [hs, hs2]
theorem cut_parts {f t k : Bs} (h : cutL f t k = true) : okL f t = true ∧ (1 ≤ k.length ∧ k.length ≤ 32) ∧ f < k ∧ (t = [] ∨ k < t) := by
  unfold cutL keyL endsL at h
  simp only [Bool.and_eq_true, Bool.or_eq_true, decide_eq_true_eq, List.isEmpty_iff] at h
  exact ⟨h.1.1.1, h.1.1.2, h.1.2, h.2⟩
theorem ok_mk {f t : Bs} (h1 : f.length ≤ 33) (h2 : t.length ≤ 33) (h3 : t = [] ∨ f < t) : okL f t = true := by
  unfold okL
  simp only [Bool.and_eq_true, Bool.or_eq_true, decide_eq_true_eq, List.isEmpty_iff]
  exact ⟨⟨h1, h2⟩, h3⟩
theorem ok_len {f t : Bs} (h : okL f t = true) : f.length ≤ 33 ∧ t.length ≤ 33 ∧ (t = [] ∨ f < t) := by
  unfold okL at h
  simp only [Bool.and_eq_true, Bool.or_eq_true, decide_eq_true_eq, List.isEmpty_iff] at h
  exact ⟨h.1.1, h.1.2, h.2⟩
theorem whole_mk {at_ : Bs} {a : Bnd} {r : List Bnd} (h1 : okL a.f.toList a.t.toList = true) (h2 : a.f.toList = at_) (h3 : (a.t.toList = [] ∧ r = []) ∨ (a.t.toList ≠ [] ∧ wholeFrom a.t.toList r = true)) : wholeFrom at_ (a :: r) = true := by
  unfold wholeFrom
  rw [h1, h2]
  simp only [beq_self_eq_true, Bool.and_self, if_true]
  rcases h3 with ⟨ht, rfl⟩ | ⟨ht, hr⟩
  · rw [ht]
    rfl
  · rw [if_neg (by simpa using ht)]
    exact hr
theorem whole_cut (k : ByteArray) : ∀ (l : List Bnd) (at_ : Bs), wholeFrom at_ l = true → wholeFrom at_ (cutAll k l) = true
  | [], _, h => by cases h
  | a :: r, at_, h => by
    obtain ⟨h1, h2, h3⟩ := whole_cons h
    have hr : (a.t.toList = [] ∧ cutAll k r = []) ∨ (a.t.toList ≠ [] ∧ wholeFrom a.t.toList (cutAll k r) = true) := by
      rcases h3 with ⟨ht, rfl⟩ | ⟨ht, hr⟩
      · exact .inl ⟨ht, rfl⟩
      · exact .inr ⟨ht, whole_cut k r _ hr⟩
    unfold cutAll
    cases hc : cutL a.f.toList a.t.toList k.toList with
    | true =>
      obtain ⟨_, hk, hf, ht⟩ := cut_parts hc
      obtain ⟨l1, l2, _⟩ := ok_len h1
      have hne : k.toList ≠ [] := by
        intro e
        rw [e] at hk
        simp at hk
      rw [if_pos rfl]
      refine whole_mk (ok_mk l1 (by show k.toList.length ≤ 33; omega) (.inr hf)) h2 (.inr ⟨hne, ?_⟩)
      exact whole_mk (ok_mk (by show k.toList.length ≤ 33; omega) l2 ht) rfl hr
    | false =>
      rw [if_neg (by decide)]
      exact whole_mk h1 h2 hr
theorem lt_ff : ∀ (k : Bs) (n : Nat), k.length < n → k < List.replicate n 255
  | [], n + 1, _ => by
    rw [List.replicate_succ]
    exact List.nil_lt_cons _ _
  | x :: k, n + 1, h => by
    rw [List.replicate_succ, List.cons_lt_cons_iff]
    have hx : x.toNat < 256 := x.toNat_lt
    by_cases e : x = 255
    · exact .inr ⟨e, lt_ff k n (by simpa using h)⟩
    · refine .inl ?_
      rw [UInt8.lt_iff_toNat_lt]
      have : x.toNat ≠ (255 : UInt8).toNat := fun e2 => e (UInt8.toNat_inj.1 e2)
      have h255 : (255 : UInt8).toNat = 255 := rfl
      omega
  | _, 0, h => absurd h (by omega)
theorem ff31_list : ff31.toList = List.replicate 31 255 := by rw [ByteArray.toList_eq]; rfl
theorem lt_snoc0 : ∀ (x k : Bs), (x < k ++ [0]) ↔ ¬ k < x
  | [], k => by
    constructor
    · intro _
      exact List.not_lt_nil _
    · intro _
      cases k with
      | nil => exact List.nil_lt_cons _ _
      | cons a k => exact List.nil_lt_cons _ _
  | a :: x, [] => by
    constructor
    · intro h
      rw [List.nil_append, List.cons_lt_cons_iff] at h
      rcases h with h | ⟨_, h⟩
      · exact absurd h (by rw [UInt8.lt_iff_toNat_lt]; exact Nat.not_lt_zero _)
      · exact absurd h (List.not_lt_nil _)
    · intro h
      exact absurd (List.nil_lt_cons _ _) h
  | a :: x, b :: k => by
    rw [List.cons_append, List.cons_lt_cons_iff, List.cons_lt_cons_iff, lt_snoc0 x k]
    have tri : a < b ∨ a = b ∨ b < a := by
      rw [UInt8.lt_iff_toNat_lt, UInt8.lt_iff_toNat_lt, ← UInt8.toNat_inj]
      omega
    have irr : ∀ u v : UInt8, u < v → ¬ v < u := by
      intro u v
      rw [UInt8.lt_iff_toNat_lt, UInt8.lt_iff_toNat_lt]
      omega
    rcases tri with h | rfl | h
    · have h2 := irr _ _ h
      have h3 : b ≠ a := by
        rintro rfl
        exact irr _ _ h h
      simp [h, h2, h3]
    · have h2 : ¬ a < a := fun h => irr _ _ h h
      simp [h2]
    · have h2 := irr _ _ h
      have h3 : a ≠ b := by
        rintro rfl
        exact irr _ _ h h
      simp [h, h2, h3]
theorem toList_app (x y : ByteArray) : (x ++ y).toList = x.toList ++ y.toList := by
  rw [ByteArray.toList_eq, ByteArray.toList_eq, ByteArray.toList_eq, ByteArray.data_append, Array.toList_append]
theorem cons_lt (x : UInt8) (a b : Bs) : (x :: a < x :: b) ↔ a < b := by
  rw [List.cons_lt_cons_iff]
  have : ¬ x < x := by rw [UInt8.lt_iff_toNat_lt]; omega
  simp [this]
/-- What ends behind a key is found where it is searched; what ends at it, or ahead of it, is not. -/
theorem search_law {l : Int} (hl : l = 1 ∨ l = 2) {k tq : ByteArray} (hk : k.size ≤ 30) (ht : tq.size ≤ 30) (hne : k.toList ≠ []) :
    okL (searchF l k).toList (searchT l).toList = true ∧ keyL (metaL l tq).toList = true ∧ levelL (metaL l tq).toList = l ∧
      hasL (searchF l k).toList (searchT l).toList (metaL l tq).toList = (tq.toList.isEmpty || decide (k.toList < tq.toList)) := by
  obtain ⟨x, y, hx, hm, hT, hxy, hx1⟩ : ∃ (x y : UInt8), levelB x = l ∧ (∀ z, (metaL l z).toList = x :: (if z.toList = [] then ff31.toList else z.toList)) ∧ (searchT l).toList = [y] ∧ x < y ∧ (searchF l k) = metaL l k ++ ⟨#[0]⟩ := by
    rcases hl with rfl | rfl
    · refine ⟨1, 2, rfl, fun z => ?_, ?_, by decide, rfl⟩
      · unfold metaL
        rw [if_neg (by decide), if_pos rfl, toList_app]
        have : (⟨#[1]⟩ : ByteArray).toList = [1] := by rw [ByteArray.toList_eq]
        rw [this]
        split <;> rfl
      · show (⟨#[2]⟩ : ByteArray).toList = [2]
        rw [ByteArray.toList_eq]
    · refine ⟨2, 3, rfl, fun z => ?_, ?_, by decide, rfl⟩
      · unfold metaL
        rw [if_neg (by decide), if_neg (by decide), toList_app]
        have : (⟨#[2]⟩ : ByteArray).toList = [2] := by rw [ByteArray.toList_eq]
        rw [this]
        split <;> rfl
      · show (⟨#[3]⟩ : ByteArray).toList = [3]
        rw [ByteArray.toList_eq]
  have h0 : (⟨#[0]⟩ : ByteArray).toList = [0] := by rw [ByteArray.toList_eq]
  have hF : (searchF l k).toList = x :: (k.toList ++ [0]) := by
    rw [hx1, toList_app, hm k, if_neg hne, h0]
    rfl
  have sk := size_toList k
  have st := size_toList tq
  have lff : ff31.toList.length = 31 := by rw [ff31_list]; rfl
  rw [hF, hT, hm tq]
  refine ⟨ok_mk (by simp; omega) (by simp) (.inr (by rw [List.cons_lt_cons_iff]; exact .inl hxy)), ?_, hx, ?_⟩
  · unfold keyL
    simp only [Bool.and_eq_true, decide_eq_true_eq, List.length_cons]
    split <;> omega
  · unfold hasL endsL
    have e1 : ([y] : Bs).isEmpty = false := rfl
    have e2 : ∀ z : Bs, (x :: z < [y]) := fun z => by rw [List.cons_lt_cons_iff]; exact .inl hxy
    rw [e1, decide_eq_true (e2 _), Bool.false_or, Bool.and_true]
    have e3 : ∀ z : Bs, (!decide (x :: z < x :: (k.toList ++ [0]))) = decide (k.toList < z) := by
      intro z
      rw [Bool.eq_iff_iff]
      simp only [Bool.not_eq_true', decide_eq_false_iff_not, decide_eq_true_eq, cons_lt, lt_snoc0, Classical.not_not]
    rw [e3]
    by_cases e : tq.toList = []
    · rw [if_pos e, e]
      have := lt_ff k.toList 31 (by omega)
      rw [← ff31_list] at this
      simp [this]
    · rw [if_neg e]
      have : tq.toList.isEmpty = false := by simpa using e
      rw [this, Bool.false_or]
end Go.Proofs.Ytocfiflcbblakaa
