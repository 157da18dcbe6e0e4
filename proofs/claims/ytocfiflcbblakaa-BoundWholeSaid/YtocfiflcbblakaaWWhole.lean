/-
  Every bounds: whether they are all, one behind the other, as the document says.
-/
import Derived.Test.YtocfiflcbblakaaXWh
import Derived.Test.YtocfiflcbblakaaPB1
import Derived.Test.YtocfiflcbblakaaB10
namespace Go.Proofs.Ytocfiflcbblakaa
set_option linter.unusedVariables false
set_option linter.unusedSimpArgs false
open Go.RowKit Go.Proofs.Ytocfiflcbblakaa.XWh Go.Proofs.YtocfiflcbblakaaW.PrintWords Go.Proofs.YtocfiflcbblakaaW.PrintLast
theorem kd_bnds {w : World} {A : Option Addr} {l : List Bnd} (h : BndsAt w A l) (hl : l.length ≤ 9223372036854775807) : Kd.C k23 w A (l.map fun x => (⟨x.f, x.t⟩ : S23)).length (l.map fun x => (⟨x.f, x.t⟩ : S23)) := by
  refine ⟨rfl, by simpa using hl, fun h0 => ?_⟩
  have hne : l ≠ [] := by
    rintro rfl
    simp at h0
  obtain ⟨b, off, rfl⟩ := h.addr hne
  refine ⟨_, rfl, fun j p hj => ?_⟩
  obtain ⟨x, hx, rfl⟩ : ∃ x, l[j]? = some x ∧ (⟨x.f, x.t⟩ : S23) = p := by simpa using hj
  refine ⟨[.string x.f, .string x.t], rfl, k23_mk w _, fun i u hi => ?_⟩
  rw [add_off]
  exact h.cell b off j i x u rfl hx hi
theorem wrap_in {i : Int} (h0 : 0 ≤ i) (h : i ≤ 1000) : wrap64 (i + 1) = i + 1 := by
  unfold wrap64
  omega
theorem wrap_de {i : Int} (h0 : 0 ≤ i) (h : i ≤ 1000) : wrap64 (i - 1) = i - 1 := by
  unfold wrap64
  omega
theorem rd_at {l : List (S23)} {i : Nat} (h : i < l.length) : rd_T23 l (i : Int) = l[i] := by unfold rd_T23; simp [h]
theorem drop_cons {α : Type} {l : List α} {i : Nat} (h : i < l.length) : l.drop i = l[i] :: l.drop (i + 1) := List.drop_eq_getElem_cons h
/-- The document's loop: each may be, and stands behind the one ahead of it. -/
def chain : Option Bnd → List Bnd → Bool
  | _, [] => true
  | p, a :: r => okL a.f.toList a.t.toList && (match p with | none => true | some q => nextL q.f.toList q.t.toList a.f.toList a.t.toList) && chain (some a) r
def lastT : List Bnd → Bs
  | [] => []
  | [a] => a.t.toList
  | _ :: b :: r => lastT (b :: r)
theorem chain_whole : ∀ (r : List Bnd) (a : Bnd) (at_ : Bs), (okL a.f.toList a.t.toList && (a.f.toList == at_) && (lastT (a :: r)).isEmpty && chain (some a) r) = wholeFrom at_ (a :: r)
  | [], a, at_ => by
    unfold lastT chain wholeFrom wholeFrom
    cases okL a.f.toList a.t.toList <;> cases a.f.toList == at_ <;> cases a.t.toList.isEmpty <;> rfl
  | b :: r, a, at_ => by
    have ih := chain_whole r b a.t.toList
    unfold lastT chain wholeFrom
    simp only
    have hn : nextL a.f.toList a.t.toList b.f.toList b.t.toList = (okL a.f.toList a.t.toList && okL b.f.toList b.t.toList && !a.t.toList.isEmpty && (b.f.toList == a.t.toList)) := by
      unfold nextL
      congr 1
      rw [Bool.eq_iff_iff]
      simp only [beq_iff_eq]
      exact ⟨Eq.symm, Eq.symm⟩
    rw [hn, ← ih]
    cases okL a.f.toList a.t.toList <;> cases a.f.toList == at_ <;> cases a.t.toList.isEmpty <;> cases okL b.f.toList b.t.toList <;> cases b.f.toList == a.t.toList <;> cases (lastT (b :: r)).isEmpty <;> simp
theorem last_at : ∀ (l : List (S23)), l ≠ [] → lastT (l.map toBnd) = (l.getD (l.length - 1) z23).f1.toList
  | [], h => absurd rfl h
  | [a], _ => rfl
  | a :: b :: r, _ => by
    have := last_at (b :: r) (by simp)
    simp only [List.map_cons, lastT] at this ⊢
    rw [this]
    rfl
theorem ref_l0 (l : List (S23)) (hl : l.length ≤ 30) : ∀ (d i K : Nat) (p : Option Bnd), i + d = l.length → d + 1 ≤ K → (i = 0 → p = none) → (∀ j, i = j + 1 → p = (l[j]?).map toBnd) →
    furlongref02_Whole.l0 K l (i : Int) = some (chain p ((l.drop i).map toBnd))
  | 0, i, K, p, hi, hK, _, _ => by
    obtain ⟨K, rfl⟩ : ∃ j, K = j + 1 := ⟨K - 1, by omega⟩
    rw [List.drop_eq_nil_of_le (by omega)]
    simp only [furlongref02_Whole.l0]
    rw [if_neg (by omega)]
    rfl
  | d + 1, i, K, p, hi, hK, h0, h1 => by
    obtain ⟨K, rfl⟩ : ∃ j, K = j + 1 := ⟨K - 1, by omega⟩
    have hlt : i < l.length := by omega
    have ih := ref_l0 l hl d (i + 1) K (some (toBnd l[i])) (by omega) (by omega) (by omega) (fun j hj => by
      have : j = i := by omega
      subst this
      rw [List.getElem?_eq_getElem hlt]
      rfl)
    rw [drop_cons hlt, List.map_cons]
    simp only [furlongref02_Whole.l0, chain]
    rw [if_pos (by omega), if_pos (by omega), rd_at hlt, wrap_in (by omega) (by omega)]
    unfold furlongref02_Is.f furlongref02_Next.f
    simp only [Option.bind_some]
    have eI : okL (toBnd l[i]).f.toList (toBnd l[i]).t.toList = okL l[i].f0.toList l[i].f1.toList := rfl
    rw [eI]
    cases hO : okL l[i].f0.toList l[i].f1.toList with
    | false => rfl
    | true =>
      rw [if_pos rfl]
      cases i with
      | zero =>
        rw [h0 rfl, if_neg (by omega)]
        exact ih
      | succ j =>
        have hj : j < l.length := by omega
        have hp : p = some (toBnd l[j]) := by
          rw [h1 j rfl, List.getElem?_eq_getElem hj]
          rfl
        have hw : wrap64 (((j + 1 : Nat) : Int) - 1) = (j : Int) := by rw [wrap_de (by omega) (by omega)]; omega
        rw [if_pos (by omega), hw, if_pos (by omega), if_pos (by omega), rd_at hj, hp]
        have eN : nextL (toBnd l[j]).f.toList (toBnd l[j]).t.toList (toBnd l[j + 1]).f.toList (toBnd l[j + 1]).t.toList = nextL l[j].f0.toList l[j].f1.toList l[j + 1].f0.toList l[j + 1].f1.toList := rfl
        show (if nextL l[j].f0.toList l[j].f1.toList l[j + 1].f0.toList l[j + 1].f1.toList = true then _ else _) = _
        simp only [eN]
        cases nextL l[j].f0.toList l[j].f1.toList l[j + 1].f0.toList l[j + 1].f1.toList with
        | false => rfl
        | true =>
          rw [if_pos rfl]
          exact ih
theorem ref_whole (l : List (S23)) (hl : l.length ≤ 30) (K : Nat) (hK : 40 ≤ K) : furlongref02_Whole.f K l = some (wholeFrom [] (l.map toBnd)) := by
  obtain ⟨K, rfl⟩ : ∃ j, K = j + 1 := ⟨K - 1, by omega⟩
  unfold furlongref02_Whole.f
  cases l with
  | nil =>
    rw [if_pos (by simp)]
    simp [furlongref02_Whole.j0, wholeFrom]
  | cons a r =>
    have hn : ((a :: r).length : Int) - 1 = (((a :: r).length - 1 : Nat) : Int) := by simp
    rw [if_neg (by simp only [List.length_cons]; omega), if_pos (by simp only [List.length_cons]; omega)]
    have h0 : rd_T23 (a :: r) 0 = a := rfl
    rw [h0]
    have hw := chain_whole (r.map toBnd) (toBnd a) []
    by_cases e : a.f0.toList = []
    · have hd : wrap64 (((a :: r).length : Int) - 1) = (((a :: r).length - 1 : Nat) : Int) := by rw [hn]; unfold wrap64; omega
      rw [if_pos e, hd, if_pos (by omega), if_pos (by simp only [List.length_cons]; omega)]
      have hlast : (rd_T23 (a :: r) (((a :: r).length - 1 : Nat) : Int)).f1.toList = lastT ((a :: r).map toBnd) := by
        rw [last_at _ (by simp)]
        unfold rd_T23
        simp
      rw [hlast]
      simp only [furlongref02_Whole.j0]
      rw [List.map_cons, ← hw]
      have e2 : (toBnd a).f.toList = [] := e
      have hl0 := ref_l0 (a :: r) hl (a :: r).length 0 K none (by omega) (by omega) (fun _ => rfl) (fun j hj => by omega)
      cases hE : (lastT (toBnd a :: r.map toBnd)).isEmpty with
      | false =>
        have : (lastT (toBnd a :: r.map toBnd) != []) = true := by
          have h : lastT (toBnd a :: r.map toBnd) ≠ [] := by simpa using hE
          simpa using h
        rw [this, if_pos rfl]
        simp
      | true =>
        have : (lastT (toBnd a :: r.map toBnd) != []) = false := by
          have h : lastT (toBnd a :: r.map toBnd) = [] := by simpa using hE
          rw [h]
          rfl
        rw [this, if_neg (by decide)]
        refine hl0.trans ?_
        rw [e2]
        simp [chain, e2]
    · rw [if_neg e]
      simp only [furlongref02_Whole.j0, if_true]
      rw [List.map_cons, ← hw]
      have : ((toBnd a).f.toList == ([] : Bs)) = false := beq_eq_false_iff_ne.mpr e
      rw [this]
      simp
theorem whole_l0 (l : List (S23)) (hl : l.length ≤ 30) : ∀ (d i K : Nat), i + d = l.length → d + 41 ≤ K → furlonglaw02_BoundWhole.l0 K l (i : Int) = some true
  | 0, i, K, hi, hK => by
    obtain ⟨K, rfl⟩ : ∃ j, K = j + 1 := ⟨K - 1, by omega⟩
    simp only [furlonglaw02_BoundWhole.l0]
    rw [if_neg (by omega)]
    simp only [Option.bind_some, List.nil_append, List.length_nil, Nat.zero_add]
    rw [if_pos (by omega), ref_whole l hl K (by omega)]
    unfold bound_Whole.f
    rw [if_pos (by omega)]
    simp [furlonglaw02_live.f]
  | d + 1, i, K, hi, hK => by
    obtain ⟨K, rfl⟩ : ∃ j, K = j + 1 := ⟨K - 1, by omega⟩
    have hlt : i < l.length := by omega
    simp only [furlonglaw02_BoundWhole.l0]
    rw [if_pos (by omega), if_pos (by omega), rd_at hlt]
    simp only [furlonglaw02_small.f, Option.bind_some]
    split
    · rw [wrap_in (by omega) (by omega)]
      exact whole_l0 l hl d (i + 1) K (by omega) (by omega)
    · rfl
theorem whole_pure (l : List (S23)) : furlonglaw02_BoundWhole.f 80 l = some true := by
  unfold furlonglaw02_BoundWhole.f
  by_cases h : (l.length : Int) > 30
  · rw [if_pos h]
    rfl
  · rw [if_neg h]
    exact whole_l0 l (by omega) l.length 0 80 (by omega) (by omega)
theorem whole_walk {H : Type} {enc : TypeId × Value → H} (W : World) (v0 : Value) {d0 : DataW H} {p0 : List MemPlace} (o0 : ∃ A n c, v0 = .slice A n c) (h0 : DataW.Trod enc Try.prog W 0 (fun _ => true) true 38 v0 d0 p0) (l0 : Light Try.prog 38 d0) :
    Calls Try.prog 4 #[v0] W fun e w' => e = .returned (.bool true) ∧ Below W.heap.size W w' := by
  obtain ⟨A, l, c, rfl, hc, hl, _, hA⟩ := open_bnds o0 h0 l0
  have hK := kd_bnds hA (by omega)
  have := furlonglaw02_BoundWhole.calls 80 A c _ true W hK (by simpa using hc) (whole_pure _) rfl
  rw [List.length_map] at this
  exact this
end Go.Proofs.Ytocfiflcbblakaa
