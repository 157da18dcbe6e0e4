/-
  If bounds are whole each text lies in just one of them; they are still whole when one of them is cut.
-/
import Derived.Test.YtocfiflcbblakaaXOn
import Derived.Test.YtocfiflcbblakaaPB1
import Derived.Test.YtocfiflcbblakaaB10
namespace Go.Proofs.Ytocfiflcbblakaa
set_option linter.unusedVariables false
set_option linter.unusedSimpArgs false
open Go.RowKit Go.Proofs.Ytocfiflcbblakaa.XOn Go.Proofs.YtocfiflcbblakaaW.PrintWords Go.Proofs.YtocfiflcbblakaaW.PrintLast
theorem kd_bnds {w : World} {A : Option Addr} {l : List Bnd} (h : BndsAt w A l) (hl : l.length ≤ 9223372036854775807) : Kd.C k23 w A (l.map fun x => (⟨x.f, x.t⟩ : S23)).length (l.map fun x => (⟨x.f, x.t⟩ : S23)) := by
  refine ⟨rfl, by simpa using hl, fun h0 => ?_⟩
  have hne : l ≠ [] := by
    rintro rfl
    simp at h0
  obtain ⟨b, off, rfl⟩ := h.addr hne
  refine ⟨_, rfl, fun j p hj => ?_⟩
  obtain ⟨x, hx, rfl⟩ : ∃ x, l[j]? = some x ∧ (⟨x.f, x.t⟩ : S23) = p := by simpa using hj
  refine ⟨[.string x.f, .string x.t], rfl, k23_mk w _, fun i u hi => ?_⟩
  rw [add_off]
  exact h.cell b off j i x u rfl hx hi
theorem back_bnd (l : List (S23)) : (l.map toBnd).map (fun x => (⟨x.f, x.t⟩ : S23)) = l := by
  rw [List.map_map]
  exact List.map_id _
theorem wrap_in {i : Int} (h0 : 0 ≤ i) (h : i ≤ 1000) : wrap64 (i + 1) = i + 1 := by
  unfold wrap64
  omega
theorem rd_at {l : List (S23)} {i : Nat} (h : i < l.length) : rd_T23 l (i : Int) = l[i] := by unfold rd_T23; simp [h]
theorem live_t (o : Option Bool) : (furlonglaw02_live.f.bind fun t => some t) = some true := rfl
theorem drop_cons {α : Type} {l : List α} {i : Nat} (h : i < l.length) : l.drop i = l[i] :: l.drop (i + 1) := List.drop_eq_getElem_cons h
/-- Behind the first i of them: n so far, m the parts so far. -/
theorem l1_tells (l : List (S23)) (s k : ByteArray) (hl : l.length ≤ 30) : ∀ (d i K n : Nat) (m : List (S23)), i + d = l.length → 2 * d + 1 ≤ K → n ≤ i → m.length ≤ 2 * i →
    n + inHow s.toList ((l.drop i).map toBnd) = 1 → wholeFrom [] (m.map toBnd ++ cutAll k ((l.drop i).map toBnd)) = true → furlonglaw02_BoundOnce.l1 K l s k (n : Int) m (i : Int) = some true
  | 0, i, K, n, m, hi, hK, hn, hm, h1, h2 => by
    obtain ⟨K, rfl⟩ : ∃ j, K = j + 1 := ⟨K - 1, by omega⟩
    have hd : l.drop i = [] := List.drop_eq_nil_of_le (by omega)
    rw [hd] at h1 h2
    simp only [List.map_nil, inHow, cutAll, List.append_nil] at h1 h2
    simp only [furlonglaw02_BoundOnce.l1]
    rw [if_neg (by omega), if_pos (by omega)]
    unfold bound_Whole.f
    rw [if_pos (by omega), h2]
    rfl
  | d + 1, i, K, n, m, hi, hK, hn, hm, h1, h2 => by
    obtain ⟨K, rfl⟩ : ∃ j, K = j + 2 := ⟨K - 2, by omega⟩
    have hlt : i < l.length := by omega
    rw [drop_cons hlt, List.map_cons] at h1 h2
    have j3 : ∀ n' : Nat, n' ≤ i + 1 → n' + inHow s.toList ((l.drop (i + 1)).map toBnd) = 1 → furlonglaw02_BoundOnce.j3 (K + 1) l s k (n' : Int) m (i : Int) = some true := by
      intro n' hn' h1'
      simp only [furlonglaw02_BoundOnce.j3]
      rw [if_pos (by omega), if_pos (by omega), rd_at hlt]
      unfold bound_Cut.f
      rw [cutAll] at h2
      have hw : wrap64 ((i : Int) + 1) = ((i + 1 : Nat) : Int) := wrap_in (by omega) (by omega)
      cases hc : cutL l[i].f0.toList l[i].f1.toList k.toList with
      | true =>
        have hc' : cutL (toBnd l[i]).f.toList (toBnd l[i]).t.toList k.toList = true := hc
        rw [hc', if_pos rfl] at h2
        rw [if_pos rfl]
        simp only [Option.bind_some, furlonglaw02_num.f, if_true]
        rw [if_pos (by simp; omega), hw]
        refine l1_tells l s k hl d (i + 1) K n' _ (by omega) (by omega) hn' (by simp; omega) h1' ?_
        rw [List.map_append, List.append_assoc]
        exact h2
      | false =>
        have hc' : cutL (toBnd l[i]).f.toList (toBnd l[i]).t.toList k.toList = false := hc
        rw [hc', if_neg (by decide)] at h2
        rw [if_neg (by decide)]
        simp only [Option.bind_some, furlonglaw02_num.f]
        rw [if_neg (by decide), if_pos (by omega), hw]
        refine l1_tells l s k hl d (i + 1) K n' _ (by omega) (by omega) hn' (by simp; omega) h1' ?_
        rw [List.map_append, List.append_assoc]
        exact h2
    simp only [furlonglaw02_BoundOnce.l1]
    rw [if_pos (by omega), if_pos (by omega), rd_at hlt]
    simp only [bound_Has.f, Option.bind_some]
    rw [inHow] at h1
    cases hh : hasL l[i].f0.toList l[i].f1.toList s.toList with
    | true =>
      have hh' : hasL (toBnd l[i]).f.toList (toBnd l[i]).t.toList s.toList = true := hh
      rw [hh', if_pos rfl] at h1
      rw [if_pos rfl]
      have hw : wrap64 ((n : Int) + 1) = ((n + 1 : Nat) : Int) := wrap_in (by omega) (by omega)
      rw [hw]
      exact j3 (n + 1) (by omega) (by omega)
    | false =>
      have hh' : hasL (toBnd l[i]).f.toList (toBnd l[i]).t.toList s.toList = false := hh
      rw [hh', if_neg (by decide)] at h1
      rw [if_neg (by decide)]
      exact j3 n (by omega) (by omega)
theorem l0_tells (l : List (S23)) (s k : ByteArray) (hl : l.length ≤ 30) : ∀ (d i K : Nat), i + d = l.length → d + 64 ≤ K → furlonglaw02_BoundOnce.l0 K l s k (i : Int) = some true
  | 0, i, K, hi, hK => by
    obtain ⟨K, rfl⟩ : ∃ j, K = j + 1 := ⟨K - 1, by omega⟩
    simp only [furlonglaw02_BoundOnce.l0]
    rw [if_neg (by omega)]
    unfold bound_Whole.f
    rw [if_pos (by omega)]
    simp only [Option.bind_some]
    cases hw : wholeFrom [] (l.map toBnd) with
    | false =>
      rw [if_neg (by decide)]
      rfl
    | true =>
      rw [if_pos rfl]
      have h1 := whole_once s.toList _ _ hw
      rw [if_neg (List.not_lt_nil _)] at h1
      exact l1_tells l s k hl l.length 0 K 0 [] (by omega) (by omega) (by omega) (by simp) (by simpa using h1) (by simpa using whole_cut k _ _ hw)
  | d + 1, i, K, hi, hK => by
    obtain ⟨K, rfl⟩ : ∃ j, K = j + 1 := ⟨K - 1, by omega⟩
    have hlt : i < l.length := by omega
    simp only [furlonglaw02_BoundOnce.l0]
    rw [if_pos (by omega), if_pos (by omega), rd_at hlt]
    simp only [furlonglaw02_small.f, Option.bind_some]
    split
    · rw [wrap_in (by omega) (by omega)]
      exact l0_tells l s k hl d (i + 1) K (by omega) (by omega)
    · rfl
theorem j0_tells (l : List (S23)) (s k : ByteArray) (hl : l.length ≤ 30) (b : Bool) : furlonglaw02_BoundOnce.j0 100 l s k b = some true := by
  show furlonglaw02_BoundOnce.j0 (99 + 1) l s k b = some true
  simp only [furlonglaw02_BoundOnce.j0]
  cases b with
  | true => rfl
  | false =>
    rw [if_neg (by decide)]
    exact l0_tells l s k hl l.length 0 99 (by omega) (by omega)
theorem once_pure (l : List (S23)) (s k : ByteArray) : furlonglaw02_BoundOnce.f 100 l s k = some true := by
  unfold furlonglaw02_BoundOnce.f
  by_cases h : (l.length : Int) > 30
  · rw [if_pos h]
    rfl
  · rw [if_neg h]
    split
    · exact j0_tells l s k (by omega) _
    · exact j0_tells l s k (by omega) _
theorem once_walk {H : Type} {enc : TypeId × Value → H} (W : World) (v0 : Value) {d0 : DataW H} {p0 : List MemPlace} (o0 : ∃ A n c, v0 = .slice A n c) (h0 : DataW.Trod enc Try.prog W 0 (fun _ => true) true 38 v0 d0 p0) (l0 : Light Try.prog 38 d0)
    (s : ByteArray) (_hs : s.size ≤ 140737488351232) (k : ByteArray) (_hk : k.size ≤ 140737488351232) :
    Calls Try.prog 6 #[v0, .string s, .string k] W fun e w' => e = .returned (.bool true) ∧ Below W.heap.size W w' := by
  obtain ⟨A, l, c, rfl, hc, hl, _, hA⟩ := open_bnds o0 h0 l0
  have hK := kd_bnds hA (by omega)
  have := furlonglaw02_BoundOnce.calls 100 A c _ s k true W hK (by simpa using hc) (once_pure _ s k)
  rw [List.length_map] at this
  exact this
end Go.Proofs.Ytocfiflcbblakaa
