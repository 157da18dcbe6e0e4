-- Printed by xprint.py of the repo (the kit's print with given contracts). Not trusted: Lean checks it.
import Derived.Test.YtocfiflcbblakaaXWh0
namespace Go.Proofs.Ytocfiflcbblakaa.XWh
open Go.RowKit Go.Proofs.YtocfiflcbblakaaW.PrintWords Go.Proofs.YtocfiflcbblakaaW.PrintLast Go.Proofs.YtocfiflcbblakaaW.PrintMore
attribute [local go_sem] max2_int min2_int max_two min_two max_three min_three max_four min_four   -- for this text's walks alone
attribute [local go_sem] bytes_gt
set_option linter.unusedVariables false
set_option linter.unusedSimpArgs false

/-! ### furlonglaw02_small: function 11: given -/
def furlonglaw02_small.f (a0_0 : ByteArray) (a0_1 : ByteArray) : Option (Bool) := some (decide ((a0_0.size : Int) ≤ 2000) && decide ((a0_1.size : Int) ≤ 2000))
theorem furlonglaw02_small.calls (a0_0 : ByteArray) (a0_1 : ByteArray) (r : Bool) (w : World) (h : furlonglaw02_small.f a0_0 a0_1 = some r) :
    Calls Try.prog 11 #[.agg #[.string a0_0, .string a0_1]] w fun e w' => e = .returned (.bool r) ∧ Below w.heap.size w w' := by
  obtain rfl := Option.some.inj h
  exact small_any a0_0 a0_1 w


/-! ### furlonglaw02_live: function 12: given -/
def furlonglaw02_live.f : Option (Bool) := some true
theorem furlonglaw02_live.calls (r : Bool) (w : World) (h : furlonglaw02_live.f = some r) :
    Calls Try.prog 12 #[] w fun e w' => e = .returned (.bool r) ∧ Below w.heap.size w w' := by
  obtain rfl := Option.some.inj h
  exact live_any w


/-! ### bound_Whole: function 20: given -/
def toBnd (x : S23) : Bnd := ⟨x.f0, x.f1⟩
def bound_Whole.f (l0 : List (S23)) : Option (Bool) := if l0.length ≤ 140737488351232 then some (wholeFrom [] (l0.map toBnd)) else none
theorem bnds_at {w : World} {A : Option Addr} {l : List (S23)} (h : Kd.C k23 w A l.length l) : BndsAt w A (l.map toBnd) := by
  have two := fun i h0 h1 => at_T23 h i h0 h1
  refine ⟨fun hne => ?_, ?_⟩
  · have h0 : 0 < l.length := by
      rcases Nat.eq_zero_or_pos l.length with h0 | h0
      · have : l = [] := List.length_eq_zero_iff.1 h0
        subst this
        exact absurd rfl hne
      · exact h0
    obtain ⟨ad, rfl, c0, c1⟩ := two 0 (by omega) (by omega)
    have ha := plain_addr (a := ad.add ((0 : Int).toNat * 2)) (by rw [c0])
    have h00 : ad.add ((0 : Int).toNat * 2) = ad := by unfold Addr.add; simp
    rw [h00] at ha
    exact ⟨ad.block, ad.off, by rw [← ha]⟩
  · intro b off i j a v hA hi hj
    obtain ⟨x, hx, rfl⟩ : ∃ x, l[i]? = some x ∧ toBnd x = a := by simpa using hi
    obtain ⟨hil, rfl⟩ := List.getElem?_eq_some_iff.1 hx
    obtain ⟨ad, hA2, c0, c1⟩ := two i (by omega) (by omega)
    rw [hA] at hA2
    injection hA2 with hA2
    subst hA2
    have hrd : rd_T23 l (i : Int) = l[i] := by unfold rd_T23; simp [hil]
    rw [hrd, Int.toNat_natCast, add_off] at c0 c1
    have c0' : w.cell? ⟨b, off + (i * 2 + 0), none⟩ = some (.string l[i].f0) := c0
    have c1' : w.cell? ⟨b, off + (i * 2 + 1), none⟩ = some (.string l[i].f1) := by
      have e : off + (i * 2 + 1) = off + i * 2 + 1 := by omega
      rw [e]
      exact c1
    match j, hj with
    | 0, hj => injection hj with hj; subst hj; exact c0'
    | 1, hj => injection hj with hj; subst hj; exact c1'
    | (n+2), hj => cases hj
theorem bound_Whole.calls (A0 : Option Addr) (c0 : Nat) (l0 : List (S23)) (r : Bool) (w : World) (hr0 : Kd.C k23 w A0 l0.length l0) (hc0 : l0.length ≤ c0) (h : bound_Whole.f l0 = some r) :
    Calls Try.prog 20 #[.slice A0 l0.length c0] w fun e w' => e = .returned (.bool r) ∧ Below w.heap.size w w' := by
  unfold bound_Whole.f at h
  by_cases hc : l0.length ≤ 140737488351232
  · rw [if_pos hc] at h
    obtain rfl := Option.some.inj h
    have := whole_any A0 (l0.map toBnd) c0 w (bnds_at hr0) (by simpa using hc)
    rw [List.length_map] at this
    exact this
  · rw [if_neg hc] at h
    cases h


/-! ### furlongref02_Next: function 19: given -/
def furlongref02_Next.f (a0_0 : ByteArray) (a0_1 : ByteArray) (a1_0 : ByteArray) (a1_1 : ByteArray) : Option (Bool) := some (nextL a0_0.toList a0_1.toList a1_0.toList a1_1.toList)
theorem furlongref02_Next.calls (a0_0 : ByteArray) (a0_1 : ByteArray) (a1_0 : ByteArray) (a1_1 : ByteArray) (r : Bool) (w : World) (h : furlongref02_Next.f a0_0 a0_1 a1_0 a1_1 = some r) :
    Calls Try.prog 19 #[.agg #[.string a0_0, .string a0_1], .agg #[.string a1_0, .string a1_1]] w fun e w' => e = .returned (.bool r) ∧ Below w.heap.size w w' := by
  obtain rfl := Option.some.inj h
  exact rnext_any a0_0 a0_1 a1_0 a1_1 w


/-! ### furlongref02_Is: function 32: given -/
def furlongref02_Is.f (a0_0 : ByteArray) (a0_1 : ByteArray) : Option (Bool) := some (okL a0_0.toList a0_1.toList)
theorem furlongref02_Is.calls (a0_0 : ByteArray) (a0_1 : ByteArray) (r : Bool) (w : World) (h : furlongref02_Is.f a0_0 a0_1 = some r) :
    Calls Try.prog 32 #[.agg #[.string a0_0, .string a0_1]] w fun e w' => e = .returned (.bool r) ∧ Below w.heap.size w w' := by
  obtain rfl := Option.some.inj h
  exact is_any a0_0 a0_1 w


end Go.Proofs.Ytocfiflcbblakaa.XWh
