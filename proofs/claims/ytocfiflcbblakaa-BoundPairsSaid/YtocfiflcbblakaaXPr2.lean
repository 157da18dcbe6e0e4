-- Printed by xprint.py of the repo (the kit's print with given contracts). Not trusted: Lean checks it.
import Derived.Test.YtocfiflcbblakaaXPr0
namespace Go.Proofs.Ytocfiflcbblakaa.XPr
open Go.RowKit Go.Proofs.YtocfiflcbblakaaW.PrintWords Go.Proofs.YtocfiflcbblakaaW.PrintLast Go.Proofs.YtocfiflcbblakaaW.PrintMore
attribute [local go_sem] max2_int min2_int max_two min_two max_three min_three max_four min_four   -- for this text's walks alone
attribute [local go_sem] bytes_gt bool_ne
set_option linter.unusedVariables false
set_option linter.unusedSimpArgs false

/-! ### furlonglaw02_small: function 11: given -/
def furlonglaw02_small.f (a0_0 : ByteArray) (a0_1 : ByteArray) : Option (Bool) := some (decide ((a0_0.size : Int) ≤ 2000) && decide ((a0_1.size : Int) ≤ 2000))
theorem furlonglaw02_small.calls (a0_0 : ByteArray) (a0_1 : ByteArray) (r : Bool) (w : World) (h : furlonglaw02_small.f a0_0 a0_1 = some r) :
    Calls Try.prog 11 #[.agg #[.string a0_0, .string a0_1]] w fun e w' => e = .returned (.bool r) ∧ Below w.heap.size w w' := by
  obtain rfl := Option.some.inj h
  exact small_any a0_0 a0_1 w


/-! ### furlonglaw02_live: function 12: given -/
def furlonglaw02_live.f : Option (Bool) := some true
theorem furlonglaw02_live.calls (r : Bool) (w : World) (h : furlonglaw02_live.f = some r) :
    Calls Try.prog 12 #[] w fun e w' => e = .returned (.bool r) ∧ Below w.heap.size w w' := by
  obtain rfl := Option.some.inj h
  exact live_any w


/-! ### furlonglaw02_num: function 17: given -/
def furlonglaw02_num.f (a0 : Int) : Option (Int) := some (a0)
theorem furlonglaw02_num.calls (a0 : Int) (r : Int) (w : World) (h : furlonglaw02_num.f a0 = some r) :
    Calls Try.prog 17 #[.int .i64 a0] w fun e w' => e = .returned (.int .i64 r) ∧ Drawn0 w w' := by
  obtain rfl := Option.some.inj h
  refine (num_any a0 w).mono ?_
  rintro e w' ⟨rfl, rfl⟩
  exact ⟨rfl, Drawn0.refl _⟩


/-! ### bound_Has: function 28: given -/
def bound_Has.f (a0_0 : ByteArray) (a0_1 : ByteArray) (a1 : ByteArray) : Option (Bool) := some (hasL a0_0.toList a0_1.toList a1.toList)
theorem bound_Has.calls (a0_0 : ByteArray) (a0_1 : ByteArray) (a1 : ByteArray) (r : Bool) (w : World) (h : bound_Has.f a0_0 a0_1 a1 = some r) :
    Calls Try.prog 28 #[.agg #[.string a0_0, .string a0_1], .string a1] w fun e w' => e = .returned (.bool r) ∧ Below w.heap.size w w' := by
  obtain rfl := Option.some.inj h
  exact has_any a0_0 a0_1 a1 w


/-! ### bound_Check: function 29: given -/
def bound_Check.f (a0_0 : ByteArray) (a0_1 : ByteArray) : Option (Int) := some (err20 (okL a0_0.toList a0_1.toList))
theorem bound_Check.calls (a0_0 : ByteArray) (a0_1 : ByteArray) (r : Int) (w : World) (h : bound_Check.f a0_0 a0_1 = some r) :
    Calls Try.prog 29 #[.agg #[.string a0_0, .string a0_1]] w fun e w' => e = .returned (.int .i64 r) ∧ Below w.heap.size w w' := by
  obtain rfl := Option.some.inj h
  exact check_any a0_0 a0_1 w


/-! ### bound_Meet: function 34: given -/
def bound_Meet.f (a0_0 : ByteArray) (a0_1 : ByteArray) (a1_0 : ByteArray) (a1_1 : ByteArray) : Option (Bool) := some (meetL a0_0.toList a0_1.toList a1_0.toList a1_1.toList)
theorem bound_Meet.calls (a0_0 : ByteArray) (a0_1 : ByteArray) (a1_0 : ByteArray) (a1_1 : ByteArray) (r : Bool) (w : World) (h : bound_Meet.f a0_0 a0_1 a1_0 a1_1 = some r) :
    Calls Try.prog 34 #[.agg #[.string a0_0, .string a0_1], .agg #[.string a1_0, .string a1_1]] w fun e w' => e = .returned (.bool r) ∧ Below w.heap.size w w' := by
  obtain rfl := Option.some.inj h
  exact meet_any a0_0 a0_1 a1_0 a1_1 w


/-! ### bound_Inside: function 36: given -/
def bound_Inside.f (a0_0 : ByteArray) (a0_1 : ByteArray) (a1_0 : ByteArray) (a1_1 : ByteArray) : Option (Bool) := some (insideL a0_0.toList a0_1.toList a1_0.toList a1_1.toList)
theorem bound_Inside.calls (a0_0 : ByteArray) (a0_1 : ByteArray) (a1_0 : ByteArray) (a1_1 : ByteArray) (r : Bool) (w : World) (h : bound_Inside.f a0_0 a0_1 a1_0 a1_1 = some r) :
    Calls Try.prog 36 #[.agg #[.string a0_0, .string a0_1], .agg #[.string a1_0, .string a1_1]] w fun e w' => e = .returned (.bool r) ∧ Below w.heap.size w w' := by
  obtain rfl := Option.some.inj h
  exact inside_any a0_0 a0_1 a1_0 a1_1 w


end Go.Proofs.Ytocfiflcbblakaa.XPr
