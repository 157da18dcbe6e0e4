/-
  Lemmas, joined of the texts B0 XR.
-/
import Derived.Test.YtopajmbblemopaaGreatDoorMB0
import Derived.Below
import Derived.Laws.Cover1
namespace Go.Proofs.YtopajmbblemopaaGreatDoor
set_option linter.unusedVariables false
set_option linter.unusedSimpArgs false
open Go.RowKit

theorem bytesLess_lt : ∀ (x y : List UInt8), Op.bytesLess x y = decide (x < y)
  | [], [] => by simp [Op.bytesLess]
  | _ :: _, [] => by simp [Op.bytesLess]
  | [], _ :: _ => by simp [Op.bytesLess]
  | a :: x, b :: y => by
    rw [Op.bytesLess, bytesLess_lt x y]
    simp only [List.cons_lt_cons_iff]
    by_cases h1 : a < b <;> by_cases h2 : a = b <;> by_cases h3 : x < y <;> simp [h1, h2, h3]
theorem ord_irr (x : List UInt8) : ¬ x < x := List.lt_irrefl x
theorem ord_trans {x y z : List UInt8} (h : x < y) (k : y < z) : x < z := List.lt_trans h k
theorem ord_tri (x y : List UInt8) : x < y ∨ x = y ∨ y < x := by
  by_cases h : x < y
  · exact .inl h
  · by_cases k : y < x
    · exact .inr (.inr k)
    · exact .inr (.inl (List.le_antisymm (List.not_lt.1 k) (List.not_lt.1 h)))
theorem ord_nil (x : List UInt8) : ¬ x < [] := List.not_lt_nil x
/-- The only thing that a call leaves behind: it may have made blocks of its own. -/
def Up (w w' : World) : Prop := Below w.heap.size w w'
theorem Up.refl (w : World) : Up w w := Below.refl _ _
theorem Up.trans {a b c : World} (h : Up a b) (k : Up b c) : Up a c := Below.trans h (Below.mono k h.size)
theorem Up.alloc {a b : World} (h : Up a b) (o : Obj) : Up a (b.alloc o) := Below.alloc h h.size o
theorem Up.made (w : World) (o : Obj) : Up w (w.alloc o) := (Up.refl w).alloc o
theorem Up.drewN {a b : World} (h : Up a b) (n : Nat) : Up a (b.drewN n) := ⟨h.os, h.tape, h.output, h.size, h.block⟩
theorem Up.drew {a b : World} (h : Up a b) : Up a b.drew := h.drewN 1

/-! ### The words of the layer, of bytes' lists -/
abbrev Bs := List UInt8
end Go.Proofs.YtopajmbblemopaaGreatDoor
namespace Go.Proofs.YtopajmbblemopaaGreatDoor
set_option linter.unusedVariables false
set_option linter.unusedSimpArgs false
theorem not_bne_nil (l : List UInt8) : (!(l != [])) = l.isEmpty := by cases l <;> rfl
attribute [simp] not_bne_nil
end Go.Proofs.YtopajmbblemopaaGreatDoor
