/-
  Lemmas, joined of the texts B0 XR.
-/
import Derived.Test.YtjmejamgbinigaaGreatDoorMB0
import Derived.Below
import Derived.Laws.Cover1
namespace Go.Proofs.YtjmejamgbinigaaGreatDoor
set_option linter.unusedVariables false
set_option linter.unusedSimpArgs false
open Go.RowKit

/-- The only thing that a call leaves behind: it may have made blocks of its own. -/
def Up (w w' : World) : Prop := Below w.heap.size w w'
theorem Up.refl (w : World) : Up w w := Below.refl _ _
theorem Up.trans {a b c : World} (h : Up a b) (k : Up b c) : Up a c := Below.trans h (Below.mono k h.size)
theorem Up.alloc {a b : World} (h : Up a b) (o : Obj) : Up a (b.alloc o) := Below.alloc h h.size o
theorem Up.made (w : World) (o : Obj) : Up w (w.alloc o) := (Up.refl w).alloc o
theorem Up.drewN {a b : World} (h : Up a b) (n : Nat) : Up a (b.drewN n) := ⟨h.os, h.tape, h.output, h.size, h.block⟩
theorem Up.drew {a b : World} (h : Up a b) : Up a b.drew := h.drewN 1

/-! ### The words of the layer, of bytes' lists -/
end Go.Proofs.YtjmejamgbinigaaGreatDoor
namespace Go.Proofs.YtjmejamgbinigaaGreatDoor
set_option linter.unusedVariables false
set_option linter.unusedSimpArgs false
theorem not_bne_nil (l : List UInt8) : (!(l != [])) = l.isEmpty := by cases l <;> rfl
attribute [simp] not_bne_nil
end Go.Proofs.YtjmejamgbinigaaGreatDoor
