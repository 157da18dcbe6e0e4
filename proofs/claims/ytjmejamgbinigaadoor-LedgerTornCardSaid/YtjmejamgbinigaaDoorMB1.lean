/-
  Lemmas, joined of the texts B0 XR.
-/
import Derived.Test.YtjmejamgbinigaaDoorMB0
import Derived.Below
import Derived.Laws.Cover1
namespace Go.Proofs.YtjmejamgbinigaaDoor
set_option linter.unusedVariables false
set_option linter.unusedSimpArgs false
open Go.RowKit

theorem bytesLess_lt : ∀ (x y : List UInt8), Op.bytesLess x y = decide (x < y)
  | [], [] => by simp [Op.bytesLess]
  | _ :: _, [] => by simp [Op.bytesLess]
  | [], _ :: _ => by simp [Op.bytesLess]
  | a :: x, b :: y => by
    rw [Op.bytesLess, bytesLess_lt x y]
    simp only [List.cons_lt_cons_iff]
    by_cases h1 : a < b <;> by_cases h2 : a = b <;> by_cases h3 : x < y <;> simp [h1, h2, h3]
theorem ord_irr (x : List UInt8) : ¬ x < x := List.lt_irrefl x
theorem ord_trans {x y z : List UInt8} (h : x < y) (k : y < z) : x < z := List.lt_trans h k
theorem ord_tri (x y : List UInt8) : x < y ∨ x = y ∨ y < x := by
  by_cases h : x < y
  · exact .inl h
  · by_cases k : y < x
    · exact .inr (.inr k)
    · exact .inr (.inl (List.le_antisymm (List.not_lt.1 k) (List.not_lt.1 h)))
theorem ord_nil (x : List UInt8) : ¬ x < [] := List.not_lt_nil x
theorem bytes_gt (x y : List UInt8) : (!Op.bytesLess y x && !y == x) = Op.bytesLess x y := by
  rw [bytesLess_lt, bytesLess_lt]
  rcases ord_tri x y with h | rfl | h
  · have h1 : ¬ y < x := fun k => ord_irr _ (ord_trans h k)
    have h2 : y ≠ x := fun k => by subst k; exact ord_irr _ h
    simp [h, h1, h2]
  · simp [ord_irr]
  · have h1 : ¬ x < y := fun k => ord_irr _ (ord_trans h k)
    simp [h, h1]
theorem size_toList (x : ByteArray) : x.toList.length = x.size := by rw [ByteArray.toList_eq]; simp

/-- The only thing that a call leaves behind: it may have made blocks of its own. -/
def Up (w w' : World) : Prop := Below w.heap.size w w'
theorem Up.refl (w : World) : Up w w := Below.refl _ _
theorem Up.trans {a b c : World} (h : Up a b) (k : Up b c) : Up a c := Below.trans h (Below.mono k h.size)
theorem Up.alloc {a b : World} (h : Up a b) (o : Obj) : Up a (b.alloc o) := Below.alloc h h.size o
theorem Up.made (w : World) (o : Obj) : Up w (w.alloc o) := (Up.refl w).alloc o
theorem Up.drewN {a b : World} (h : Up a b) (n : Nat) : Up a (b.drewN n) := ⟨h.os, h.tape, h.output, h.size, h.block⟩
theorem Up.drew {a b : World} (h : Up a b) : Up a b.drew := h.drewN 1

/-! ### The words of the layer, of bytes' lists -/
abbrev Bs := List UInt8
def keyL (k : Bs) : Bool := decide (1 ≤ k.length) && decide (k.length ≤ 32)
def okL (f t : Bs) : Bool := decide (f.length ≤ 33) && decide (t.length ≤ 33) && (t.isEmpty || decide (f < t))
def endsL (t k : Bs) : Bool := t.isEmpty || decide (k < t)
def hasL (f t k : Bs) : Bool := !decide (k < f) && endsL t k
def meetL (f t g u : Bs) : Bool := okL f t && okL g u && endsL t g && endsL u f
def insideL (f t g u : Bs) : Bool := okL f t && okL g u && !decide (f < g) && (u.isEmpty || (!t.isEmpty && !decide (u < t)))
def nextL (f t g u : Bs) : Bool := okL f t && okL g u && !t.isEmpty && t == g
def cutL (f t k : Bs) : Bool := okL f t && keyL k && decide (f < k) && endsL t k
def err20 (b : Bool) : Int := if b then 0 else 20
theorem err20_t : err20 true = 0 := rfl
theorem err20_f : err20 false = 20 := rfl
theorem ord_le (x y : Bs) : (decide (x < y) || x == y) = !decide (y < x) := by
  rcases ord_tri x y with h | h | h
  · have : ¬ y < x := fun k => ord_irr _ (ord_trans h k)
    simp [h, this]
  · subst h
    simp [ord_irr]
  · have h1 : ¬ x < y := fun k => ord_irr _ (ord_trans h k)
    have h2 : x ≠ y := fun k => by subst k; exact ord_irr _ h
    simp [h, h1, h2]
end Go.Proofs.YtjmejamgbinigaaDoor
namespace Go.Proofs.YtjmejamgbinigaaDoor
set_option linter.unusedVariables false
set_option linter.unusedSimpArgs false
theorem bool_ne (a b : Bool) : (!(a == b)) = (a != b) := rfl
theorem not_bne_nil (l : List UInt8) : (!(l != [])) = l.isEmpty := by cases l <;> rfl
attribute [simp] not_bne_nil
abbrev bTr : Bool := true
abbrev bFa : Bool := false
theorem sA {α : Type} {l : List α} {i : Nat} {a : α} : l.toArray.setIfInBounds i a = (l.set i a).toArray := List.setIfInBounds_toArray l i a
theorem sB {α : Type} {a b : α} {l : List α} : (a :: l).set 0 b = b :: l := List.set_cons_zero
theorem sC {α : Type} {a b : α} {l : List α} {n : Nat} : (a :: l).set (n + 1) b = a :: l.set n b := List.set_cons_succ
end Go.Proofs.YtjmejamgbinigaaDoor
