/-
  Lemmas, joined of the texts G0.
-/
import Derived.Test.YtopajmbblemopaaGreatDoorMB1
import Derived.Test.YtopajmbblemopaaGreatDoorMB2
import Derived.Lib.LaidTab
import Derived.Lib.SmallJoins
import Derived.Test.YtopajmbblemopaaGreatDoorWLast
import Derived.Test.YtopajmbblemopaaGreatDoorWWords
namespace Go.Proofs.YtopajmbblemopaaGreatDoor
set_option linter.unusedVariables false
set_option linter.unusedSimpArgs false
open Go.RowKit Go.Lib Go.Proofs.YtopajmbblemopaaGreatDoorW.PrintWords Go.Proofs.YtopajmbblemopaaGreatDoorW.PrintLast
/-- An error's variable: some error, or none. -/
def ErrAt (w : World) (g : Nat) : Prop := ∃ ev, w.cell? ⟨g, 0, none⟩ = some ev ∧ (ev = .nilIface ∨ ∃ te pe, ev = .iface te pe)
structure Gl (w : World) : Prop where
  tab : TabIs Tryz.prog w "internal/strconv.uint64pow10" .u64 pow10Tab
  most : ∃ m, w.cell? ⟨1, 0, none⟩ = some (.int .i64 m)
  esyn : ErrAt w 2
  eran : ErrAt w 3
theorem ErrAt.below {w w' : World} {g : Nat} (h : ErrAt w g) (hb : Below w.heap.size w w') : ErrAt w' g := by
  obtain ⟨ev, h1, h2⟩ := h
  exact ⟨ev, (Below.cell hb (World.block_lt_of_cell? w _ h1)).trans h1, h2⟩
theorem gtab : Tryz.prog.globalNamed "internal/strconv.uint64pow10" = some 0 := by kernel_rfl
theorem gl_below {w w' : World} (h : Gl w) (hb : Below w.heap.size w w') : Gl w' := by
  refine ⟨?_, ?_, h.esyn.below hb, h.eran.below hb⟩
  · exact Joins.var_stays gtab h.tab hb (Nat.le_refl _)
  · obtain ⟨m, hm⟩ := h.most
    exact ⟨m, (Below.cell hb (World.block_lt_of_cell? w _ hm)).trans hm⟩
theorem below_grow (w : World) (k : Nat) (os : Array Obj) : Below w.heap.size w (Sort.grow (w.drewN k) os) := by
  refine ⟨rfl, rfl, rfl, by simp [Sort.grow], fun i hi => ?_⟩
  simp only [Sort.grow]
  rw [Array.getElem?_append_left (by exact hi)]
  rfl
end Go.Proofs.YtopajmbblemopaaGreatDoor
