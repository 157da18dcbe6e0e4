/-
  A bound that came in by value.
-/
import Derived.Test.YtocfiflcbblakaaB9
namespace Go.Proofs.Ytocfiflcbblakaa
set_option linter.unusedVariables false
set_option linter.unusedSimpArgs false
open Go.RowKit
section
variable {H : Type} {enc : TypeId × Value → H} {w : World} {spare : Nat → Bool} {held : Bool}
theorem open_bound {v : Value} {d : DataW H} {p : List MemPlace} (hv0 : ∃ cs, v = .agg cs) (h : DataW.Trod enc Try.prog w 0 spare held 23 v d p) (hl : Light Try.prog 23 d) :
    ∃ f t : ByteArray, v = .agg #[.string f, .string t] := by
  obtain ⟨cs, rfl⟩ := hv0
  obtain ⟨fuel, hx⟩ := h
  have hL := leaves_trod 4 _ _ fuel _ bnd_flat hx hl
  rw [bnd_leaves] at hL
  obtain ⟨a, ha, -⟩ := bnd_of hL
  refine ⟨a.f, a.t, ?_⟩
  have : cs.toList = [.string a.f, .string a.t] := by simpa [Value.cells, Bnd.cells] using ha
  congr 1
  exact Array.toList_inj.1 this
end
end Go.Proofs.Ytocfiflcbblakaa
