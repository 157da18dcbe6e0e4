/-
  Lemmas, joined of the texts Leaf.
-/
import Derived.ProofKit
import Derived.OpenShut
import Derived.Deep.Slices
import Derived.SizedLaws
namespace Go.Proofs.YtopajmbblemopaaGreatDoor
set_option linter.unusedVariables false
set_option linter.unusedSimpArgs false

inductive Leaf where
  | bool
  | int (k : IntKind)
  | str
  | deep (t : TypeId)

section
variable {H : Type} (enc : TypeId × Value → H) (P : Program) (w : World) (base : Nat) (spare : Nat → Bool) (held : Bool)

/-- What is no heavier than the row lets in. -/
def Light (P : Program) (t : TypeId) (d : DataW H) : Prop := ∀ m ∈ d.weights P t, m ≤ 140737488351232

def LeafOk : Leaf → Value → Prop
  | .bool, v => ∃ b, v = .bool b
  | .int k, v => ∃ n, v = .int k n ∧ (Lit.int k n).wf = true
  | .str, v => ∃ s : ByteArray, v = .string s ∧ s.size ≤ 140737488351232
  | .deep t, v => ∃ n x, DataW.trod enc P w base spare held n t [v] = some x ∧ Light P t x.1

def LeafAll : List Leaf → List Value → Prop
  | [], [] => True
  | l :: ls, v :: vs => LeafOk enc P w base spare held l v ∧ LeafAll ls vs
  | _, _ => False
end

section
variable {H : Type} {enc : TypeId × Value → H} {P : Program} {w : World} {base : Nat} {spare : Nat → Bool} {held : Bool}

theorem LeafAll.length : ∀ {ls : List Leaf} {vs : List Value}, LeafAll enc P w base spare held ls vs → vs.length = ls.length
  | [], [], _ => rfl
  | _ :: ls, _ :: vs, h => by simp [LeafAll.length (ls := ls) (vs := vs) h.2]
end
end Go.Proofs.YtopajmbblemopaaGreatDoor
