/-
  Of every keys and bounds the layer tells what the document tells: whether they may be, what lies in them.
-/
import Derived.Test.YtocfiflcbblakaaXCk
import Derived.Test.YtocfiflcbblakaaPB1
import Derived.Test.YtocfiflcbblakaaB10
namespace Go.Proofs.Ytocfiflcbblakaa
set_option linter.unusedVariables false
set_option linter.unusedSimpArgs false
open Go.RowKit Go.Proofs.Ytocfiflcbblakaa.XCk
theorem checks_pure (f t g u k : ByteArray) : furlonglaw02_BoundChecks.f 2 f t g u k = some true := by
  simp only [furlonglaw02_BoundChecks.f, furlonglaw02_BoundChecks.j0, furlonglaw02_BoundChecks.j1, furlonglaw02_small.f, furlonglaw02_live.f, bound_Key.f, furlonglaw02_num.f, furlongref02_Key.f, bound_Check.f, furlongref02_Is.f, bound_Has.f, furlongref02_Has.f, bound_Meet.f, furlongref02_Meet.f, bound_Inside.f, furlongref02_Inside.f, Option.bind_some, err20_beq, bne_self_eq_false, if_true, if_false, beq_self_eq_true, Bool.false_eq_true]
  repeat' split
  all_goals rfl
theorem checks_walk {H : Type} {enc : TypeId × Value → H} (W : World) (v0 : Value) {d0 : DataW H} {p0 : List MemPlace} (o0 : ∃ cs, v0 = .agg cs) (h0 : DataW.Trod enc Try.prog W 0 (fun _ => true) true 23 v0 d0 p0) (l0 : Light Try.prog 23 d0)
    (v1 : Value) {d1 : DataW H} {p1 : List MemPlace} (o1 : ∃ cs, v1 = .agg cs) (h1 : DataW.Trod enc Try.prog W 0 (fun _ => true) true 23 v1 d1 p1) (l1 : Light Try.prog 23 d1) (k : ByteArray) (_hk : k.size ≤ 140737488351232) :
    Calls Try.prog 8 #[v0, v1, .string k] W fun e w' => e = .returned (.bool true) ∧ Below W.heap.size W w' := by
  obtain ⟨f, t, rfl⟩ := open_bound o0 h0 l0
  obtain ⟨g, u, rfl⟩ := open_bound o1 h1 l1
  exact furlonglaw02_BoundChecks.calls 2 f t g u k true W (checks_pure f t g u k)
end Go.Proofs.Ytocfiflcbblakaa
