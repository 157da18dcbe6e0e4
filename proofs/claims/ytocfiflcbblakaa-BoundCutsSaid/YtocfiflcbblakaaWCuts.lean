/-
  Every bounds, cut and joined: as the document says.
-/
import Derived.Test.YtocfiflcbblakaaXCu
import Derived.Test.YtocfiflcbblakaaPB1
import Derived.Test.YtocfiflcbblakaaB10
namespace Go.Proofs.Ytocfiflcbblakaa
set_option linter.unusedVariables false
set_option linter.unusedSimpArgs false
open Go.RowKit Go.Proofs.Ytocfiflcbblakaa.XCu
theorem cut_same (f t k : ByteArray) : furlongref02_Cut.f f t k = bound_Cut.f f t k := rfl
theorem join_same (f t g u : ByteArray) : furlongref02_Join.f f t g u = bound_Join.f f t g u := rfl
theorem cut_some (f t k : ByteArray) : ∃ x, bound_Cut.f f t k = some x := by unfold bound_Cut.f; split <;> exact ⟨_, rfl⟩
theorem join_some (f t g u : ByteArray) : ∃ x, bound_Join.f f t g u = some x := by unfold bound_Join.f; split <;> exact ⟨_, rfl⟩
theorem cuts_j0 (f t g u k : ByteArray) (b : Bool) : furlonglaw02_BoundCuts.j0 1 k b f t g u = some true := by
  obtain ⟨x, hx⟩ := cut_some f t k
  obtain ⟨y, hy⟩ := join_some f t g u
  simp only [furlonglaw02_BoundCuts.j0, cut_same, join_same, hx, hy, furlonglaw02_live.f, furlonglaw02_num.f, bound_Next.f, furlongref02_Next.f, Option.bind_some, beq_self_eq_true, Bool.and_self, if_true]
  cases b <;> rfl
theorem cuts_pure (f t g u k : ByteArray) : furlonglaw02_BoundCuts.f 1 f t g u k = some true := by
  simp only [furlonglaw02_BoundCuts.f, furlonglaw02_small.f, Option.bind_some, cuts_j0]
  repeat' split
  all_goals rfl
theorem cuts_walk {H : Type} {enc : TypeId × Value → H} (W : World) (v0 : Value) {d0 : DataW H} {p0 : List MemPlace} (o0 : ∃ cs, v0 = .agg cs) (h0 : DataW.Trod enc Try.prog W 0 (fun _ => true) true 23 v0 d0 p0) (l0 : Light Try.prog 23 d0)
    (v1 : Value) {d1 : DataW H} {p1 : List MemPlace} (o1 : ∃ cs, v1 = .agg cs) (h1 : DataW.Trod enc Try.prog W 0 (fun _ => true) true 23 v1 d1 p1) (l1 : Light Try.prog 23 d1) (k : ByteArray) (_hk : k.size ≤ 140737488351232) :
    Calls Try.prog 3 #[v0, v1, .string k] W fun e w' => e = .returned (.bool true) ∧ Below W.heap.size W w' := by
  obtain ⟨f, t, rfl⟩ := open_bound o0 h0 l0
  obtain ⟨g, u, rfl⟩ := open_bound o1 h1 l1
  exact furlonglaw02_BoundCuts.calls 1 f t g u k true W (cuts_pure f t g u k) rfl
end Go.Proofs.Ytocfiflcbblakaa
