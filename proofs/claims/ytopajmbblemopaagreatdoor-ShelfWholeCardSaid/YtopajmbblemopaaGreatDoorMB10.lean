/-
  Lemmas, joined of the texts Fw3.
-/
import Derived.Test.YtopajmbblemopaaGreatDoorMB5
namespace Go.Proofs.YtopajmbblemopaaGreatDoor
set_option linter.unusedVariables false
set_option linter.unusedSimpArgs false
open Go.RowKit
section
variable {P : Program}
theorem run_append_rows (w : World) (t ty e : TypeId) (z : Value) (size bytes base bu : Nat) (ht : P.underlying t = some (.slice e))
    (hinfo : (P.info? e).map (fun i => (i.zero, i.size, i.bytes)) = some (some z, size, bytes)) (hz : z.cells.size = size) (hsz : 0 < size)
    (v u : Value) (n m : Nat) (xs ys : List Value) (hv : w.ownsRow base e size v n xs) (hu : w.ownsRow bu e size u m ys) (h1 : ∀ y ∈ ys, y.oneCell' = true)
    (hb : base ≤ w.heap.size) (hl : n + m ≤ 140737488355328) (hlb : (n + m) * bytes ≤ 140737488355328) :
    ∃ v' w', (Builtin.append_ #[t, t] ty #[v, u]).run P w = .ok v' w' ∧ w'.ownsRow base e size v' (n + m) (xs ++ ys) ∧ w.grownBy w' v.ownBlock ∧ (v'.ownBlock = v.ownBlock ∨ v'.ownBlock = some w.heap.size) := by
  obtain ⟨i, hi, hzz⟩ := Option.map_eq_some_iff.1 hinfo
  simp only [Prod.mk.injEq] at hzz
  obtain ⟨hz0, hz1, hz2⟩ := hzz
  have hlen := hu.1
  have hcell := fun g => hu.cells (g := g)
  rcases hu.2 with ⟨rfl, rfl⟩ | ⟨g, cap, cur, rfl, _⟩
  · have := run_append_owned_none (P := P) w base t ty e i size ht hi v n xs hv
    have hy : ys = [] := List.eq_nil_of_length_eq_zero (by omega)
    subst hy
    exact ⟨v, w, this, by simpa using hv, World.grownBy.refl _ _, .inl rfl⟩
  · obtain ⟨v', w', hr, ho, hg, _, hat⟩ := run_append_own_at (P := P) w base t ty e i z size bytes ht hi hz0 hz1 hz2 hz hsz v n xs hv ⟨g, 0, none⟩ m cap ys hlen
      (fun j y hj => hu.cells (g := g) rfl j y hj) h1 (by simp only [maxLen]; omega) hlb hb
    exact ⟨v', w', hr, ho, hg, hat⟩
variable {ops : Array Oper} {o : Oper} {a : Act} {w : World} {K : Act → World → Prop} {Q : Exit → Act → World → Prop} {E : Prop}
theorem wpList_append_rows {rest : List Oper} (hg : o.guard = none) (s x : Operand) (t e : TypeId) (z : Value) (size bytes base bu : Nat) (ho : o.op = .call { callee := .builtin .append, args := #[s, x], argTypes := #[t, t] })
    (ht : P.underlying t = some (.slice e)) (hinfo : (P.info? e).map (fun i => (i.zero, i.size, i.bytes)) = some (some z, size, bytes)) (hz : z.cells.size = size) (hsz : 0 < size)
    (v u : Value) (n m : Nat) (xs ys : List Value) (hs : a.eval s = v) (hx : a.eval x = u) (hv : w.ownsRow base e size v n xs) (hu : w.ownsRow bu e size u m ys) (h1 : ∀ y ∈ ys, y.oneCell' = true)
    (hb : base ≤ w.heap.size) (hl : n + m ≤ 140737488355328) (hlb : (n + m) * bytes ≤ 140737488355328)
    (h : ∀ v' w', w'.ownsRow base e size v' (n + m) (xs ++ ys) → w.grownBy w' v.ownBlock → (v'.ownBlock = v.ownBlock ∨ v'.ownBlock = some w.heap.size) → wpList P ops Q rest (a.put o.dst v') w') :
    wpList P ops Q (o :: rest) a w := by
  refine wpList_plain hg fun K hK => ?_
  obtain ⟨v', w', hr, h2, h3, h4⟩ := run_append_rows (P := P) w t o.type e z size bytes base bu ht hinfo hz hsz v u n m xs ys hv hu h1 hb hl hlb
  unfold Oper.wp execOp
  simp only [ho, resolve, invoke, builtin, Sem.run_bind, Sem.run_pure, Result.andThen_ok, List.map_toArray, List.map_cons, List.map_nil, hs, hx, hr]
  exact hK _ _ (h v' w' h2 h3 h4)
end
end Go.Proofs.YtopajmbblemopaaGreatDoor
