/-
  Keys and bounds: Has, Meet, Inside, Next; and the document's.
-/
import Derived.Test.YtocfiflcbblakaaB1
namespace Go.Proofs.Ytocfiflcbblakaa
set_option linter.unusedVariables false
set_option linter.unusedSimpArgs false
open Go.RowKit

theorem num_any (n : Int) (w : World) : Calls Try.prog 17 #[.int .i64 n] w fun r w' => r = .returned (.int .i64 n) ∧ w = w' := by
  go_enter Try.func17, Try.ntmps17
  go_wp2
  go_ret
  exact ⟨rfl, rfl⟩
theorem ends_any (f t k : ByteArray) (w : World) : Calls Try.prog 38 #[.agg #[.string f, .string t], .string k] w fun e w' => e = .returned (.bool (endsL t.toList k.toList)) ∧ Up w w' := by
  have hU := hd (Up.made w)
  have r1 := less_rule
  have e : endsL t.toList k.toList = (t.toList.isEmpty || decide (k.toList < t.toList)) := rfl
  cases hE : t.toList.isEmpty <;> by_cases hL : k.toList < t.toList
  all_goals
    simp only [hE, hL, decide_true, decide_false, Bool.or_true, Bool.or_false, Bool.true_or, Bool.false_or] at e
    rw [e]
    clear e
    go_enter Try.func38, Try.ntmps38
    go_wp2
    go_ret
    exact ⟨rfl, hU.out _⟩
theorem has_any (f t k : ByteArray) (w : World) : Calls Try.prog 28 #[.agg #[.string f, .string t], .string k] w fun e w' => e = .returned (.bool (hasL f.toList t.toList k.toList)) ∧ Up w w' := by
  have hU := hd (Up.made w)
  have r1 := less_rule
  have e : hasL f.toList t.toList k.toList = (!decide (k.toList < f.toList) && endsL t.toList k.toList) := rfl
  by_cases hL : k.toList < f.toList
  all_goals
    simp only [hL, decide_true, decide_false, Bool.not_true, Bool.not_false, Bool.true_and, Bool.false_and] at e
    rw [e]
    clear e
    go_enter Try.func28, Try.ntmps28
    go_wp2_with (go_at_call 38; refine (ends_any f t k _).mono ?_; rintro e w' ⟨rfl, hu⟩)
    go_ret
    exact ⟨rfl, by first | exact hU.out _ | exact (hU.out _).trans hu⟩
def Two (w : World) (n : Nat) (x y : Value) : Prop := w.cell? ⟨n, 0, none⟩ = some x ∧ w.cell? ⟨n, 1, none⟩ = some y
theorem Two.made (w : World) (x y : Value) (T : TypeId) : Two (w.alloc (.cells #[x, y] T)) w.heap.size x y :=
  ⟨(Blk.new w [x, y] T).cell 0, (Blk.new w [x, y] T).cell 1⟩
theorem Two.lt {w : World} {n : Nat} {x y : Value} (h : Two w n x y) : n < w.heap.size := by
  have h1 := h.1
  unfold World.cell? at h1
  cases hn : w.heap[n]? with
  | none => rw [show (⟨n, 0, none⟩ : Addr).block = n from rfl, hn] at h1; cases h1
  | some o => exact (Array.getElem?_eq_some_iff.1 hn).1
theorem Two.up {w w' : World} {n : Nat} {x y : Value} (h : Two w n x y) (hu : Up w w') : Two w' n x y :=
  ⟨(Below.cell hu (p := ⟨n, 0, none⟩) h.lt).trans h.1, (Below.cell hu (p := ⟨n, 1, none⟩) h.lt).trans h.2⟩
theorem Two.pair (w : World) (x y a b : Value) (T : TypeId) : Two ((w.alloc (.cells #[x, y] T)).alloc (.cells #[a, b] T)) w.heap.size x y ∧ Two ((w.alloc (.cells #[x, y] T)).alloc (.cells #[a, b] T)) (w.heap.size + 1) a b := by
  refine ⟨(Two.made w x y T).up (Up.made _ _), ?_⟩
  have := Two.made (w.alloc (.cells #[x, y] T)) a b T
  rw [World.size_alloc] at this
  exact this
/-- The two parameters' cells, in a world that has only grown since. -/
theorem two_cells {w w' : World} {f t g u : Value} {T : TypeId} (h : Up ((w.alloc (.cells #[f, t] T)).alloc (.cells #[g, u] T)) w') :
    (w'.cell? ⟨w.heap.size, 0, none⟩ = some f ∧ w'.cell? ⟨w.heap.size, 1, none⟩ = some t) ∧ (w'.cell? ⟨w.heap.size + 1, 0, none⟩ = some g ∧ w'.cell? ⟨w.heap.size + 1, 1, none⟩ = some u) :=
  ⟨(Two.pair w f t g u T).1.up h, (Two.pair w f t g u T).2.up h⟩
theorem two_up {w w' : World} {o o' : Obj} (h : Up ((w.alloc o).alloc o') w') : Up w w' := ((Up.made w o).alloc o').trans h
theorem check_t {f t : ByteArray} (h : okL f.toList t.toList = true) (w : World) : Calls Try.prog 29 #[.agg #[.string f, .string t]] w fun e w' => e = .returned (.int .i64 0) ∧ Up w w' := by
  have := check_any f t w
  rw [h] at this
  exact this
theorem check_f {f t : ByteArray} (h : okL f.toList t.toList = false) (w : World) : Calls Try.prog 29 #[.agg #[.string f, .string t]] w fun e w' => e = .returned (.int .i64 20) ∧ Up w w' := by
  have := check_any f t w
  rw [h] at this
  exact this
theorem both_any (f t g u : ByteArray) (w : World) : Calls Try.prog 39 #[.agg #[.string f, .string t], .agg #[.string g, .string u]] w fun e w' => e = .returned (.bool (okL f.toList t.toList && okL g.toList u.toList)) ∧ Up w w' := by
  have hU := hd (Up.made w)
  have hV : Hd (∀ o o' : Obj, Up w ((w.alloc o).alloc o')) := hd fun o o' => (Up.made w o).alloc o'
  cases h1 : okL f.toList t.toList with
  | false =>
    rw [Bool.false_and]
    have K1 := hd (check_f h1)
    clear h1
    go_enter Try.func39, Try.ntmps39
    go_wp2_with (go_at_call_of 29 (Value.agg #[Value.string f, Value.string t]); refine (K1.out _).mono ?_; rintro e w1 ⟨rfl, hu1⟩)
    go_ret
    exact ⟨rfl, two_up hu1⟩
  | true =>
    rw [Bool.true_and]
    have K1 := hd (check_t h1)
    clear h1
    cases h2 : okL g.toList u.toList with
    | false =>
      have K2 := hd (check_f h2)
      clear h2
      go_enter Try.func39, Try.ntmps39
      go_wp2_with (first | (go_at_call_of 29 (Value.agg #[Value.string f, Value.string t]); refine (K1.out _).mono ?_; rintro e w1 ⟨rfl, hu1⟩; obtain ⟨⟨c1, c2⟩, c3, c4⟩ := two_cells hu1) | (go_at_call_of 29 (Value.agg #[Value.string g, Value.string u]); refine (K2.out _).mono ?_; rintro e w2 ⟨rfl, hu2⟩))
      go_ret
      exact ⟨rfl, two_up (hu1.trans hu2)⟩
    | true =>
      have K2 := hd (check_t h2)
      clear h2
      go_enter Try.func39, Try.ntmps39
      go_wp2_with (first | (go_at_call_of 29 (Value.agg #[Value.string f, Value.string t]); refine (K1.out _).mono ?_; rintro e w1 ⟨rfl, hu1⟩; obtain ⟨⟨c1, c2⟩, c3, c4⟩ := two_cells hu1) | (go_at_call_of 29 (Value.agg #[Value.string g, Value.string u]); refine (K2.out _).mono ?_; rintro e w2 ⟨rfl, hu2⟩))
      go_ret
      exact ⟨rfl, two_up (hu1.trans hu2)⟩
theorem meet_any (f t g u : ByteArray) (w : World) : Calls Try.prog 34 #[.agg #[.string f, .string t], .agg #[.string g, .string u]] w fun e w' => e = .returned (.bool (meetL f.toList t.toList g.toList u.toList)) ∧ Up w w' := by
  have e : meetL f.toList t.toList g.toList u.toList = ((okL f.toList t.toList && okL g.toList u.toList) && endsL t.toList g.toList && endsL u.toList f.toList) := rfl
  have B := hd (both_any f t g u)
  have E1 := hd (ends_any f t g)
  have E2 := hd (ends_any g u f)
  generalize (okL f.toList t.toList && okL g.toList u.toList) = b at *
  generalize endsL t.toList g.toList = e1 at *
  generalize endsL u.toList f.toList = e2 at *
  rw [e]
  clear e
  cases b <;> cases e1 <;> cases e2
  all_goals
    simp only [Bool.and_true, Bool.and_false, Bool.false_and, Bool.true_and]
    go_enter Try.func34, Try.ntmps34
    go_wp2_with (first | (go_at_call 39; refine (B.out _).mono ?_; rintro e w1 ⟨rfl, hu⟩; obtain ⟨⟨c1, c2⟩, c3, c4⟩ := two_cells hu) | (go_at_call_of 38 (Value.agg #[Value.string f, Value.string t]); refine (E1.out _).mono ?_; rintro e w2 ⟨rfl, hu2⟩; replace hu := hu.trans hu2; obtain ⟨⟨c1, c2⟩, c3, c4⟩ := two_cells hu) | (go_at_call_of 38 (Value.agg #[Value.string g, Value.string u]); refine (E2.out _).mono ?_; rintro e w3 ⟨rfl, hu3⟩; replace hu := hu.trans hu3))
    go_ret
    exact ⟨rfl, two_up hu⟩
set_option maxHeartbeats 1600000 in
theorem inside_any (f t g u : ByteArray) (w : World) : Calls Try.prog 36 #[.agg #[.string f, .string t], .agg #[.string g, .string u]] w fun e w' => e = .returned (.bool (insideL f.toList t.toList g.toList u.toList)) ∧ Up w w' := by
  have e : insideL f.toList t.toList g.toList u.toList = ((okL f.toList t.toList && okL g.toList u.toList) && !decide (f.toList < g.toList) && (u.toList.isEmpty || (!t.toList.isEmpty && !decide (u.toList < t.toList)))) := rfl
  have B := hd (both_any f t g u)
  have r1 := less_rule
  have r2 := ord_le
  generalize (okL f.toList t.toList && okL g.toList u.toList) = b at *
  rw [e]
  clear e
  cases b
  · simp only [Bool.false_and]
    go_enter Try.func36, Try.ntmps36
    go_wp2_with (go_at_call 39; refine (B.out _).mono ?_; rintro e w1 ⟨rfl, hu⟩)
    go_ret
    exact ⟨rfl, two_up hu⟩
  by_cases h1 : f.toList < g.toList
  · simp only [h1, decide_true, Bool.not_true, Bool.and_false, Bool.false_and]
    go_enter Try.func36, Try.ntmps36
    go_wp2_with (go_at_call 39; refine (B.out _).mono ?_; rintro e w1 ⟨rfl, hu⟩; obtain ⟨⟨c1, c2⟩, c3, c4⟩ := two_cells hu)
    go_ret
    exact ⟨rfl, two_up hu⟩
  cases h2 : u.toList.isEmpty <;> cases h3 : t.toList.isEmpty <;> by_cases h4 : u.toList < t.toList
  all_goals
    simp only [h1, h4, decide_true, decide_false, Bool.or_true, Bool.or_false, Bool.true_or, Bool.false_or, Bool.not_true, Bool.not_false, Bool.and_true, Bool.and_false, Bool.false_and, Bool.true_and]
    go_enter Try.func36, Try.ntmps36
    go_wp2_with (go_at_call 39; refine (B.out _).mono ?_; rintro e w1 ⟨rfl, hu⟩; obtain ⟨⟨c1, c2⟩, c3, c4⟩ := two_cells hu)
    go_ret
    exact ⟨rfl, two_up hu⟩
theorem next_any (f t g u : ByteArray) (w : World) : Calls Try.prog 18 #[.agg #[.string f, .string t], .agg #[.string g, .string u]] w fun e w' => e = .returned (.bool (nextL f.toList t.toList g.toList u.toList)) ∧ Up w w' := by
  have e : nextL f.toList t.toList g.toList u.toList = ((okL f.toList t.toList && okL g.toList u.toList) && !t.toList.isEmpty && t.toList == g.toList) := rfl
  have B := hd (both_any f t g u)
  generalize (okL f.toList t.toList && okL g.toList u.toList) = b at *
  rw [e]
  clear e
  cases b <;> cases h2 : t.toList.isEmpty <;> cases h5 : (t.toList == g.toList)
  all_goals
    simp only [Bool.not_true, Bool.not_false, Bool.and_true, Bool.and_false, Bool.false_and, Bool.true_and]
    go_enter Try.func18, Try.ntmps18
    go_wp2_with (go_at_call 39; refine (B.out _).mono ?_; rintro e w1 ⟨rfl, hu⟩; obtain ⟨⟨c1, c2⟩, c3, c4⟩ := two_cells hu)
    go_ret
    exact ⟨by first | rfl | (show Ending.returned (.bool (t.toList == g.toList)) = _; rw [h5]), two_up hu⟩
end Go.Proofs.Ytocfiflcbblakaa
