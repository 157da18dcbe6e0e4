/-
  The document's: Key, Is, Has, Meet, Inside, Next.
-/
import Derived.Test.YtocfiflcbblakaaB2
namespace Go.Proofs.Ytocfiflcbblakaa
set_option linter.unusedVariables false
set_option linter.unusedSimpArgs false
open Go.RowKit

theorem rkey_any (k : ByteArray) (w : World) : Calls Try.prog 31 #[.string k] w fun e w' => e = .returned (.bool (keyL k.toList)) ∧ w = w' := by
  have e : keyL k.toList = (decide (1 ≤ (k.size : Int)) && decide ((k.size : Int) ≤ 32)) := by
    unfold keyL
    rw [size_toList]
    congr 1 <;> (congr 1; simp only [eq_iff_iff]; omega)
  by_cases h1 : 1 ≤ (k.size : Int) <;> by_cases h2 : (k.size : Int) ≤ 32
  all_goals
    simp only [h1, h2, decide_true, decide_false, Bool.and_true, Bool.and_false] at e
    rw [e]
    clear e
    go_enter Try.func31, Try.ntmps31
    go_wp2
    go_ret
    exact ⟨rfl, rfl⟩
set_option maxHeartbeats 400000 in
theorem is_any (f t : ByteArray) (w : World) : Calls Try.prog 32 #[.agg #[.string f, .string t]] w fun e w' => e = .returned (.bool (okL f.toList t.toList)) ∧ Up w w' := by
  have hU := hd (Up.made w)
  have zf := size_toList f
  have zt := size_toList t
  have e : okL f.toList t.toList = (decide ((f.size : Int) ≤ 33) && decide ((t.size : Int) ≤ 33) && (t.toList.isEmpty || decide (f.toList < t.toList))) := by
    unfold okL
    rw [zf, zt]
    congr 2 <;> (congr 1; simp only [eq_iff_iff]; omega)
  have r1 := less_rule
  have r2 := ord_le
  clear zf zt
  by_cases hf : (f.size : Int) ≤ 33
  · by_cases ht : (t.size : Int) ≤ 33
    · simp only [hf, ht, decide_true, Bool.true_and] at e
      cases hE : t.toList.isEmpty <;> by_cases hL : f.toList < t.toList
      all_goals
        simp only [hE, hL, decide_true, decide_false, Bool.or_true, Bool.or_false, Bool.true_or, Bool.false_or] at e
        rw [e]
        clear e
        go_enter Try.func32, Try.ntmps32
        go_wp2
        go_ret
        exact ⟨rfl, hU.out _⟩
    · simp only [hf, ht, decide_true, decide_false, Bool.true_and, Bool.false_and] at e
      rw [e]
      clear e
      go_enter Try.func32, Try.ntmps32
      go_wp2
      go_ret
      exact ⟨rfl, hU.out _⟩
  · simp only [hf, decide_true, decide_false, Bool.true_and, Bool.false_and] at e
    rw [e]
    clear e
    go_enter Try.func32, Try.ntmps32
    go_wp2
    go_ret
    exact ⟨rfl, hU.out _⟩
theorem rhas_any (f t k : ByteArray) (w : World) : Calls Try.prog 33 #[.agg #[.string f, .string t], .string k] w fun e w' => e = .returned (.bool (hasL f.toList t.toList k.toList)) ∧ Up w w' := by
  have hU := hd (Up.made w)
  have r1 := less_rule
  have e : hasL f.toList t.toList k.toList = (!decide (k.toList < f.toList) && (t.toList.isEmpty || decide (k.toList < t.toList))) := rfl
  by_cases hL : k.toList < f.toList <;> cases hE : t.toList.isEmpty <;> by_cases h4 : k.toList < t.toList
  all_goals
    simp only [hL, hE, h4, decide_true, decide_false, Bool.or_true, Bool.or_false, Bool.true_or, Bool.false_or, Bool.not_true, Bool.not_false, Bool.true_and, Bool.false_and, Bool.and_true, Bool.and_false] at e
    rw [e]
    clear e
    go_enter Try.func33, Try.ntmps33
    go_wp2
    go_ret
    exact ⟨rfl, hU.out _⟩
/-- To meet, the document's way. -/
theorem meet_eq (f t g u : Bs) : meetL f t g u = (okL f t && okL g u && (hasL f t g || hasL g u f)) := by
  unfold meetL
  cases h1 : okL f t with
  | false => simp
  | true =>
    cases h2 : okL g u with
    | false => simp
    | true =>
      simp only [Bool.true_and]
      unfold okL at h1 h2
      simp only [Bool.and_eq_true, Bool.or_eq_true, decide_eq_true_eq] at h1 h2
      obtain ⟨-, h1⟩ := h1
      obtain ⟨-, h2⟩ := h2
      unfold hasL endsL
      rcases ord_tri f g with h | h | h
      · have n : ¬ g < f := fun q => ord_irr _ (ord_trans h q)
        have e2 : (u.isEmpty || decide (f < u)) = true := by
          rcases h2 with h2 | h2
          · simp [h2]
          · simp [ord_trans h h2]
        simp [h, n, e2]
      · subst h
        have n := ord_irr f
        have e1 : (t.isEmpty || decide (f < t)) = true := by rcases h1 with h1 | h1 <;> simp [h1]
        have e2 : (u.isEmpty || decide (f < u)) = true := by rcases h2 with h2 | h2 <;> simp [h2]
        simp [n, e1, e2]
      · have n : ¬ f < g := fun q => ord_irr _ (ord_trans h q)
        have e1 : (t.isEmpty || decide (g < t)) = true := by
          rcases h1 with h1 | h1
          · simp [h1]
          · simp [ord_trans h h1]
        simp [h, n, e1]
theorem is_of {f t : ByteArray} {b : Bool} (h : okL f.toList t.toList = b) (w : World) : Calls Try.prog 32 #[.agg #[.string f, .string t]] w fun e w' => e = .returned (.bool b) ∧ Up w w' := h ▸ is_any f t w
set_option maxHeartbeats 1600000 in
theorem rmeet_any (f t g u : ByteArray) (w : World) : Calls Try.prog 35 #[.agg #[.string f, .string t], .agg #[.string g, .string u]] w fun e w' => e = .returned (.bool (meetL f.toList t.toList g.toList u.toList)) ∧ Up w w' := by
  rw [meet_eq]
  have B1 := hd (is_any f t)
  have B2 := hd (is_any g u)
  have E1 := hd (rhas_any f t g)
  have E2 := hd (rhas_any g u f)
  generalize okL f.toList t.toList = b1 at *
  generalize okL g.toList u.toList = b2 at *
  generalize hasL f.toList t.toList g.toList = e1 at *
  generalize hasL g.toList u.toList f.toList = e2 at *
  cases b1 <;> cases b2 <;> cases e1 <;> cases e2
  all_goals
    simp only [Bool.and_true, Bool.and_false, Bool.false_and, Bool.true_and, Bool.or_true, Bool.or_false]
    go_enter Try.func35, Try.ntmps35
    go_wp2_with (first | (go_at_call_of 32 (Value.agg #[Value.string f, Value.string t]); refine (B1.out _).mono ?_; rintro e w1 ⟨rfl, hu⟩; obtain ⟨⟨c1, c2⟩, c3, c4⟩ := two_cells hu) | (go_at_call_of 32 (Value.agg #[Value.string g, Value.string u]); refine (B2.out _).mono ?_; rintro e w1 ⟨rfl, hu2⟩; replace hu := hu.trans hu2; obtain ⟨⟨c1, c2⟩, c3, c4⟩ := two_cells hu) | (go_at_call_of 33 (Value.agg #[Value.string f, Value.string t]); refine (E1.out _).mono ?_; rintro e w2 ⟨rfl, hu2⟩; replace hu := hu.trans hu2; obtain ⟨⟨c1, c2⟩, c3, c4⟩ := two_cells hu) | (go_at_call_of 33 (Value.agg #[Value.string g, Value.string u]); refine (E2.out _).mono ?_; rintro e w3 ⟨rfl, hu3⟩; replace hu := hu.trans hu3))
    go_ret
    exact ⟨rfl, two_up hu⟩
set_option maxHeartbeats 3200000 in
theorem rinside_any (f t g u : ByteArray) (w : World) : Calls Try.prog 37 #[.agg #[.string f, .string t], .agg #[.string g, .string u]] w fun e w' => e = .returned (.bool (insideL f.toList t.toList g.toList u.toList)) ∧ Up w w' := by
  have e : insideL f.toList t.toList g.toList u.toList = (okL f.toList t.toList && okL g.toList u.toList && !decide (f.toList < g.toList) && (u.toList.isEmpty || (!t.toList.isEmpty && !decide (u.toList < t.toList)))) := rfl
  rw [e]
  clear e
  have B1 := hd (is_any f t)
  have B2 := hd (is_any g u)
  have r1 := less_rule
  have r2 := ord_le
  generalize okL f.toList t.toList = b1 at *
  generalize okL g.toList u.toList = b2 at *
  cases b1
  · simp only [Bool.false_and]
    go_enter Try.func37, Try.ntmps37
    go_wp2_with (go_at_call 32; refine (B1.out _).mono ?_; rintro e w1 ⟨rfl, hu⟩)
    go_ret
    exact ⟨rfl, two_up hu⟩
  cases b2
  · simp only [Bool.and_false, Bool.false_and]
    go_enter Try.func37, Try.ntmps37
    go_wp2_with (first | (go_at_call_of 32 (Value.agg #[Value.string f, Value.string t]); refine (B1.out _).mono ?_; rintro e w1 ⟨rfl, hu⟩; obtain ⟨⟨c1, c2⟩, c3, c4⟩ := two_cells hu) | (go_at_call_of 32 (Value.agg #[Value.string g, Value.string u]); refine (B2.out _).mono ?_; rintro e w1 ⟨rfl, hu2⟩; replace hu := hu.trans hu2; obtain ⟨⟨c1, c2⟩, c3, c4⟩ := two_cells hu))
    go_ret
    exact ⟨rfl, two_up hu⟩
  by_cases h1 : f.toList < g.toList
  · simp only [h1, decide_true, Bool.not_true, Bool.and_false, Bool.false_and]
    go_enter Try.func37, Try.ntmps37
    go_wp2_with (first | (go_at_call_of 32 (Value.agg #[Value.string f, Value.string t]); refine (B1.out _).mono ?_; rintro e w1 ⟨rfl, hu⟩; obtain ⟨⟨c1, c2⟩, c3, c4⟩ := two_cells hu) | (go_at_call_of 32 (Value.agg #[Value.string g, Value.string u]); refine (B2.out _).mono ?_; rintro e w1 ⟨rfl, hu2⟩; replace hu := hu.trans hu2; obtain ⟨⟨c1, c2⟩, c3, c4⟩ := two_cells hu))
    go_ret
    exact ⟨rfl, two_up hu⟩
  cases h2 : u.toList.isEmpty <;> cases h3 : t.toList.isEmpty <;> by_cases h4 : u.toList < t.toList
  all_goals
    simp only [h1, h4, decide_true, decide_false, Bool.or_true, Bool.or_false, Bool.true_or, Bool.false_or, Bool.not_true, Bool.not_false, Bool.and_true, Bool.and_false, Bool.false_and, Bool.true_and]
    go_enter Try.func37, Try.ntmps37
    go_wp2_with (first | (go_at_call_of 32 (Value.agg #[Value.string f, Value.string t]); refine (B1.out _).mono ?_; rintro e w1 ⟨rfl, hu⟩; obtain ⟨⟨c1, c2⟩, c3, c4⟩ := two_cells hu) | (go_at_call_of 32 (Value.agg #[Value.string g, Value.string u]); refine (B2.out _).mono ?_; rintro e w1 ⟨rfl, hu2⟩; replace hu := hu.trans hu2; obtain ⟨⟨c1, c2⟩, c3, c4⟩ := two_cells hu))
    go_ret
    exact ⟨rfl, two_up hu⟩
set_option maxHeartbeats 1600000 in
theorem rnext_any (f t g u : ByteArray) (w : World) : Calls Try.prog 19 #[.agg #[.string f, .string t], .agg #[.string g, .string u]] w fun e w' => e = .returned (.bool (nextL f.toList t.toList g.toList u.toList)) ∧ Up w w' := by
  have e : nextL f.toList t.toList g.toList u.toList = (okL f.toList t.toList && okL g.toList u.toList && !t.toList.isEmpty && t.toList == g.toList) := rfl
  rw [e]
  clear e
  have B1 := hd (is_any f t)
  have B2 := hd (is_any g u)
  generalize okL f.toList t.toList = b1 at *
  generalize okL g.toList u.toList = b2 at *
  cases b1 <;> cases b2 <;> cases h2 : t.toList.isEmpty <;> cases h5 : (t.toList == g.toList)
  all_goals
    simp only [Bool.not_true, Bool.not_false, Bool.and_true, Bool.and_false, Bool.false_and, Bool.true_and]
    go_enter Try.func19, Try.ntmps19
    go_wp2_with (first | (go_at_call_of 32 (Value.agg #[Value.string f, Value.string t]); refine (B1.out _).mono ?_; rintro e w1 ⟨rfl, hu⟩; obtain ⟨⟨c1, c2⟩, c3, c4⟩ := two_cells hu) | (go_at_call_of 32 (Value.agg #[Value.string g, Value.string u]); refine (B2.out _).mono ?_; rintro e w1 ⟨rfl, hu2⟩; replace hu := hu.trans hu2; obtain ⟨⟨c1, c2⟩, c3, c4⟩ := two_cells hu))
    go_ret
    exact ⟨by first | rfl | (show Ending.returned (.bool (t.toList == g.toList)) = _; rw [h5]), two_up hu⟩
end Go.Proofs.Ytocfiflcbblakaa
