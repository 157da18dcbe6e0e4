/-
  Keys and bounds: what the layer's own functions answer.
-/
import Derived.Test.YtocfiflcbblakaaRows
import Derived.Test.YtocfiflcbblakaaB0
import Derived.IntWalk
namespace Go.Proofs.Ytocfiflcbblakaa
set_option linter.unusedVariables false
set_option linter.unusedSimpArgs false
open Go.RowKit

theorem less_rule (x y : ByteArray) : Op.bytesLess x.toList y.toList = decide (x.toList < y.toList) := bytesLess_lt _ _
theorem key_any (k : ByteArray) (w : World) : Calls Try.prog 30 #[.string k] w fun e w' => e = .returned (.int .i64 (err20 (keyL k.toList))) ∧ w = w' := by
  have hz := size_toList k
  cases hE : k.toList.isEmpty with
  | true =>
    have e : keyL k.toList = false := by
      have : k.toList = [] := by simpa using hE
      rw [this]; rfl
    rw [e, err20_f]
    clear e hz
    go_enter Try.func30, Try.ntmps30
    go_wp2
    go_ret
    exact ⟨rfl, rfl⟩
  | false =>
    have h0 : 1 ≤ k.size := by
      have : k.toList ≠ [] := by simpa using hE
      have := List.length_pos_iff.2 this
      omega
    by_cases h : (k.size : Int) ≤ 32
    all_goals
      have e : keyL k.toList = decide ((k.size : Int) ≤ 32) := by
        unfold keyL
        rw [hz]
        simp only [h0, decide_true, Bool.true_and]
        congr 1
        simp only [eq_iff_iff]
        omega
      simp only [h, decide_true, decide_false] at e
      rw [e]
      clear e hz h0
      go_enter Try.func30, Try.ntmps30
      go_wp2
      go_ret
      exact ⟨rfl, rfl⟩
set_option maxHeartbeats 400000 in
theorem check_any (f t : ByteArray) (w : World) : Calls Try.prog 29 #[.agg #[.string f, .string t]] w fun e w' => e = .returned (.int .i64 (err20 (okL f.toList t.toList))) ∧ Up w w' := by
  have hU := hd (Up.made w)
  have zf := size_toList f
  have zt := size_toList t
  have e : okL f.toList t.toList = (decide ((f.size : Int) ≤ 33) && decide ((t.size : Int) ≤ 33) && (t.toList.isEmpty || decide (f.toList < t.toList))) := by
    unfold okL
    rw [zf, zt]
    congr 2 <;> (congr 1; simp only [eq_iff_iff]; omega)
  have r1 := less_rule
  have r2 := ord_le
  by_cases hz : (f.size : Int) ≤ 33 ∧ (t.size : Int) ≤ 33
  · obtain ⟨hf, ht⟩ := hz
    simp only [hf, ht, decide_true, Bool.true_and] at e
    by_cases hm : (f.size : Int) < (t.size : Int) <;> cases hE : t.toList.isEmpty <;> by_cases hL : f.toList < t.toList
    all_goals
      simp only [hE, hL, decide_true, decide_false, Bool.or_true, Bool.or_false, Bool.true_or, Bool.false_or] at e
      rw [e]
      clear e zf zt
      go_enter Try.func29, Try.ntmps29
      go_wp2
      go_ret
      exact ⟨rfl, hU.out _⟩
  · have : (decide ((f.size : Int) ≤ 33) && decide ((t.size : Int) ≤ 33)) = false := by
      cases h : (decide ((f.size : Int) ≤ 33) && decide ((t.size : Int) ≤ 33)) with
      | false => rfl
      | true => simp at h; exact absurd h (by omega)
    rw [this, Bool.false_and] at e
    rw [e]
    clear e zf zt this
    by_cases hm : (f.size : Int) < (t.size : Int)
    · have h1 : 33 < (t.size : Int) := by omega
      clear hz
      go_enter Try.func29, Try.ntmps29
      go_wp2
      go_ret
      exact ⟨rfl, hU.out _⟩
    · have h1 : 33 < (f.size : Int) := by omega
      clear hz
      go_enter Try.func29, Try.ntmps29
      go_wp2
      go_ret
      exact ⟨rfl, hU.out _⟩
end Go.Proofs.Ytocfiflcbblakaa
