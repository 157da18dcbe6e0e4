/-
  The walk of ReelNil.
-/
import Derived.Test.YtjmddbhbibmjdaaLive3
namespace Go.Proofs.Ytjmddbhbibmjdaa
set_option linter.unusedVariables false
set_option linter.unusedSimpArgs false
open Go.RowKit
set_option maxHeartbeats 1600000 in
theorem nil_walk (a0 : Int) (_ : (Lit.int .i64 a0).wf = true) (a1 : ByteArray) (_ : a1.size ≤ 140737488351232) (w : World) :
    Calls Try.prog 7 #[.int .i64 a0, .string a1] w fun e w' => e = .returned (.bool true) ∧ Below w.heap.size w w' := by
  go_enter Try.func7, Try.ntmps7
  go_wp2_with (first | (go_at_call 9; refine (live_any w _ (by first | exact hb | exact Below.refl _ _)).mono ?_; rintro e w1 ⟨rfl, hl⟩) | (go_at_call 16; refine (arm_nil _ _).mono ?_; rintro e w1 ⟨rfl, rfl⟩) | (go_at_call 15; refine (read_nil _ _).mono ?_; rintro e w1 ⟨rfl, rfl⟩) | (go_at_call 12; refine (write_nil _ _ _).mono ?_; rintro e w1 ⟨rfl, rfl⟩) | (go_at_call 13; refine (sync_nil _ _).mono ?_; rintro e w1 ⟨rfl, rfl⟩) | (go_at_call 27; refine (wipe_nil _ _).mono ?_; rintro e w1 ⟨rfl, rfl⟩) | (go_at_call 26; refine (trim_nil _ _ _).mono ?_; rintro e w1 ⟨rfl, rfl⟩) | (go_at_call 19; refine (free_nil _).mono ?_; rintro e w1 ⟨rfl, rfl⟩) | (go_at_call 18; refine (ops_nil _).mono ?_; rintro e w1 ⟨rfl, rfl⟩) | (go_at_call 17; refine (dead_nil _).mono ?_; rintro e w1 ⟨rfl, rfl⟩) | (go_at_call 14; refine (crash_nil _ 0 0 0 _ rfl).mono ?_; rintro e w1 ⟨rfl, hb⟩) | (go_at_call 11; refine (num_any _ _).mono ?_; rintro e w' ⟨rfl, rfl⟩))
  all_goals
    go_ret
    exact ⟨rfl, hl⟩

end Go.Proofs.Ytjmddbhbibmjdaa
