/-
  Lemmas, joined of the texts WSNil.
-/
import Derived.Test.YtopajmbblemopaaGreatDoorMB28
namespace Go.Proofs.YtopajmbblemopaaGreatDoor
set_option linter.unusedVariables false
set_option linter.unusedSimpArgs false
open Go.RowKit
theorem slive_at {w : World} (hG : Gl w) : ∀ w', Below w.heap.size w w' → Calls Tryz.prog 10 #[] w' fun e w2 => e = .returned (.bool true) ∧ Below w.heap.size w w2 := fun w' hb => slive_any w w' hG hb
set_option maxHeartbeats 1600000 in
theorem snil_walk (a0 : ByteArray) (_ : a0.size ≤ 140737488351232) (w : World) (hG : Gl w) :
    Calls Tryz.prog 7 #[.string a0] w fun e w' => e = .returned (.bool true) ∧ Below w.heap.size w w' := by
  have LV := hd (slive_at hG)
  clear hG
  by_cases hs : (6000 : Int) < a0.size
  · go_enter Tryz.func7, Tryz.ntmps7
    go_wp2_with (go_at_call 10; refine (LV.out _ (Below.refl _ _)).mono ?_; rintro e w1 ⟨rfl, hl⟩)
    go_ret
    exact ⟨rfl, hl⟩
  · have HC : Hd (∀ w1, Below w.heap.size w w1 → Below w.heap.size w (w1.alloc (.cells #[.string a0, .string ⟨#[]⟩, .bool false] 51))) := hd fun w1 hb => hb.alloc hb.size _
    go_enter Tryz.func7, Tryz.ntmps7
    go_wp2_with (first | (go_at_call 10; refine (LV.out _ (HC.out _ hb)).mono ?_; rintro e w2 ⟨rfl, hl⟩) | (go_at_call 13; refine (sopen_nil _).mono ?_; rintro e w1 ⟨rfl, hb⟩) | (go_at_call 12; refine (num5_any _ _).mono ?_; rintro e w' ⟨rfl, rfl⟩) | (go_at_call 18; refine (get_nil _ _).mono ?_; rintro e w' ⟨rfl, rfl⟩) | (go_at_call 14; refine (commit_nil _ _).mono ?_; rintro e w' ⟨rfl, rfl⟩) | (go_at_call 20; refine (pack_nil _).mono ?_; rintro e w' ⟨rfl, rfl⟩) | (go_at_call 15; refine (scan_nil _ _ _).mono ?_; rintro e w' ⟨rfl, rfl⟩) | (go_at_call 17; refine (len_nil _).mono ?_; rintro e w' ⟨rfl, rfl⟩) | (go_at_call 21; refine (records_nil _).mono ?_; rintro e w' ⟨rfl, rfl⟩) | (go_at_call 23; refine (sbroken_nil _).mono ?_; rintro e w' ⟨rfl, rfl⟩))
    go_ret
    exact ⟨rfl, hl⟩
end Go.Proofs.YtopajmbblemopaaGreatDoor
