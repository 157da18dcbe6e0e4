/-
  The reel's methods that write numbers alone: what each call does.
-/
import Derived.Test.YtjmddbhbibmjdaaProg
import Derived.Test.YtjmddbhbibmjdaaRA
namespace Go.Proofs.Ytjmddbhbibmjdaa
set_option linter.unusedVariables false
set_option linter.unusedSimpArgs false
open Go.RowKit

theorem num_post {w : World} {b : Nat} {s s' : RS} {v0 v1 v2 v3 : Value} (h : RParts w b s v0 v1 v2 v3) (k : Nat) (u : Value) (hs : (RCells v0 v1 v2 v3 s).set k u = RCells v0 v1 v2 v3 s')
    (ht : s'.s0 = s.s0 ∧ s'.r0 = s.r0 ∧ s'.s1 = s.s1 ∧ s'.r1 = s.r1) (hok : s'.Ok) : RPost w b (RFoot b v0 v1 v2 v3) s' (w.setCell ⟨b, k, none⟩ u) :=
  ⟨_, ⟨hok, v0, v1, v2, v3, h.num k u hs ht, rfl⟩, (Chg.refl _ w).setCell (.inl (by simp [RFoot])) u, fun _ hk => .inl hk⟩
theorem same_post {w : World} {b : Nat} {s : RS} {v0 v1 v2 v3 : Value} (h : RParts w b s v0 v1 v2 v3) (hok : s.Ok) : RPost w b (RFoot b v0 v1 v2 v3) s w :=
  ⟨_, ⟨hok, v0, v1, v2, v3, h, rfl⟩, Chg.refl _ w, fun _ hk => .inl hk⟩

set_option maxHeartbeats 400000 in
theorem begin_any (b : Nat) (t : Int) (s : RS) (fp : List Nat) (w : World) (hR : ReelAt w b s fp) :
    Calls Try.prog 28 #[.pointer (some ⟨b, 0, none⟩), .int .i64 t] w fun e w' => e = .returned (.int .i64 (s.begin_ t).2) ∧ RPost w b fp (s.begin_ t).1 w' := by
  obtain ⟨hok, v0, v1, v2, v3, hp, rfl⟩ := hR
  obtain ⟨-, -, c5, c6, -⟩ := hp.cells
  have f5 := hp.blk.frozen 5
  have f6 := hp.blk.frozen 6
  have l0 := hok.left0
  have l1 := hok.left1
  have HP := hd hp
  have HO := hd hok
  clear hp hok
  by_cases ht0 : t < 0
  · have e : s.begin_ t = (s, 2) := RS.begin_bad (.inl ht0)
    have E := hd e
    clear e
    go_enter Try.func28, Try.ntmps28
    go_wp2
    go_ret
    rw [E.out]
    exact ⟨rfl, same_post HP.out HO.out⟩
  by_cases ht1 : 2 ≤ t
  · have e : s.begin_ t = (s, 2) := RS.begin_bad (.inr ht1)
    have E := hd e
    clear e
    go_enter Try.func28, Try.ntmps28
    go_wp2
    go_ret
    rw [E.out]
    exact ⟨rfl, same_post HP.out HO.out⟩
  have e : s.begin_ t = s.start := if_neg (by omega)
  cases hdd : s.dead with
  | true =>
    have e2 : s.start = ({ s with dead := true }, 30) := if_pos (.inl hdd)
    rw [e2] at e
    have E := hd e
    rw [hdd] at c6
    clear e e2 hdd
    go_enter Try.func28, Try.ntmps28
    go_wp2
    go_ret
    rw [E.out]
    exact ⟨rfl, num_post HP.out 6 _ rfl ⟨rfl, rfl, rfl, rfl⟩ ⟨HO.out.room0, HO.out.room1, HO.out.used, HO.out.left0, HO.out.left1⟩⟩
  | false =>
    rw [hdd] at c6
    by_cases hl : s.left = 0
    · have e2 : s.start = ({ s with dead := true }, 30) := if_pos (.inr hl)
      rw [e2] at e
      have E := hd e
      have hl' : (s.left == 0) = true := by simp [hl]
      clear e e2 hdd hl
      go_enter Try.func28, Try.ntmps28
      go_wp2
      go_ret
      rw [E.out]
      exact ⟨rfl, num_post HP.out 6 _ rfl ⟨rfl, rfl, rfl, rfl⟩ ⟨HO.out.room0, HO.out.room1, HO.out.used, HO.out.left0, HO.out.left1⟩⟩
    · have hn : ¬ (s.dead = true ∨ s.left = 0) := by simp [hdd, hl]
      have hl' : (s.left == 0) = false := by simp [hl]
      by_cases hp : 0 < s.left
      · have e2 : s.start = ({ s with left := s.left - 1 }, 0) := by unfold RS.start; rw [if_neg hn, if_pos hp]
        rw [e2] at e
        have E := hd e
        clear e e2 hdd hl hn
        go_enter Try.func28, Try.ntmps28
        go_wp2
        go_ret
        rw [E.out]
        exact ⟨rfl, num_post HP.out 5 _ rfl ⟨rfl, rfl, rfl, rfl⟩ ⟨HO.out.room0, HO.out.room1, HO.out.used, by simp; omega, by simp; omega⟩⟩
      · have e2 : s.start = (s, 0) := by unfold RS.start; rw [if_neg hn, if_neg hp]
        rw [e2] at e
        have E := hd e
        clear e e2 hdd hl hn
        go_enter Try.func28, Try.ntmps28
        go_wp2
        go_ret
        rw [E.out]
        exact ⟨rfl, same_post HP.out HO.out⟩

theorem begin_nil (t : Int) (w : World) : Calls Try.prog 28 #[.pointer none, .int .i64 t] w fun e w' => e = .returned (.int .i64 7) ∧ w = w' := by
  go_enter Try.func28, Try.ntmps28
  go_wp2
  go_ret
  exact ⟨rfl, rfl⟩
end Go.Proofs.Ytjmddbhbibmjdaa
