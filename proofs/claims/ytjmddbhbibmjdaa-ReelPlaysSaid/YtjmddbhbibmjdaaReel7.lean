/-
  Read, Arm, Dead, Ops, New.
-/
import Derived.Test.YtjmddbhbibmjdaaReel6
namespace Go.Proofs.Ytjmddbhbibmjdaa
set_option linter.unusedVariables false
set_option linter.unusedSimpArgs false
open Go.RowKit

theorem str_cat (l m : List UInt8) : str l ++ str m = str (l ++ m) := ByteArray.mk_append_mk l m

set_option maxHeartbeats 800000 in
theorem read0 (b : Nat) (s : RS) (fp : List Nat) (w : World) (hR : ReelAt w b s fp) (hd0 : s.dead = false) :
    Calls Try.prog 15 #[.pointer (some ⟨b, 0, none⟩), .int .i64 0] w fun e w' => e = .returned (.tuple #[.string (str (s.s0 ++ s.r0)), .int .i64 0]) ∧ Drawn w w' := by
  obtain ⟨hok, v0, v1, v2, v3, hp, rfl⟩ := hR
  obtain ⟨⟨c0, c1, c2, c3⟩, c4, c5, c6, c7⟩ := hp.cells
  rw [hd0] at c6
  have hs := hok.small
  have k0 : ∀ n, (convert 34 9 v0).run Try.prog (w.drewN n) = .ok (.string (str s.s0)) (w.drewN n) := fun n => run_string_row Try.underlying34 Try.underlying5 Try.underlying9 (hp.row0.drewN n)
  have k1 : ∀ n, (convert 34 9 v1).run Try.prog (w.drewN n) = .ok (.string (str s.r0)) (w.drewN n) := fun n => run_string_row Try.underlying34 Try.underlying5 Try.underlying9 (hp.row1.drewN n)
  have z0 : (str s.s0).size ≤ 4194304 := by rw [str_size]; omega
  have z1 : (str s.r0).size ≤ 4194304 := by rw [str_size]; omega
  have HC := hd (str_cat s.s0 s.r0)
  clear hp hok hd0 hs
  go_enter Try.func15, Try.ntmps15
  go_wp2
  go_quiet (fail)
  go_wp2
  go_ret2
  rw [← HC.out]
  exact ⟨rfl, _, rfl⟩
set_option maxHeartbeats 800000 in
theorem read1 (b : Nat) (s : RS) (fp : List Nat) (w : World) (hR : ReelAt w b s fp) (hd0 : s.dead = false) :
    Calls Try.prog 15 #[.pointer (some ⟨b, 0, none⟩), .int .i64 1] w fun e w' => e = .returned (.tuple #[.string (str (s.s1 ++ s.r1)), .int .i64 0]) ∧ Drawn w w' := by
  obtain ⟨hok, v0, v1, v2, v3, hp, rfl⟩ := hR
  obtain ⟨⟨c0, c1, c2, c3⟩, c4, c5, c6, c7⟩ := hp.cells
  rw [hd0] at c6
  have hs := hok.small
  have k0 : ∀ n, (convert 34 9 v2).run Try.prog (w.drewN n) = .ok (.string (str s.s1)) (w.drewN n) := fun n => run_string_row Try.underlying34 Try.underlying5 Try.underlying9 (hp.row2.drewN n)
  have k1 : ∀ n, (convert 34 9 v3).run Try.prog (w.drewN n) = .ok (.string (str s.r1)) (w.drewN n) := fun n => run_string_row Try.underlying34 Try.underlying5 Try.underlying9 (hp.row3.drewN n)
  have z0 : (str s.s1).size ≤ 4194304 := by rw [str_size]; omega
  have z1 : (str s.r1).size ≤ 4194304 := by rw [str_size]; omega
  have HC := hd (str_cat s.s1 s.r1)
  clear hp hok hd0 hs
  go_enter Try.func15, Try.ntmps15
  go_wp2
  go_quiet (fail)
  go_wp2
  go_ret2
  rw [← HC.out]
  exact ⟨rfl, _, rfl⟩

set_option maxHeartbeats 800000 in
theorem read_any (b : Nat) (t : Int) (s : RS) (fp : List Nat) (w : World) (hR : ReelAt w b s fp) :
    Calls Try.prog 15 #[.pointer (some ⟨b, 0, none⟩), .int .i64 t] w fun e w' => e = .returned (.tuple #[.string (str (s.read t).1), .int .i64 (s.read t).2]) ∧ Drawn w w' := by
  by_cases ht : t < 0 ∨ 2 ≤ t
  · have e : s.read t = ([], 2) := if_pos ht
    rw [e]
    rcases ht with ht | ht
    · go_enter Try.func15, Try.ntmps15
      go_wp2
      go_ret2
      exact ⟨rfl, 0, rfl⟩
    · go_enter Try.func15, Try.ntmps15
      go_wp2
      go_ret2
      exact ⟨rfl, 0, rfl⟩
  · cases hdd : s.dead with
    | true =>
      have e : s.read t = ([], 30) := by unfold RS.read; rw [if_neg ht, if_pos hdd]
      rw [e]
      obtain ⟨hok, v0, v1, v2, v3, hp, rfl⟩ := hR
      have c6 := hp.cells.2.2.2.1
      rw [hdd] at c6
      clear hp hok e hdd
      have h0 : 0 ≤ t := by omega
      have h1 : t < 2 := by omega
      clear ht
      go_enter Try.func15, Try.ntmps15
      go_wp2
      go_ret2
      exact ⟨rfl, 0, rfl⟩
    | false =>
      have e : s.read t = (s.safe t ++ s.rest t, 0) := by unfold RS.read; rw [if_neg ht, if_neg (by simp [hdd])]
      rw [e]
      rcases (show t = 0 ∨ t = 1 from by omega) with rfl | rfl
      · exact read0 b s fp w hR hdd
      · exact read1 b s fp w hR hdd
theorem read_nil (t : Int) (w : World) : Calls Try.prog 15 #[.pointer none, .int .i64 t] w fun e w' => e = .returned (.tuple #[.string (str []), .int .i64 7]) ∧ w = w' := by
  go_enter Try.func15, Try.ntmps15
  go_wp2
  go_ret2
  exact ⟨rfl, rfl⟩

theorem arm_any (b : Nat) (n : Int) (s : RS) (fp : List Nat) (w : World) (hR : ReelAt w b s fp) (h0 : -9223372036854775808 ≤ n) (h1 : n ≤ 9223372036854775807) :
    Calls Try.prog 16 #[.pointer (some ⟨b, 0, none⟩), .int .i64 n] w fun e w' => e = .returned (.tuple #[]) ∧ RPost w b fp (s.arm n) w' := by
  obtain ⟨hok, v0, v1, v2, v3, hp, rfl⟩ := hR
  have c5 := hp.cells.2.2.1
  have f5 := hp.blk.frozen 5
  have HP := hd (num_post hp (s' := s.arm n) 5 (.int .i64 n) rfl ⟨rfl, rfl, rfl, rfl⟩ (hok.arm h0 h1))
  clear hp hok
  go_enter Try.func16, Try.ntmps16
  go_wp2
  go_end0
  exact ⟨rfl, HP.out⟩
theorem arm_nil (n : Int) (w : World) : Calls Try.prog 16 #[.pointer none, .int .i64 n] w fun e w' => e = .returned (.tuple #[]) ∧ w = w' := by
  go_enter Try.func16, Try.ntmps16
  go_wp2
  go_end0
  exact ⟨rfl, rfl⟩

theorem dead_any (b : Nat) (s : RS) (fp : List Nat) (w : World) (hR : ReelAt w b s fp) :
    Calls Try.prog 17 #[.pointer (some ⟨b, 0, none⟩)] w fun e w' => e = .returned (.bool s.dead) ∧ w = w' := by
  obtain ⟨hok, v0, v1, v2, v3, hp, rfl⟩ := hR
  have c6 := hp.cells.2.2.2.1
  clear hp hok
  go_enter Try.func17, Try.ntmps17
  go_wp2
  go_ret
  exact ⟨rfl, rfl⟩
theorem dead_nil (w : World) : Calls Try.prog 17 #[.pointer none] w fun e w' => e = .returned (.bool false) ∧ w = w' := by
  go_enter Try.func17, Try.ntmps17
  go_wp2
  go_ret
  exact ⟨rfl, rfl⟩
theorem ops_any (b : Nat) (s : RS) (fp : List Nat) (w : World) (hR : ReelAt w b s fp) :
    Calls Try.prog 18 #[.pointer (some ⟨b, 0, none⟩)] w fun e w' => e = .returned (.int .i64 s.ops) ∧ w = w' := by
  obtain ⟨hok, v0, v1, v2, v3, hp, rfl⟩ := hR
  have c7 := hp.cells.2.2.2.2
  clear hp hok
  go_enter Try.func18, Try.ntmps18
  go_wp2
  go_ret
  exact ⟨rfl, rfl⟩
theorem ops_nil (w : World) : Calls Try.prog 18 #[.pointer none] w fun e w' => e = .returned (.int .i64 0) ∧ w = w' := by
  go_enter Try.func18, Try.ntmps18
  go_wp2
  go_ret
  exact ⟨rfl, rfl⟩

/-- A reel that is new. -/
def RS.new (room : Int) : RS := { s0 := [], r0 := [], s1 := [], r1 := [], room := room, left := -1, dead := false, ops := 0 }
theorem RS.new_ok {room : Int} (h0 : 0 ≤ room) (h1 : room ≤ 4194304) : (RS.new room).Ok :=
  ⟨h0, h1, by simp [RS.used, RS.new]; exact h0, by show (-9223372036854775808 : Int) ≤ -1; decide, by show (-1 : Int) ≤ 9223372036854775807; decide⟩

theorem new_bad (room : Int) (w : World) (h : room < 0 ∨ 4194304 < room) :
    Calls Try.prog 10 #[.int .i64 room] w fun e w' => e = .returned (.tuple #[.pointer none, .int .i64 2]) ∧ w = w' := by
  rcases h with h | h
  · go_enter Try.func10, Try.ntmps10
    go_wp2
    go_ret2
    exact ⟨rfl, rfl⟩
  · have h' : 0 ≤ room := by omega
    go_enter Try.func10, Try.ntmps10
    go_wp2
    go_ret2
    exact ⟨rfl, rfl⟩
def NewPost (w : World) (room : Int) (e : Ending) (w' : World) : Prop := ∃ b fp, e = .returned (.tuple #[.pointer (some ⟨b, 0, none⟩), .int .i64 0]) ∧ ReelAt w' b (RS.new room) fp ∧ Chg (fun _ => False) w w' ∧ ∀ k ∈ fp, w.heap.size ≤ k
set_option maxHeartbeats 800000 in
theorem new_any (room : Int) (w : World) (h0 : 0 ≤ room) (h1 : room ≤ 4194304) :
    Calls Try.prog 10 #[.int .i64 room] w (NewPost w room) := by
  go_enter Try.func10, Try.ntmps10
  go_wp2
  go_ret2
  refine ⟨w.heap.size, _, rfl, ⟨RS.new_ok h0 h1, .slice none 0 0, .slice none 0 0, .slice none 0 0, .slice none 0 0, ⟨Blk.new w (RCells (.slice none 0 0) (.slice none 0 0) (.slice none 0 0) (.slice none 0 0) (RS.new room)) 63, Row.nil _ _, Row.nil _ _, Row.nil _ _, Row.nil _ _, ?_⟩, rfl⟩, (Chg.refl _ w).alloc _, ?_⟩
  · constructor <;> first | (intro k h; cases h; done) | (intro h; cases h; done)
  · intro k hk
    rcases mem_RFoot.1 hk with q | q | q | q | q
    · omega
    all_goals cases q
end Go.Proofs.Ytjmddbhbibmjdaa
