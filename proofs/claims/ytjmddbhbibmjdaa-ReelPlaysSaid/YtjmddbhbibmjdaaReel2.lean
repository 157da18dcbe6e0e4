/-
  What a reel's lengths come to; what stands on its tapes.
-/
import Derived.Test.YtjmddbhbibmjdaaReel1
namespace Go.Proofs.Ytjmddbhbibmjdaa
set_option linter.unusedVariables false
set_option linter.unusedSimpArgs false
open Go.RowKit

/-- Some orders have been drawn, no more. -/
def Drawn (w w' : World) : Prop := ∃ n, w' = w.drewN n

set_option maxHeartbeats 400000 in
theorem tapelen_any (b off : Nat) (A0 A1 : Option Addr) (n0 n1 k0 k1 : Nat) (w : World)
    (h0 : w.cell? ⟨b, off, none⟩ = some (.slice A0 n0 k0)) (h1 : w.cell? ⟨b, off + 1, none⟩ = some (.slice A1 n1 k1)) (l0 : n0 ≤ 4194304) (l1 : n1 ≤ 4194304) :
    Calls Try.prog 29 #[.pointer (some ⟨b, off, none⟩)] w fun e w' => e = .returned (.int .i64 ((n0 : Int) + n1)) ∧ Drawn w w' := by
  go_enter Try.func29, Try.ntmps29
  go_wp2
  go_quiet (fail)
  go_wp2
  go_ret
  exact ⟨rfl, _, rfl⟩

theorem Row.small {w : World} {e : TypeId} {v : Value} {l : List UInt8} (h : Row w e v (u8s l)) : ∃ A c, v = .slice A l.length c := by
  obtain ⟨A, c, q⟩ := h.form
  exact ⟨A, c, by rw [q, u8s_length]⟩

set_option maxHeartbeats 800000 in
theorem free_any (b : Nat) (s : RS) (fp : List Nat) (w : World) (hR : ReelAt w b s fp) :
    Calls Try.prog 19 #[.pointer (some ⟨b, 0, none⟩)] w fun e w' => e = .returned (.int .i64 s.free) ∧ Drawn w w' := by
  obtain ⟨hok, v0, v1, v2, v3, hp, rfl⟩ := hR
  obtain ⟨⟨c0, c1, c2, c3⟩, c4, -, -, -⟩ := hp.cells
  obtain ⟨A0, k0, rfl⟩ := hp.row0.small
  obtain ⟨A1, k1, rfl⟩ := hp.row1.small
  obtain ⟨A2, k2, rfl⟩ := hp.row2.small
  obtain ⟨A3, k3, rfl⟩ := hp.row3.small
  obtain ⟨h1, h2, h3, h4, h5⟩ := hok
  have E : Hd (s.free = s.room - (s.s0.length + s.r0.length) - (s.s1.length + s.r1.length)) := ⟨rfl⟩
  have h6 : s.s0.length + s.r0.length + (s.s1.length + s.r1.length) ≤ 4194304 := by simp only [RS.used] at h3; omega
  rw [E.out]
  clear h3 h4 h5 hp E
  generalize s.s0.length = n0 at *
  generalize s.r0.length = n1 at *
  generalize s.s1.length = n2 at *
  generalize s.r1.length = n3 at *
  generalize s.room = m at *
  go_enter Try.func19, Try.ntmps19
  go_wp2
  refine wp_loop_rounds 3 ?_
  rw [rounds_succ]
  go_wp2_with (go_at_call 29; refine (tapelen_any b 0 A0 A1 n0 n1 k0 k1 _ (by go_simp) (by go_simp) (by omega) (by omega)).mono ?_; rintro e w' ⟨rfl, n, rfl⟩)
  rw [rounds_succ]
  go_wp2_with (go_at_call 29; refine (tapelen_any b 2 A2 A3 n2 n3 k2 k3 _ (by go_simp) (by go_simp) (by omega) (by omega)).mono ?_; rintro e w' ⟨rfl, n, rfl⟩)
  rw [rounds_succ]
  go_wp2
  go_ret
  exact ⟨rfl, _, rfl⟩
theorem free_nil (w : World) : Calls Try.prog 19 #[.pointer none] w fun e w' => e = .returned (.int .i64 0) ∧ w = w' := by
  go_enter Try.func19, Try.ntmps19
  go_wp2
  go_ret
  exact ⟨rfl, rfl⟩
end Go.Proofs.Ytjmddbhbibmjdaa
