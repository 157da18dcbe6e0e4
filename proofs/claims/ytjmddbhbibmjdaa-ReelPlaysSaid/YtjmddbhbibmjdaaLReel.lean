/-
  A reel that a law has made for itself: what each call does, and that nothing else has changed.
-/
import Derived.Test.YtjmddbhbibmjdaaReel8
namespace Go.Proofs.Ytjmddbhbibmjdaa
set_option linter.unusedVariables false
set_option linter.unusedSimpArgs false
open Go.RowKit

/-- The law began in w0; since then it has made this reel, and changed nothing that there was. -/
structure Mine (w0 w : World) (b : Nat) (s : RS) : Prop where
  below : Below w0.heap.size w0 w
  at_ : ∃ fp, ReelAt w b s fp ∧ ∀ k ∈ fp, w0.heap.size ≤ k

theorem Mine.drewN {w0 w : World} {b : Nat} {s : RS} (h : Mine w0 w b s) (n : Nat) : Mine w0 (w.drewN n) b s := by
  obtain ⟨hb, fp, ⟨ho, v0, v1, v2, v3, hp, hfp⟩, hf⟩ := h
  exact ⟨⟨hb.os, hb.tape, hb.output, hb.size, hb.block⟩, fp, ⟨ho, v0, v1, v2, v3, hp.drewN n, hfp⟩, hf⟩
theorem Mine.of_drawn {w0 w w' : World} {b : Nat} {s : RS} (h : Mine w0 w b s) (hd : Drawn w w') : Mine w0 w' b s := by
  obtain ⟨n, rfl⟩ := hd
  exact h.drewN n
theorem Mine.next {w0 w w' : World} {b : Nat} {s' : RS} {fp : List Nat} (hb : Below w0.heap.size w0 w) (hf : ∀ k ∈ fp, w0.heap.size ≤ k) (h : RPost w b fp s' w') : Mine w0 w' b s' := by
  obtain ⟨fp', hR, hC, hF⟩ := h
  have hs := hb.size
  refine ⟨hb.trans (hC.below hs hf), fp', hR, fun k hk => ?_⟩
  rcases hF k hk with q | q
  · exact hf k q
  · omega
theorem Mine.ok {w0 w : World} {b : Nat} {s : RS} (h : Mine w0 w b s) : s.Ok := by
  obtain ⟨hb, fp, hR, hf⟩ := h
  exact hR.1

theorem Mine.new (room : Int) (w0 w : World) (hb : Below w0.heap.size w0 w) (h0 : 0 ≤ room) (h1 : room ≤ 4194304) :
    Calls Try.prog 10 #[.int .i64 room] w fun e w' => ∃ b, e = .returned (.tuple #[.pointer (some ⟨b, 0, none⟩), .int .i64 0]) ∧ Mine w0 w' b (RS.new room) := by
  refine (new_any room w h0 h1).mono ?_
  rintro e w' ⟨b, fp, rfl, hR, hC, hf⟩
  have hs := hb.size
  exact ⟨b, rfl, hb.trans (hC.below hs (fun _ q => q.elim)), fp, hR, fun k hk => by have := hf k hk; omega⟩
theorem Mine.write {w0 w : World} {b : Nat} {s : RS} (h : Mine w0 w b s) (t : Int) (q : ByteArray) (s' : RS) (e : Int) (he : s.write t q.data.toList = (s', e)) (hq : (q.size : Int) ≤ 4194304) :
    Calls Try.prog 12 #[.pointer (some ⟨b, 0, none⟩), .int .i64 t, .string q] w fun r w' => r = .returned (.int .i64 e) ∧ Mine w0 w' b s' := by
  obtain ⟨hb, fp, hR, hf⟩ := h
  refine (write_any b t s fp w q hR hq).mono ?_
  rintro r w' ⟨rfl, hp⟩
  rw [he] at hp ⊢
  exact ⟨rfl, Mine.next hb hf hp⟩
theorem Mine.sync {w0 w : World} {b : Nat} {s : RS} (h : Mine w0 w b s) (t : Int) (s' : RS) (e : Int) (he : s.sync t = (s', e)) :
    Calls Try.prog 13 #[.pointer (some ⟨b, 0, none⟩), .int .i64 t] w fun r w' => r = .returned (.int .i64 e) ∧ Mine w0 w' b s' := by
  obtain ⟨hb, fp, hR, hf⟩ := h
  refine (sync_any b t s fp w hR).mono ?_
  rintro r w' ⟨rfl, hp⟩
  rw [he] at hp ⊢
  exact ⟨rfl, Mine.next hb hf hp⟩
theorem Mine.wipe {w0 w : World} {b : Nat} {s : RS} (h : Mine w0 w b s) (t : Int) (s' : RS) (e : Int) (he : s.wipe t = (s', e)) :
    Calls Try.prog 27 #[.pointer (some ⟨b, 0, none⟩), .int .i64 t] w fun r w' => r = .returned (.int .i64 e) ∧ Mine w0 w' b s' := by
  obtain ⟨hb, fp, hR, hf⟩ := h
  refine (wipe_any b t s fp w hR).mono ?_
  rintro r w' ⟨rfl, hp⟩
  rw [he] at hp ⊢
  exact ⟨rfl, Mine.next hb hf hp⟩
theorem Mine.trim {w0 w : World} {b : Nat} {s : RS} (h : Mine w0 w b s) (t n : Int) (s' : RS) (e : Int) (he : s.trim t n = (s', e)) :
    Calls Try.prog 26 #[.pointer (some ⟨b, 0, none⟩), .int .i64 t, .int .i64 n] w fun r w' => r = .returned (.int .i64 e) ∧ Mine w0 w' b s' := by
  obtain ⟨hb, fp, hR, hf⟩ := h
  refine (trim_any b t n s fp w hR).mono ?_
  rintro r w' ⟨rfl, hp⟩
  rw [he] at hp ⊢
  exact ⟨rfl, Mine.next hb hf hp⟩
theorem Mine.crash {w0 w : World} {b : Nat} {s : RS} (h : Mine w0 w b s) (k0 k1 : Int) (turn : UInt8) (v : Value) (hv : v = .agg #[.int .i64 k0, .int .i64 k1, .int .u8 turn.toNat]) (s' : RS) (he : s.crash k0 k1 turn = s') :
    Calls Try.prog 14 #[.pointer (some ⟨b, 0, none⟩), v] w fun r w' => r = .returned (.tuple #[]) ∧ Mine w0 w' b s' := by
  obtain ⟨hb, fp, hR, hf⟩ := h
  subst hv
  subst he
  refine (crash_any b k0 k1 turn s fp w hR).mono ?_
  rintro r w' ⟨rfl, hp⟩
  exact ⟨rfl, Mine.next hb hf hp⟩
theorem Mine.arm {w0 w : World} {b : Nat} {s : RS} (h : Mine w0 w b s) (n : Int) (s' : RS) (he : s.arm n = s') (h0 : -9223372036854775808 ≤ n) (h1 : n ≤ 9223372036854775807) :
    Calls Try.prog 16 #[.pointer (some ⟨b, 0, none⟩), .int .i64 n] w fun r w' => r = .returned (.tuple #[]) ∧ Mine w0 w' b s' := by
  obtain ⟨hb, fp, hR, hf⟩ := h
  subst he
  refine (arm_any b n s fp w hR h0 h1).mono ?_
  rintro r w' ⟨rfl, hp⟩
  exact ⟨rfl, Mine.next hb hf hp⟩
theorem Mine.read {w0 w : World} {b : Nat} {s : RS} (h : Mine w0 w b s) (t : Int) (l : List UInt8) (e : Int) (he : s.read t = (l, e)) :
    Calls Try.prog 15 #[.pointer (some ⟨b, 0, none⟩), .int .i64 t] w fun r w' => r = .returned (.tuple #[.string (str l), .int .i64 e]) ∧ Mine w0 w' b s := by
  obtain ⟨hb, fp, hR, hf⟩ := h
  refine (read_any b t s fp w hR).mono ?_
  rintro r w' ⟨rfl, hp⟩
  rw [he]
  exact ⟨rfl, Mine.of_drawn ⟨hb, fp, hR, hf⟩ hp⟩
theorem Mine.free {w0 w : World} {b : Nat} {s : RS} (h : Mine w0 w b s) (n : Int) (he : s.free = n) :
    Calls Try.prog 19 #[.pointer (some ⟨b, 0, none⟩)] w fun r w' => r = .returned (.int .i64 n) ∧ Mine w0 w' b s := by
  obtain ⟨hb, fp, hR, hf⟩ := h
  subst he
  refine (free_any b s fp w hR).mono ?_
  rintro r w' ⟨rfl, hp⟩
  exact ⟨rfl, Mine.of_drawn ⟨hb, fp, hR, hf⟩ hp⟩
theorem Mine.dead {w0 w : World} {b : Nat} {s : RS} (h : Mine w0 w b s) (n : Bool) (he : s.dead = n) :
    Calls Try.prog 17 #[.pointer (some ⟨b, 0, none⟩)] w fun r w' => r = .returned (.bool n) ∧ w = w' := by
  obtain ⟨hb, fp, hR, hf⟩ := h
  subst he
  exact dead_any b s fp w hR
theorem Mine.ops {w0 w : World} {b : Nat} {s : RS} (h : Mine w0 w b s) (n : Int) (he : s.ops = n) :
    Calls Try.prog 18 #[.pointer (some ⟨b, 0, none⟩)] w fun r w' => r = .returned (.int .i64 n) ∧ w = w' := by
  obtain ⟨hb, fp, hR, hf⟩ := h
  subst he
  exact ops_any b s fp w hR
theorem num_any (n : Int) (w : World) : Calls Try.prog 11 #[.int .i64 n] w fun r w' => r = .returned (.int .i64 n) ∧ w = w' := by
  go_enter Try.func11, Try.ntmps11
  go_wp2
  go_ret
  exact ⟨rfl, rfl⟩
end Go.Proofs.Ytjmddbhbibmjdaa
