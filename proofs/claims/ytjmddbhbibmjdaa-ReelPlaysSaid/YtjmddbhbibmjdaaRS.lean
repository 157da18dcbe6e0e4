/-
  The reel as plain data: two tapes, each what is safe and what is not yet. No program in sight.
-/
import Derived.Test.YtjmddbhbibmjdaaFw2
namespace Go.Proofs.Ytjmddbhbibmjdaa
set_option linter.unusedVariables false
set_option linter.unusedSimpArgs false
open Go.RowKit

structure RS where
  s0 : List UInt8
  r0 : List UInt8
  s1 : List UInt8
  r1 : List UInt8
  room : Int
  left : Int
  dead : Bool
  ops : Int

namespace RS
def used (s : RS) : Nat := s.s0.length + s.r0.length + (s.s1.length + s.r1.length)
structure Ok (s : RS) : Prop where
  room0 : 0 ≤ s.room
  room1 : s.room ≤ 4194304
  used : (s.used : Int) ≤ s.room
  left0 : -9223372036854775808 ≤ s.left
  left1 : s.left ≤ 9223372036854775807
def free (s : RS) : Int := s.room - (s.s0.length + s.r0.length) - (s.s1.length + s.r1.length)
/-- The first error of an operation at a tape that there is. -/
def start (s : RS) : RS × Int :=
  if s.dead = true ∨ s.left = 0 then ({ s with dead := true }, 30)
  else if 0 < s.left then ({ s with left := s.left - 1 }, 0) else (s, 0)
def begin_ (s : RS) (t : Int) : RS × Int := if t < 0 ∨ 2 ≤ t then (s, 2) else s.start
def safe (s : RS) (t : Int) : List UInt8 := if t = 0 then s.s0 else s.s1
def rest (s : RS) (t : Int) : List UInt8 := if t = 0 then s.r0 else s.r1
/-- A tape set anew. -/
def put (s : RS) (t : Int) (a b : List UInt8) : RS := if t = 0 then { s with s0 := a, r0 := b } else { s with s1 := a, r1 := b }
def tick (s : RS) : RS := { s with ops := wrap64 (s.ops + 1) }
/-- An operation behind its start. -/
def op (s : RS) (t : Int) (f : RS → RS × Int) : RS × Int := if (s.begin_ t).2 ≠ 0 then s.begin_ t else f (s.begin_ t).1
def write1 (s : RS) (t : Int) (q : List UInt8) : RS × Int :=
  if s.free < q.length then (s, 5) else (s.tick.put t (s.safe t) (s.rest t ++ q), 0)
def sync1 (s : RS) (t : Int) : RS × Int := (s.tick.put t (s.safe t ++ s.rest t) [], 0)
def wipe1 (s : RS) (t : Int) : RS × Int := (s.tick.put t [] [], 0)
def trim1 (s : RS) (t n : Int) : RS × Int :=
  if ((s.safe t).length + (s.rest t).length : Int) < n then (s, 2)
  else (s.tick.put t ((s.safe t).take n.toNat) ((s.rest t).take (n.toNat - (s.safe t).length)), 0)
def write (s : RS) (t : Int) (q : List UInt8) : RS × Int := s.op t (·.write1 t q)
def sync (s : RS) (t : Int) : RS × Int := s.op t (·.sync1 t)
def wipe (s : RS) (t : Int) : RS × Int := s.op t (·.wipe1 t)
def trim (s : RS) (t n : Int) : RS × Int := if n < 0 then (s, 2) else s.op t (·.trim1 t n)
def read (s : RS) (t : Int) : List UInt8 × Int :=
  if t < 0 ∨ 2 ≤ t then ([], 2) else if s.dead = true then ([], 30) else (s.safe t ++ s.rest t, 0)
def arm (s : RS) (n : Int) : RS := { s with left := n }
/-- What is kept of what was not safe. -/
def keepn (l : List UInt8) (keep : Int) : Nat := (max 0 (min keep l.length)).toNat
def kept (l : List UInt8) (keep : Int) (turn : UInt8) : List UInt8 :=
  let k := l.take (keepn l keep)
  if k.length = 0 then [] else k.set (k.length - 1) (k.getD (k.length - 1) 0 ^^^ turn)
def crash (s : RS) (k0 k1 : Int) (turn : UInt8) : RS :=
  { s with dead := false, left := -1, s0 := s.s0 ++ kept s.r0 k0 turn, r0 := [], s1 := s.s1 ++ kept s.r1 k1 turn, r1 := [] }

theorem Ok.start {s : RS} (h : s.Ok) : s.start.1.Ok := by
  obtain ⟨h1, h2, h3, h4, h5⟩ := h
  unfold RS.start
  split
  · exact ⟨h1, h2, h3, h4, h5⟩
  · split
    · exact ⟨h1, h2, h3, by simp; omega, by simp; omega⟩
    · exact ⟨h1, h2, h3, h4, h5⟩
theorem Ok.begin_ {s : RS} (h : s.Ok) (t : Int) : (s.begin_ t).1.Ok := by
  unfold RS.begin_; split
  · exact h
  · exact h.start
theorem start_tapes (s : RS) : s.start.1.s0 = s.s0 ∧ s.start.1.r0 = s.r0 ∧ s.start.1.s1 = s.s1 ∧ s.start.1.r1 = s.r1 ∧ s.start.1.room = s.room ∧ s.start.1.ops = s.ops := by
  unfold RS.start; split
  · exact ⟨rfl, rfl, rfl, rfl, rfl, rfl⟩
  · split <;> exact ⟨rfl, rfl, rfl, rfl, rfl, rfl⟩
theorem begin_tapes (s : RS) (t : Int) : (s.begin_ t).1.s0 = s.s0 ∧ (s.begin_ t).1.r0 = s.r0 ∧ (s.begin_ t).1.s1 = s.s1 ∧ (s.begin_ t).1.r1 = s.r1 ∧ (s.begin_ t).1.room = s.room ∧ (s.begin_ t).1.ops = s.ops := by
  unfold RS.begin_; split
  · exact ⟨rfl, rfl, rfl, rfl, rfl, rfl⟩
  · exact s.start_tapes
theorem begin_bad {s : RS} {t : Int} (h : t < 0 ∨ 2 ≤ t) : s.begin_ t = (s, 2) := if_pos h
theorem begin_in {s : RS} {t : Int} (h : (s.begin_ t).2 = 0) : t = 0 ∨ t = 1 := by
  rcases Int.lt_or_le t 0 with h0 | h0
  · rw [begin_bad (.inl h0)] at h; cases h
  · rcases Int.lt_or_le t 2 with h1 | h1
    · omega
    · rw [begin_bad (.inr h1)] at h; cases h
theorem kept_length (l : List UInt8) (keep : Int) (turn : UInt8) : (kept l keep turn).length ≤ l.length := by
  unfold kept; dsimp only; split
  · simp
  · simp; omega
theorem Ok.tick {s : RS} (h : s.Ok) : s.tick.Ok := ⟨h.room0, h.room1, h.used, h.left0, h.left1⟩
theorem Ok.put {s : RS} (h : s.Ok) (t : Int) (a b : List UInt8) (hl : (a.length + b.length : Int) ≤ (s.safe t).length + (s.rest t).length + s.free) : (s.put t a b).Ok := by
  obtain ⟨h1, h2, h3, h4, h5⟩ := h
  unfold RS.put
  simp only [RS.safe, RS.rest, RS.free, RS.used] at *
  split at hl <;> rename_i ht
  · simp only [ht, if_true]; exact ⟨h1, h2, by simp [RS.used]; omega, h4, h5⟩
  · simp only [ht, if_false]; exact ⟨h1, h2, by simp [RS.used]; omega, h4, h5⟩
theorem Ok.crash {s : RS} (h : s.Ok) (k0 k1 : Int) (turn : UInt8) : (s.crash k0 k1 turn).Ok := by
  obtain ⟨h1, h2, h3, h4, h5⟩ := h
  have a := kept_length s.r0 k0 turn
  have b := kept_length s.r1 k1 turn
  refine ⟨h1, h2, ?_, by show (-9223372036854775808 : Int) ≤ -1; decide, by show (-1 : Int) ≤ 9223372036854775807; decide⟩
  simp only [RS.used, RS.crash, List.length_append, List.length_nil] at *
  omega
theorem Ok.arm {s : RS} (h : s.Ok) {n : Int} (a : -9223372036854775808 ≤ n) (b : n ≤ 9223372036854775807) : (s.arm n).Ok := ⟨h.room0, h.room1, h.used, a, b⟩
theorem Ok.free {s : RS} (h : s.Ok) : 0 ≤ s.free ∧ s.free ≤ 4194304 := by
  obtain ⟨h1, h2, h3, h4, h5⟩ := h
  simp only [RS.used, RS.free] at *
  omega
end RS
end Go.Proofs.Ytjmddbhbibmjdaa
