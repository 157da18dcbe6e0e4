/-
  The acts of a law's list, as plain data; what they are in memory.
-/
import Derived.Test.YtjmddbhbibmjdaaOpen
import Derived.Test.YtjmddbhbibmjdaaLV
namespace Go.Proofs.Ytjmddbhbibmjdaa
set_option linter.unusedVariables false
set_option linter.unusedSimpArgs false
open Go.RowKit

structure Act where
  kind : Int
  t : Int
  s : ByteArray
  n : Int
  k0 : Int
  k1 : Int
  turn : UInt8

namespace Act
def cells (a : Act) : List Value := [.int .i64 a.kind, .int .i64 a.t, .string a.s, .int .i64 a.n, .int .i64 a.k0, .int .i64 a.k1, .int .u8 a.turn.toNat]
structure Ok (a : Act) : Prop where
  n0 : -9223372036854775808 ≤ a.n
  n1 : a.n ≤ 9223372036854775807
  s : a.s.size ≤ 140737488351232
end Act
instance : Inhabited Act := ⟨⟨0, 0, ⟨#[]⟩, 0, 0, 0, 0⟩⟩

/-- Acts in memory: seven cells each. -/
structure ActsAt (w : World) (A : Option Addr) (l : List Act) : Prop where
  ok : ∀ a ∈ l, a.Ok
  addr : l ≠ [] → ∃ b off, A = some ⟨b, off, none⟩
  cell : ∀ (b off i j : Nat) (a : Act) (v : Value), A = some ⟨b, off, none⟩ → l[i]? = some a → a.cells[j]? = some v → w.cell? ⟨b, off + (i * 7 + j), none⟩ = some v

theorem ActsAt.below {w w' : World} {A : Option Addr} {l : List Act} (h : ActsAt w A l) (hb : Below w.heap.size w w') : ActsAt w' A l :=
  ⟨h.ok, h.addr, fun b off i j a v hA hi hj => by
    have := h.cell b off i j a v hA hi hj
    exact (hb.cell (World.block_lt_of_cell? w _ this)).trans this⟩

theorem i64_bd {n : Int} (h : (Lit.int .i64 n).wf = true) : -9223372036854775808 ≤ n ∧ n ≤ 9223372036854775807 := by
  simpa [Lit.wf, IntKind.min, IntKind.max, IntKind.signed, IntKind.bits] using h
theorem u8_of' (x : Int) (h : (Lit.int .u8 x).wf = true) : ∃ y : UInt8, x = y.toNat := by
  have hb : 0 ≤ x ∧ x ≤ 255 := by simpa [Lit.wf, IntKind.min, IntKind.max, IntKind.signed, IntKind.bits] using h
  refine ⟨UInt8.ofNat x.toNat, ?_⟩
  simp
  omega

section
variable {H : Type} {enc : TypeId × Value → H} {w : World} {spare : Nat → Bool} {held : Bool}

theorem act_leaves : leaves Try.prog 4 47 = [.int .i64, .int .i64, .str, .int .i64, .int .i64, .int .i64, .int .u8] := by kernel_rfl
theorem act_flat : flatB Try.prog 4 47 = true := by kernel_rfl
theorem act_cells : Try.prog.cellsOf 47 = 7 := by kernel_rfl

theorem act_of {cs : List Value} (h : LeafAll enc Try.prog w 0 spare held [.int .i64, .int .i64, .str, .int .i64, .int .i64, .int .i64, .int .u8] cs) : ∃ a : Act, cs = a.cells ∧ a.Ok := by
  rcases cs with _ | ⟨c0, _ | ⟨c1, _ | ⟨c2, _ | ⟨c3, _ | ⟨c4, _ | ⟨c5, _ | ⟨c6, _ | ⟨c7, r⟩⟩⟩⟩⟩⟩⟩⟩
  all_goals try (have := h.length; simp at this; done)
  obtain ⟨⟨x0, rfl, _⟩, ⟨x1, rfl, _⟩, ⟨x2, rfl, w2⟩, ⟨x3, rfl, w3⟩, ⟨x4, rfl, _⟩, ⟨x5, rfl, _⟩, ⟨x6, rfl, w6⟩, _⟩ := h
  obtain ⟨y, rfl⟩ := u8_of' x6 w6
  have b := i64_bd w3
  exact ⟨⟨x0, x1, x2, x3, x4, x5, y⟩, rfl, ⟨b.1, b.2, w2⟩⟩

theorem open_acts {v : Value} {d : DataW H} {p : List MemPlace} (hv0 : ∃ A n c, v = .slice A n c) (h : DataW.Trod enc Try.prog w 0 spare held 41 v d p) (hl : Light Try.prog 41 d) :
    ∃ A l c, v = .slice A l.length c ∧ l.length ≤ 140737488351232 ∧ ActsAt w A l := by
  rcases open_rows 4 7 Try.underlying41 act_cells act_flat hv0 h hl with rfl | ⟨a, len, cap, C, rfl, _, _, hlen, hC⟩
  · exact ⟨none, [], 0, rfl, by simp, ⟨by simp, fun h => absurd rfl h, fun b off i j a v hA => by cases hA⟩⟩
  · rw [act_leaves] at hC
    obtain ⟨F, hF⟩ := Deep.choose_lt (α := Act) (n := len) (p := fun i x => C i = x.cells ∧ x.Ok) (fun i hi => act_of (hC i hi).1)
    have hb : Try.prog.bytesOf 47 = 64 := by kernel_rfl
    rw [hb] at hlen
    refine ⟨some a, (List.range len).map F, cap, by simp, by simp; omega, ⟨?_, ?_, ?_⟩⟩
    · intro x hx
      obtain ⟨i, hi, rfl⟩ := List.mem_map.1 hx
      exact (hF i (List.mem_range.1 hi)).2
    · intro hne
      have h0 : 0 < len := by
        rcases Nat.eq_zero_or_pos len with h0 | h0
        · subst h0; exact absurd rfl hne
        · exact h0
      have := (hC 0 h0).2.2 0 (by omega)
      rw [(hF 0 h0).1] at this
      have ha := plain_addr (a := a.add (0 * 7 + 0)) (this.trans rfl)
      have h00 : a.add (0 * 7 + 0) = a := by unfold Addr.add; simp
      rw [h00] at ha
      exact ⟨a.block, a.off, by rw [← ha]⟩
    · intro b off i j x v hA hi hj
      injection hA with hA
      subst hA
      have hil : i < len := by
        have := (List.getElem?_eq_some_iff.1 hi).1
        simpa using this
      have hx : F i = x := by simpa [hil] using hi
      have hj7 : j < 7 := by
        have := (List.getElem?_eq_some_iff.1 hj).1
        simpa [Act.cells] using this
      have := (hC i hil).2.2 j hj7
      rw [(hF i hil).1, hx, add_off, hj] at this
      exact this
end
end Go.Proofs.Ytjmddbhbibmjdaa
