/-
  Bounds in a row in memory; whether they are whole.
-/
import Derived.Test.YtocfiflcbblakaaB6
import Derived.Test.YtocfiflcbblakaaOpen
namespace Go.Proofs.Ytocfiflcbblakaa
set_option linter.unusedVariables false
set_option linter.unusedSimpArgs false
open Go.RowKit

structure Bnd where
  f : ByteArray
  t : ByteArray
def Bnd.cells (a : Bnd) : List Value := [.string a.f, .string a.t]
instance : Inhabited Bnd := ⟨⟨⟨#[]⟩, ⟨#[]⟩⟩⟩
/-- Bounds in memory: two cells each. -/
structure BndsAt (w : World) (A : Option Addr) (l : List Bnd) : Prop where
  addr : l ≠ [] → ∃ b off, A = some ⟨b, off, none⟩
  cell : ∀ (b off i j : Nat) (a : Bnd) (v : Value), A = some ⟨b, off, none⟩ → l[i]? = some a → a.cells[j]? = some v → w.cell? ⟨b, off + (i * 2 + j), none⟩ = some v
theorem BndsAt.up {w w' : World} {A : Option Addr} {l : List Bnd} (h : BndsAt w A l) (hb : Up w w') : BndsAt w' A l :=
  ⟨h.addr, fun b off i j a v hA hi hj => by
    have := h.cell b off i j a v hA hi hj
    exact (Below.cell hb (World.block_lt_of_cell? w _ this)).trans this⟩
theorem BndsAt.two {w : World} {b off k : Nat} {l : List Bnd} {a : Bnd} (h : BndsAt w (some ⟨b, off, none⟩) l) (ha : l[k]? = some a) : w.cell? ⟨b, off + k * 2, none⟩ = some (.string a.f) ∧ w.cell? ⟨b, off + k * 2 + 1, none⟩ = some (.string a.t) := by
  have c0 := h.cell b off k 0 a _ rfl ha rfl
  have c1 := h.cell b off k 1 a _ rfl ha rfl
  simp only [← Nat.add_assoc, Nat.add_zero] at c0 c1
  exact ⟨c0, c1⟩

section
variable {H : Type} {enc : TypeId × Value → H} {w : World} {spare : Nat → Bool} {held : Bool}
theorem bnd_leaves : leaves Try.prog 4 23 = [.str, .str] := by kernel_rfl
theorem bnd_flat : flatB Try.prog 4 23 = true := by kernel_rfl
theorem bnd_cells : Try.prog.cellsOf 23 = 2 := by kernel_rfl
theorem bnd_of {cs : List Value} (h : LeafAll enc Try.prog w 0 spare held [.str, .str] cs) : ∃ a : Bnd, cs = a.cells ∧ (a.f.size ≤ 140737488351232 ∧ a.t.size ≤ 140737488351232) := by
  rcases cs with _ | ⟨c0, _ | ⟨c1, _ | ⟨c2, r⟩⟩⟩
  all_goals try (have := h.length; simp at this; done)
  obtain ⟨⟨x0, rfl, w0⟩, ⟨x1, rfl, w1⟩, _⟩ := h
  exact ⟨⟨x0, x1⟩, rfl, w0, w1⟩
theorem open_bnds {v : Value} {d : DataW H} {p : List MemPlace} (hv0 : ∃ A n c, v = .slice A n c) (h : DataW.Trod enc Try.prog w 0 spare held 38 v d p) (hl : Light Try.prog 38 d) :
    ∃ A l c, v = .slice A l.length c ∧ l.length ≤ c ∧ l.length * 32 ≤ 140737488351232 ∧ (∀ a ∈ l, a.f.size ≤ 140737488351232 ∧ a.t.size ≤ 140737488351232) ∧ BndsAt w A l := by
  rcases open_rows 4 2 Try.underlying38 bnd_cells bnd_flat hv0 h hl with rfl | ⟨a, len, cap, C, rfl, hlc, _, hlen, hC⟩
  · exact ⟨none, [], 0, rfl, by simp, by simp, by simp, ⟨fun h => absurd rfl h, fun b off i j a v hA => by cases hA⟩⟩
  · rw [bnd_leaves] at hC
    obtain ⟨F, hF⟩ := Deep.choose_lt (α := Bnd) (n := len) (p := fun i x => C i = x.cells ∧ (x.f.size ≤ 140737488351232 ∧ x.t.size ≤ 140737488351232)) (fun i hi => bnd_of (hC i hi).1)
    have hb : Try.prog.bytesOf 23 = 32 := by kernel_rfl
    rw [hb] at hlen
    refine ⟨some a, (List.range len).map F, cap, by simp, by simpa using hlc, by simp; omega, ?_, ⟨?_, ?_⟩⟩
    · intro x hx
      obtain ⟨i, hi, rfl⟩ := List.mem_map.1 hx
      exact (hF i (List.mem_range.1 hi)).2
    · intro hne
      have h0 : 0 < len := by
        rcases Nat.eq_zero_or_pos len with h0 | h0
        · subst h0; exact absurd rfl hne
        · exact h0
      have := (hC 0 h0).2.2 0 (by omega)
      rw [(hF 0 h0).1] at this
      have ha := plain_addr (a := a.add (0 * 2 + 0)) (this.trans rfl)
      have h00 : a.add (0 * 2 + 0) = a := by unfold Addr.add; simp
      rw [h00] at ha
      exact ⟨a.block, a.off, by rw [← ha]⟩
    · intro b off i j x v hA hi hj
      injection hA with hA
      subst hA
      have hil : i < len := by
        have := (List.getElem?_eq_some_iff.1 hi).1
        simpa using this
      have hx : F i = x := by simpa [hil] using hi
      have hj7 : j < 2 := by
        have := (List.getElem?_eq_some_iff.1 hj).1
        simpa [Bnd.cells] using this
      have := (hC i hil).2.2 j hj7
      rw [(hF i hil).1, hx, add_off, hj] at this
      exact this
end
/-- All, one behind the other. -/
def wholeFrom (at_ : Bs) : List Bnd → Bool
  | [] => false
  | a :: r => if okL a.f.toList a.t.toList && a.f.toList == at_ then (if a.t.toList.isEmpty then r.isEmpty else wholeFrom a.t.toList r) else false
end Go.Proofs.Ytocfiflcbblakaa
