/-
  Lemmas, joined of the texts Open.
-/
import Derived.Test.YtopajmbblemopaaGreatDoorMB11
import Derived.Test.YtopajmbblemopaaGreatDoorMB5
namespace Go.Proofs.YtopajmbblemopaaGreatDoor
set_option linter.unusedVariables false
set_option linter.unusedSimpArgs false
open Go.RowKit

section
variable {H : Type} {enc : TypeId × Value → H} {P : Program} {w : World} {spare : Nat → Bool} {held : Bool}

theorem add_off (b off j : Nat) : (⟨b, off, none⟩ : Addr).add j = ⟨b, off + j, none⟩ := by unfold Addr.add; split <;> simp_all
theorem plain_addr {w : World} {a : Addr} {v : Value} (h : w.cell? a = some v) : a = ⟨a.block, a.off, none⟩ := by
  obtain ⟨b, off, sp⟩ := a
  cases sp with
  | none => rfl
  | some x =>
    unfold World.cell? at h
    split at h
    · simp at h
    · cases h

/-- A slice of elements of n leaves each. -/
theorem open_rows {t e : TypeId} (n k : Nat) (ht : P.underlying t = some (.slice e)) (hk : P.cellsOf e = k) (hf : flatB P n e = true) {v : Value} {d : DataW H} {p : List MemPlace}
    (hv0 : ∃ A n c, v = .slice A n c) (h : DataW.Trod enc P w 0 spare held t v d p) (hw : Light P t d) :
    v = .slice none 0 0 ∨ ∃ (a : Addr) (len cap : Nat) (C : Nat → List Value), v = .slice (some a) len cap ∧ len ≤ cap ∧ cap ≤ 9223372036854775807 ∧ len * P.bytesOf e ≤ 140737488351232 ∧
      ∀ i, i < len → LeafAll enc P w 0 spare held (leaves P n e) (C i) ∧ (C i).length = k ∧ ∀ j, j < k → w.cell? (a.add (i * k + j)) = (C i)[j]? := by
  obtain ⟨A, n0, c0, rfl⟩ := hv0
  obtain ⟨fuel, hx⟩ := h
  rcases Deep.open_slice ht hx with ⟨h0, _⟩ | ⟨a, len, cap, m, q, D, Pl, hv, _, hl, hm, hmm, hxx, hi⟩
  · left
    simpa [Value.cells] using h0
  · right
    have hv' : Value.slice A n0 c0 = .slice (some a) len cap := by simpa [Value.cells] using hv
    have hlm : len ≤ m := by rw [hmm]; split <;> omega
    obtain ⟨rfl, rfl⟩ := Prod.mk.inj hxx
    obtain ⟨C, hC⟩ := Deep.choose_lt (α := List Value) (n := len) (p := fun i cs => w.cells? 0 (a.add (i * P.cellsOf e)) (P.cellsOf e) = some cs ∧ LeafAll enc P w 0 spare held (leaves P n e) cs) (fun i hil => by
      obtain ⟨cs, h1, h2⟩ := hi i (by omega)
      exact ⟨cs, h1, leaves_trod n e cs q _ hf h2 (light_slice ht hw (i := i) (by simp [hil]))⟩)
    refine ⟨a, len, cap, C, hv', hl, by simpa [maxLen] using hm, by simpa using light_len ht hw, fun i hil => ?_⟩
    obtain ⟨h1, h2⟩ := hC i hil
    obtain ⟨_, hlen, hcell⟩ := World.cells?_some h1
    rw [hk] at hlen hcell
    refine ⟨h2, hlen, fun j hj => ?_⟩
    rw [← hcell j hj, Deep.add_add]
end
end Go.Proofs.YtopajmbblemopaaGreatDoor
