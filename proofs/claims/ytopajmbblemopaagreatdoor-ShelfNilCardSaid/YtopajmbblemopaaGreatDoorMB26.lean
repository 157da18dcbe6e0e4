/-
  Lemmas, joined of the texts Acts5.
-/
import Derived.Test.YtopajmbblemopaaGreatDoorMB12
import Derived.Test.YtopajmbblemopaaGreatDoorMB19
namespace Go.Proofs.YtopajmbblemopaaGreatDoor
set_option linter.unusedVariables false
set_option linter.unusedSimpArgs false
open Go.RowKit

structure SAct where
  kind : Int
  A : Option Addr
  c : Nat
  l : List MC
  n : Int
  k0 : Int
  k1 : Int
  turn : UInt8

namespace SAct
def cells (a : SAct) : List Value := [.int .i64 a.kind, .slice a.A a.l.length a.c, .int .i64 a.n, .int .i64 a.k0, .int .i64 a.k1, .int .u8 a.turn.toNat]
structure Ok (a : SAct) : Prop where
  n0 : -9223372036854775808 ≤ a.n
  n1 : a.n ≤ 9223372036854775807
  len : a.l.length ≤ 140737488351232
  cap : a.l.length ≤ a.c
end SAct
instance : Inhabited MC := ⟨⟨⟨#[]⟩, ⟨#[]⟩, false⟩⟩
instance : Inhabited SAct := ⟨⟨0, none, 0, [], 0, 0, 0, 0⟩⟩
/-- No text of a change is longer than what a row lets in. -/
def Slim (l : List MC) : Prop := ∀ c ∈ l, c.key.size ≤ 140737488351232 ∧ c.val.size ≤ 140737488351232

/-- Acts in memory: six cells each; each one's changes. -/
structure SActsAt (w : World) (A : Option Addr) (l : List SAct) : Prop where
  ok : ∀ a ∈ l, a.Ok
  addr : l ≠ [] → ∃ b off, A = some ⟨b, off, none⟩
  cell : ∀ (b off i j : Nat) (a : SAct) (v : Value), A = some ⟨b, off, none⟩ → l[i]? = some a → a.cells[j]? = some v → w.cell? ⟨b, off + (i * 6 + j), none⟩ = some v
  row : ∀ a ∈ l, ChAt w a.A a.l ∧ Slim a.l
theorem ChAt.below {w w' : World} {A : Option Addr} {l : List MC} (h : ChAt w A l) (hb : Below w.heap.size w w') : ChAt w' A l := h.chg (Chg.of_below hb (fun _ => False)) (fun _ _ _ q => q)
theorem SActsAt.below {w w' : World} {A : Option Addr} {l : List SAct} (h : SActsAt w A l) (hb : Below w.heap.size w w') : SActsAt w' A l :=
  ⟨h.ok, h.addr, fun b off i j a v hA hi hj => by
    have := h.cell b off i j a v hA hi hj
    exact (hb.cell (World.block_lt_of_cell? w _ this)).trans this, fun a ha => ⟨(h.row a ha).1.below hb, (h.row a ha).2⟩⟩
section
variable {H : Type} {enc : TypeId × Value → H} {w : World} {spare : Nat → Bool} {held : Bool}

end
/-! ### How much there is -/
end Go.Proofs.YtopajmbblemopaaGreatDoor
