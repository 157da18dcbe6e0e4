/-
  A reel in memory: a block of eight cells, and at most four rows of bytes, none of which shares a block with another one.
-/
import Derived.Test.YtjmddbhbibmjdaaRS
namespace Go.Proofs.Ytjmddbhbibmjdaa
set_option linter.unusedVariables false
set_option linter.unusedSimpArgs false
open Go.RowKit

/-- Two places that are not one. -/
def Ne2 (x y : Option Nat) : Prop := ∀ k, x = some k → y ≠ some k

structure Apart (b : Nat) (v0 v1 v2 v3 : Value) : Prop where
  b0 : v0.ownBlock ≠ some b
  b1 : v1.ownBlock ≠ some b
  b2 : v2.ownBlock ≠ some b
  b3 : v3.ownBlock ≠ some b
  a01 : Ne2 v0.ownBlock v1.ownBlock
  a02 : Ne2 v0.ownBlock v2.ownBlock
  a03 : Ne2 v0.ownBlock v3.ownBlock
  a12 : Ne2 v1.ownBlock v2.ownBlock
  a13 : Ne2 v1.ownBlock v3.ownBlock
  a23 : Ne2 v2.ownBlock v3.ownBlock

/-- The blocks of a reel. -/
def RFoot (b : Nat) (v0 v1 v2 v3 : Value) : List Nat := b :: (v0.ownBlock.toList ++ v1.ownBlock.toList ++ v2.ownBlock.toList ++ v3.ownBlock.toList)
theorem mem_RFoot {b : Nat} {v0 v1 v2 v3 : Value} {k : Nat} : k ∈ RFoot b v0 v1 v2 v3 ↔ k = b ∨ v0.ownBlock = some k ∨ v1.ownBlock = some k ∨ v2.ownBlock = some k ∨ v3.ownBlock = some k := by
  simp [RFoot]

def RCells (v0 v1 v2 v3 : Value) (s : RS) : List Value := [v0, v1, v2, v3, .int .i64 s.room, .int .i64 s.left, .bool s.dead, .int .i64 s.ops]

structure RParts (w : World) (b : Nat) (s : RS) (v0 v1 v2 v3 : Value) : Prop where
  blk : Blk w b (RCells v0 v1 v2 v3 s) 63
  row0 : Row w 5 v0 (u8s s.s0)
  row1 : Row w 5 v1 (u8s s.r0)
  row2 : Row w 5 v2 (u8s s.s1)
  row3 : Row w 5 v3 (u8s s.r1)
  apart : Apart b v0 v1 v2 v3

def ReelAt (w : World) (b : Nat) (s : RS) (fp : List Nat) : Prop := s.Ok ∧ ∃ v0 v1 v2 v3, RParts w b s v0 v1 v2 v3 ∧ fp = RFoot b v0 v1 v2 v3

/-- What a call leaves of a reel: the state, and nothing else has changed. -/
def RPost (w : World) (b : Nat) (fp : List Nat) (s : RS) (w' : World) : Prop := ∃ fp', ReelAt w' b s fp' ∧ Chg (· ∈ fp) w w' ∧ ∀ k ∈ fp', k ∈ fp ∨ w.heap.size ≤ k

theorem RParts.chg {S : Nat → Prop} {w w' : World} {b : Nat} {s : RS} {v0 v1 v2 v3 : Value} (h : RParts w b s v0 v1 v2 v3) (k : Chg S w w') (hd : ∀ g ∈ RFoot b v0 v1 v2 v3, ¬ S g) : RParts w' b s v0 v1 v2 v3 :=
  ⟨h.blk.chg k (hd b (by simp [RFoot])), h.row0.chg k (fun g hg => hd g (mem_RFoot.2 (by simp [hg]))), h.row1.chg k (fun g hg => hd g (mem_RFoot.2 (by simp [hg]))),
    h.row2.chg k (fun g hg => hd g (mem_RFoot.2 (by simp [hg]))), h.row3.chg k (fun g hg => hd g (mem_RFoot.2 (by simp [hg]))), h.apart⟩
theorem ReelAt.chg {S : Nat → Prop} {w w' : World} {b : Nat} {s : RS} {fp : List Nat} (h : ReelAt w b s fp) (k : Chg S w w') (hd : ∀ g ∈ fp, ¬ S g) : ReelAt w' b s fp := by
  obtain ⟨ho, v0, v1, v2, v3, hp, rfl⟩ := h
  exact ⟨ho, v0, v1, v2, v3, hp.chg k hd, rfl⟩
theorem RParts.lt {w : World} {b : Nat} {s : RS} {v0 v1 v2 v3 : Value} (h : RParts w b s v0 v1 v2 v3) : ∀ g ∈ RFoot b v0 v1 v2 v3, g < w.heap.size := by
  intro g hg
  rcases mem_RFoot.1 hg with rfl | hg | hg | hg | hg
  · exact h.blk.lt
  · exact h.row0.lt hg
  · exact h.row1.lt hg
  · exact h.row2.lt hg
  · exact h.row3.lt hg
theorem ReelAt.lt {w : World} {b : Nat} {s : RS} {fp : List Nat} (h : ReelAt w b s fp) : ∀ g ∈ fp, g < w.heap.size := by
  obtain ⟨ho, v0, v1, v2, v3, hp, rfl⟩ := h
  exact hp.lt
theorem ReelAt.mem {w : World} {b : Nat} {s : RS} {fp : List Nat} (h : ReelAt w b s fp) : b ∈ fp := by
  obtain ⟨ho, v0, v1, v2, v3, hp, rfl⟩ := h
  simp [RFoot]
theorem ReelAt.ok {w : World} {b : Nat} {s : RS} {fp : List Nat} (h : ReelAt w b s fp) : s.Ok := h.1
theorem RPost.trans {w w1 w2 : World} {b : Nat} {fp fp1 : List Nat} {s2 : RS} (hc : Chg (· ∈ fp) w w1) (hf : ∀ k ∈ fp1, k ∈ fp ∨ w.heap.size ≤ k) (h2 : RPost w1 b fp1 s2 w2) : RPost w b fp s2 w2 := by
  obtain ⟨fp2, a, c, f⟩ := h2
  refine ⟨fp2, a, hc.trans c (fun i hi => hf i hi), fun k hk => ?_⟩
  rcases f k hk with q | q
  · exact hf k q
  · exact .inr (Nat.le_trans hc.size q)

/-- The eight cells, for a walk. -/
theorem RParts.cells {w : World} {b : Nat} {s : RS} {v0 v1 v2 v3 : Value} (h : RParts w b s v0 v1 v2 v3) :
    (w.cell? ⟨b, 0, none⟩ = some v0 ∧ w.cell? ⟨b, 1, none⟩ = some v1 ∧ w.cell? ⟨b, 2, none⟩ = some v2 ∧ w.cell? ⟨b, 3, none⟩ = some v3) ∧
    w.cell? ⟨b, 4, none⟩ = some (.int .i64 s.room) ∧ w.cell? ⟨b, 5, none⟩ = some (.int .i64 s.left) ∧ w.cell? ⟨b, 6, none⟩ = some (.bool s.dead) ∧ w.cell? ⟨b, 7, none⟩ = some (.int .i64 s.ops) :=
  ⟨⟨h.blk.cell 0, h.blk.cell 1, h.blk.cell 2, h.blk.cell 3⟩, h.blk.cell 4, h.blk.cell 5, h.blk.cell 6, h.blk.cell 7⟩

/-- A cell that is no row's is set: the state whose cells these are. -/
theorem RParts.num {w : World} {b : Nat} {s s' : RS} {v0 v1 v2 v3 : Value} (h : RParts w b s v0 v1 v2 v3) (k : Nat) (u : Value) (hs : (RCells v0 v1 v2 v3 s).set k u = RCells v0 v1 v2 v3 s')
    (ht : s'.s0 = s.s0 ∧ s'.r0 = s.r0 ∧ s'.s1 = s.s1 ∧ s'.r1 = s.r1) : RParts (w.setCell ⟨b, k, none⟩ u) b s' v0 v1 v2 v3 := by
  obtain ⟨t0, t1, t2, t3⟩ := ht
  refine ⟨hs ▸ h.blk.set k u, ?_, ?_, ?_, ?_, h.apart⟩
  · rw [t0]; exact h.row0.other h.apart.b0 u
  · rw [t1]; exact h.row1.other h.apart.b1 u
  · rw [t2]; exact h.row2.other h.apart.b2 u
  · rw [t3]; exact h.row3.other h.apart.b3 u
end Go.Proofs.Ytjmddbhbibmjdaa
