/-
  Lemmas, joined of the texts S2 RS RA.
-/
import Derived.Test.YtopajmbblemopaaGreatDoorMB6
import Derived.Maps.OwnSet
import Derived.Maps.OwnOps
import Derived.Test.YtopajmbblemopaaGreatDoorMB5
namespace Go.Proofs.YtopajmbblemopaaGreatDoor
set_option linter.unusedVariables false
set_option linter.unusedSimpArgs false
open Go.RowKit
theorem before_lt : ∀ (a b : Txt), bytesBefore a b = decide (a < b)
  | [], [] => by simp [bytesBefore]
  | [], b :: s => by simp [bytesBefore]
  | a :: r, [] => by simp [bytesBefore]
  | a :: r, b :: s => by
    rw [bytesBefore, before_lt r s]
    have h := List.cons_lt_cons_iff (a := a) (b := b) (l₁ := r) (l₂ := s)
    by_cases h1 : a < b
    · have : a :: r < b :: s := h.2 (.inl h1)
      rw [decide_eq_true h1, decide_eq_true this]
      rfl
    · rw [decide_eq_false h1, Bool.false_or]
      by_cases h2 : a = b
      · subst h2
        by_cases h3 : r < s
        · rw [decide_eq_true h3, decide_eq_true (h.2 (.inr ⟨rfl, h3⟩))]
          simp
        · have : ¬ a :: r < a :: s := fun q => (h.1 q).elim h1 (fun q => h3 q.2)
          rw [decide_eq_false h3, decide_eq_false this]
          simp
      · have : ¬ a :: r < b :: s := fun q => (h.1 q).elim h1 (fun q => h2 q.1)
        rw [decide_eq_false this]
        simp [h2]
abbrev DU := DataW Unit
def prD (a : Txt × Txt) : Lit × DU := (.string a.1, .lit (.string a.2))
/-- What the map reads as. -/
def mapD (p : Sh) : DU := .map (p.map prD)
theorem key_before (a b : Txt) : (Lit.string a).before (.string b) = decide (a < b) := before_lt a b
theorem key_same (a b : Txt) : (Lit.string a).sameKey (.string b) = decide (a = b) := by
  show (a == b) = decide (a = b)
  by_cases h : a = b
  · simp [h]
  · rw [decide_eq_false h]
    simpa using h
theorem filter_high {p : Sh} {k : Txt} (h : ∀ a ∈ p, a.1 ≠ k) : (p.map prD).filter (fun q => !q.1.sameKey (.string k)) = p.map prD := by
  rw [List.filter_eq_self]
  intro q hq
  obtain ⟨a, ha, rfl⟩ := List.mem_map.1 hq
  have : (prD a).1.sameKey (.string k) = decide (a.1 = k) := key_same _ _
  rw [this, decide_eq_false (h a ha)]
  rfl
theorem insert_low {p : Sh} {k v : Txt} (h : ∀ a ∈ p, k < a.1) : DataW.insert (prD (k, v)) (p.map prD) = prD (k, v) :: p.map prD := by
  cases p with
  | nil => rfl
  | cons a p =>
    rw [List.map_cons, DataW.insert]
    have : (prD (k, v)).1.before (prD a).1 = decide (k < a.1) := key_before _ _
    rw [this, if_pos (decide_eq_true (h a (by simp)))]
theorem put_map : ∀ {p : Sh} (_ : Rises p) (k v : Txt), DataW.insert (prD (k, v)) ((p.map prD).filter fun q => !q.1.sameKey (.string k)) = (putS k v p).map prD
  | [], _, k, v => rfl
  | a :: p, h, k, v => by
    obtain ⟨h1, h2⟩ := List.pairwise_cons.1 h
    have ih := put_map h2 k v
    have hs : (prD a).1.sameKey (.string k) = decide (a.1 = k) := key_same _ _
    rw [List.map_cons, List.filter_cons, hs, putS]
    by_cases h3 : a.1 < k
    · have hne : a.1 ≠ k := fun q => ord_irr k (by rwa [q] at h3)
      rw [if_pos h3, decide_eq_false hne, if_pos (by rfl), List.map_cons, DataW.insert]
      have hb : (prD (k, v)).1.before (prD a).1 = decide (k < a.1) := key_before _ _
      rw [hb, if_neg (by rw [decide_eq_true_eq]; exact fun q => ord_irr k (ord_trans q h3)), ih]
    · rw [if_neg h3]
      by_cases h4 : a.1 = k
      · rw [if_pos h4, decide_eq_true h4, if_neg (by decide), filter_high (fun b hb q => ord_irr k (by have := h1 b hb; rwa [h4, q] at this)), List.map_cons]
        exact insert_low fun b hb => by rw [← h4]; exact h1 b hb
      · have hk : k < a.1 := by
          rcases ord_tri a.1 k with q | q | q
          · exact absurd q h3
          · exact absurd q h4
          · exact q
        rw [if_neg h4, decide_eq_false h4, if_pos (by rfl), filter_high (fun b hb q => ord_irr k (by have := ord_trans hk (h1 b hb); rwa [q] at this)), List.map_cons, List.map_cons]
        exact insert_low (p := a :: p) fun b hb => by
          rcases List.mem_cons.1 hb with rfl | hb
          · exact hk
          · exact ord_trans hk (h1 b hb)
theorem mapD_put {p : Sh} (h : Rises p) (k v : Txt) : (mapD p).put (.string k) (.lit (.string v)) = mapD (putS k v p) := congrArg DataW.map (put_map h k v)
theorem del_map : ∀ {p : Sh} (_ : Rises p) (k : Txt), ((p.map prD).filter fun q => !q.1.sameKey (.string k)) = (delS k p).map prD
  | [], _, k => rfl
  | a :: p, h, k => by
    obtain ⟨h1, h2⟩ := List.pairwise_cons.1 h
    have ih := del_map h2 k
    have hs : (prD a).1.sameKey (.string k) = decide (a.1 = k) := key_same _ _
    rw [List.map_cons, List.filter_cons, hs, delS]
    by_cases h3 : a.1 < k
    · have hne : a.1 ≠ k := fun q => ord_irr k (by rwa [q] at h3)
      rw [if_pos h3, decide_eq_false hne, if_pos (by rfl), List.map_cons, ih]
    · rw [if_neg h3]
      by_cases h4 : a.1 = k
      · rw [if_pos h4, decide_eq_true h4, if_neg (by decide), filter_high (fun b hb q => ord_irr k (by have := h1 b hb; rwa [h4, q] at this))]
      · have hk : k < a.1 := by
          rcases ord_tri a.1 k with q | q | q
          · exact absurd q h3
          · exact absurd q h4
          · exact q
        rw [if_neg h4, decide_eq_false h4, if_pos (by rfl), filter_high (fun b hb q => ord_irr k (by have := ord_trans hk (h1 b hb); rwa [q] at this)), List.map_cons]
theorem mapD_del {p : Sh} (h : Rises p) (k : Txt) : (mapD p).del (.string k) = mapD (delS k p) := congrArg DataW.map (del_map h k)
theorem find_map : ∀ (p : Sh) (k : Txt), (p.map prD).find? (fun q => q.1.sameKey (.string k)) = (getS k p).map fun v => prD (k, v)
  | [], _ => rfl
  | a :: p, k => by
    have hs : (prD a).1.sameKey (.string k) = decide (a.1 = k) := key_same _ _
    rw [List.map_cons, List.find?_cons, hs, getS]
    by_cases h : a.1 = k
    · rw [decide_eq_true h, if_pos h]
      simp only
      rw [← h]
      rfl
    · rw [decide_eq_false h, if_neg h]
      exact find_map p k
theorem mapD_at (p : Sh) (k : Txt) (z : DU) : (mapD p).atKey (.string k) z = match getS k p with | some v => .lit (.string v) | none => z := by
  unfold mapD DataW.atKey
  simp only
  rw [find_map]
  cases getS k p <;> rfl
end Go.Proofs.YtopajmbblemopaaGreatDoor
namespace Go.Proofs.YtopajmbblemopaaGreatDoor
set_option linter.unusedVariables false
set_option linter.unusedSimpArgs false
open Go.RowKit

structure RS where
  s0 : List UInt8
  r0 : List UInt8
  s1 : List UInt8
  r1 : List UInt8
  room : Int
  left : Int
  dead : Bool
  ops : Int

namespace RS
def used (s : RS) : Nat := s.s0.length + s.r0.length + (s.s1.length + s.r1.length)
structure Ok (s : RS) : Prop where
  room0 : 0 ≤ s.room
  room1 : s.room ≤ 4194304
  used : (s.used : Int) ≤ s.room
  left0 : -9223372036854775808 ≤ s.left
  left1 : s.left ≤ 9223372036854775807
def free (s : RS) : Int := s.room - (s.s0.length + s.r0.length) - (s.s1.length + s.r1.length)
/-- The first error of an operation at a tape that there is. -/
def start (s : RS) : RS × Int :=
  if s.dead = true ∨ s.left = 0 then ({ s with dead := true }, 30)
  else if 0 < s.left then ({ s with left := s.left - 1 }, 0) else (s, 0)
def begin_ (s : RS) (t : Int) : RS × Int := if t < 0 ∨ 2 ≤ t then (s, 2) else s.start
def safe (s : RS) (t : Int) : List UInt8 := if t = 0 then s.s0 else s.s1
def rest (s : RS) (t : Int) : List UInt8 := if t = 0 then s.r0 else s.r1
/-- A tape set anew. -/
def put (s : RS) (t : Int) (a b : List UInt8) : RS := if t = 0 then { s with s0 := a, r0 := b } else { s with s1 := a, r1 := b }
def tick (s : RS) : RS := { s with ops := wrap64 (s.ops + 1) }
/-- An operation behind its start. -/
def op (s : RS) (t : Int) (f : RS → RS × Int) : RS × Int := if (s.begin_ t).2 ≠ 0 then s.begin_ t else f (s.begin_ t).1
def write1 (s : RS) (t : Int) (q : List UInt8) : RS × Int :=
  if s.free < q.length then (s, 5) else (s.tick.put t (s.safe t) (s.rest t ++ q), 0)
def sync1 (s : RS) (t : Int) : RS × Int := (s.tick.put t (s.safe t ++ s.rest t) [], 0)
def wipe1 (s : RS) (t : Int) : RS × Int := (s.tick.put t [] [], 0)
def trim1 (s : RS) (t n : Int) : RS × Int :=
  if ((s.safe t).length + (s.rest t).length : Int) < n then (s, 2)
  else (s.tick.put t ((s.safe t).take n.toNat) ((s.rest t).take (n.toNat - (s.safe t).length)), 0)
def write (s : RS) (t : Int) (q : List UInt8) : RS × Int := s.op t (·.write1 t q)
def sync (s : RS) (t : Int) : RS × Int := s.op t (·.sync1 t)
def wipe (s : RS) (t : Int) : RS × Int := s.op t (·.wipe1 t)
def trim (s : RS) (t n : Int) : RS × Int := if n < 0 then (s, 2) else s.op t (·.trim1 t n)
def read (s : RS) (t : Int) : List UInt8 × Int :=
  if t < 0 ∨ 2 ≤ t then ([], 2) else if s.dead = true then ([], 30) else (s.safe t ++ s.rest t, 0)
def arm (s : RS) (n : Int) : RS := { s with left := n }
/-- What is kept of what was not safe. -/
def keepn (l : List UInt8) (keep : Int) : Nat := (max 0 (min keep l.length)).toNat
def kept (l : List UInt8) (keep : Int) (turn : UInt8) : List UInt8 :=
  let k := l.take (keepn l keep)
  if k.length = 0 then [] else k.set (k.length - 1) (k.getD (k.length - 1) 0 ^^^ turn)
def crash (s : RS) (k0 k1 : Int) (turn : UInt8) : RS :=
  { s with dead := false, left := -1, s0 := s.s0 ++ kept s.r0 k0 turn, r0 := [], s1 := s.s1 ++ kept s.r1 k1 turn, r1 := [] }

theorem Ok.start {s : RS} (h : s.Ok) : s.start.1.Ok := by
  obtain ⟨h1, h2, h3, h4, h5⟩ := h
  unfold RS.start
  split
  · exact ⟨h1, h2, h3, h4, h5⟩
  · split
    · exact ⟨h1, h2, h3, by simp; omega, by simp; omega⟩
    · exact ⟨h1, h2, h3, h4, h5⟩
theorem Ok.begin_ {s : RS} (h : s.Ok) (t : Int) : (s.begin_ t).1.Ok := by
  unfold RS.begin_; split
  · exact h
  · exact h.start
theorem start_tapes (s : RS) : s.start.1.s0 = s.s0 ∧ s.start.1.r0 = s.r0 ∧ s.start.1.s1 = s.s1 ∧ s.start.1.r1 = s.r1 ∧ s.start.1.room = s.room ∧ s.start.1.ops = s.ops := by
  unfold RS.start; split
  · exact ⟨rfl, rfl, rfl, rfl, rfl, rfl⟩
  · split <;> exact ⟨rfl, rfl, rfl, rfl, rfl, rfl⟩
theorem begin_bad {s : RS} {t : Int} (h : t < 0 ∨ 2 ≤ t) : s.begin_ t = (s, 2) := if_pos h
theorem begin_in {s : RS} {t : Int} (h : (s.begin_ t).2 = 0) : t = 0 ∨ t = 1 := by
  rcases Int.lt_or_le t 0 with h0 | h0
  · rw [begin_bad (.inl h0)] at h; cases h
  · rcases Int.lt_or_le t 2 with h1 | h1
    · omega
    · rw [begin_bad (.inr h1)] at h; cases h
theorem kept_length (l : List UInt8) (keep : Int) (turn : UInt8) : (kept l keep turn).length ≤ l.length := by
  unfold kept; dsimp only; split
  · simp
  · simp; omega
theorem Ok.tick {s : RS} (h : s.Ok) : s.tick.Ok := ⟨h.room0, h.room1, h.used, h.left0, h.left1⟩
theorem Ok.put {s : RS} (h : s.Ok) (t : Int) (a b : List UInt8) (hl : (a.length + b.length : Int) ≤ (s.safe t).length + (s.rest t).length + s.free) : (s.put t a b).Ok := by
  obtain ⟨h1, h2, h3, h4, h5⟩ := h
  unfold RS.put
  simp only [RS.safe, RS.rest, RS.free, RS.used] at *
  split at hl <;> rename_i ht
  · simp only [ht, if_true]; exact ⟨h1, h2, by simp [RS.used]; omega, h4, h5⟩
  · simp only [ht, if_false]; exact ⟨h1, h2, by simp [RS.used]; omega, h4, h5⟩
theorem Ok.crash {s : RS} (h : s.Ok) (k0 k1 : Int) (turn : UInt8) : (s.crash k0 k1 turn).Ok := by
  obtain ⟨h1, h2, h3, h4, h5⟩ := h
  have a := kept_length s.r0 k0 turn
  have b := kept_length s.r1 k1 turn
  refine ⟨h1, h2, ?_, by show (-9223372036854775808 : Int) ≤ -1; decide, by show (-1 : Int) ≤ 9223372036854775807; decide⟩
  simp only [RS.used, RS.crash, List.length_append, List.length_nil] at *
  omega
theorem Ok.arm {s : RS} (h : s.Ok) {n : Int} (a : -9223372036854775808 ≤ n) (b : n ≤ 9223372036854775807) : (s.arm n).Ok := ⟨h.room0, h.room1, h.used, a, b⟩
theorem Ok.free {s : RS} (h : s.Ok) : 0 ≤ s.free ∧ s.free ≤ 4194304 := by
  obtain ⟨h1, h2, h3, h4, h5⟩ := h
  simp only [RS.used, RS.free] at *
  omega
end RS
end Go.Proofs.YtopajmbblemopaaGreatDoor
namespace Go.Proofs.YtopajmbblemopaaGreatDoor
set_option linter.unusedVariables false
set_option linter.unusedSimpArgs false
open Go.RowKit

/-- Two places that are not one. -/
def Ne2 (x y : Option Nat) : Prop := ∀ k, x = some k → y ≠ some k

structure Apart (b : Nat) (v0 v1 v2 v3 : Value) : Prop where
  b0 : v0.ownBlock ≠ some b
  b1 : v1.ownBlock ≠ some b
  b2 : v2.ownBlock ≠ some b
  b3 : v3.ownBlock ≠ some b
  a01 : Ne2 v0.ownBlock v1.ownBlock
  a02 : Ne2 v0.ownBlock v2.ownBlock
  a03 : Ne2 v0.ownBlock v3.ownBlock
  a12 : Ne2 v1.ownBlock v2.ownBlock
  a13 : Ne2 v1.ownBlock v3.ownBlock
  a23 : Ne2 v2.ownBlock v3.ownBlock

/-- The blocks of a reel. -/
def RFoot (b : Nat) (v0 v1 v2 v3 : Value) : List Nat := b :: (v0.ownBlock.toList ++ v1.ownBlock.toList ++ v2.ownBlock.toList ++ v3.ownBlock.toList)
theorem mem_RFoot {b : Nat} {v0 v1 v2 v3 : Value} {k : Nat} : k ∈ RFoot b v0 v1 v2 v3 ↔ k = b ∨ v0.ownBlock = some k ∨ v1.ownBlock = some k ∨ v2.ownBlock = some k ∨ v3.ownBlock = some k := by
  simp [RFoot]

def RCells (v0 v1 v2 v3 : Value) (s : RS) : List Value := [v0, v1, v2, v3, .int .i64 s.room, .int .i64 s.left, .bool s.dead, .int .i64 s.ops]

structure RParts (w : World) (b : Nat) (s : RS) (v0 v1 v2 v3 : Value) : Prop where
  blk : Blk w b (RCells v0 v1 v2 v3 s) 77
  row0 : Row w 5 v0 (u8s s.s0)
  row1 : Row w 5 v1 (u8s s.r0)
  row2 : Row w 5 v2 (u8s s.s1)
  row3 : Row w 5 v3 (u8s s.r1)
  apart : Apart b v0 v1 v2 v3

def ReelAt (w : World) (b : Nat) (s : RS) (fp : List Nat) : Prop := s.Ok ∧ ∃ v0 v1 v2 v3, RParts w b s v0 v1 v2 v3 ∧ fp = RFoot b v0 v1 v2 v3

/-- What a call leaves of a reel: the state, and nothing else has changed. -/
def RPost (w : World) (b : Nat) (fp : List Nat) (s : RS) (w' : World) : Prop := ∃ fp', ReelAt w' b s fp' ∧ Chg (· ∈ fp) w w' ∧ ∀ k ∈ fp', k ∈ fp ∨ w.heap.size ≤ k

theorem RParts.chg {S : Nat → Prop} {w w' : World} {b : Nat} {s : RS} {v0 v1 v2 v3 : Value} (h : RParts w b s v0 v1 v2 v3) (k : Chg S w w') (hd : ∀ g ∈ RFoot b v0 v1 v2 v3, ¬ S g) : RParts w' b s v0 v1 v2 v3 :=
  ⟨h.blk.chg k (hd b (by simp [RFoot])), h.row0.chg k (fun g hg => hd g (mem_RFoot.2 (by simp [hg]))), h.row1.chg k (fun g hg => hd g (mem_RFoot.2 (by simp [hg]))),
    h.row2.chg k (fun g hg => hd g (mem_RFoot.2 (by simp [hg]))), h.row3.chg k (fun g hg => hd g (mem_RFoot.2 (by simp [hg]))), h.apart⟩
theorem ReelAt.chg {S : Nat → Prop} {w w' : World} {b : Nat} {s : RS} {fp : List Nat} (h : ReelAt w b s fp) (k : Chg S w w') (hd : ∀ g ∈ fp, ¬ S g) : ReelAt w' b s fp := by
  obtain ⟨ho, v0, v1, v2, v3, hp, rfl⟩ := h
  exact ⟨ho, v0, v1, v2, v3, hp.chg k hd, rfl⟩
theorem RParts.lt {w : World} {b : Nat} {s : RS} {v0 v1 v2 v3 : Value} (h : RParts w b s v0 v1 v2 v3) : ∀ g ∈ RFoot b v0 v1 v2 v3, g < w.heap.size := by
  intro g hg
  rcases mem_RFoot.1 hg with rfl | hg | hg | hg | hg
  · exact h.blk.lt
  · exact h.row0.lt hg
  · exact h.row1.lt hg
  · exact h.row2.lt hg
  · exact h.row3.lt hg
theorem ReelAt.lt {w : World} {b : Nat} {s : RS} {fp : List Nat} (h : ReelAt w b s fp) : ∀ g ∈ fp, g < w.heap.size := by
  obtain ⟨ho, v0, v1, v2, v3, hp, rfl⟩ := h
  exact hp.lt
theorem ReelAt.mem {w : World} {b : Nat} {s : RS} {fp : List Nat} (h : ReelAt w b s fp) : b ∈ fp := by
  obtain ⟨ho, v0, v1, v2, v3, hp, rfl⟩ := h
  simp [RFoot]
theorem ReelAt.ok {w : World} {b : Nat} {s : RS} {fp : List Nat} (h : ReelAt w b s fp) : s.Ok := h.1
theorem RPost.trans {w w1 w2 : World} {b : Nat} {fp fp1 : List Nat} {s2 : RS} (hc : Chg (· ∈ fp) w w1) (hf : ∀ k ∈ fp1, k ∈ fp ∨ w.heap.size ≤ k) (h2 : RPost w1 b fp1 s2 w2) : RPost w b fp s2 w2 := by
  obtain ⟨fp2, a, c, f⟩ := h2
  refine ⟨fp2, a, hc.trans c (fun i hi => hf i hi), fun k hk => ?_⟩
  rcases f k hk with q | q
  · exact hf k q
  · exact .inr (Nat.le_trans hc.size q)

/-- The eight cells, for a walk. -/
theorem RParts.cells {w : World} {b : Nat} {s : RS} {v0 v1 v2 v3 : Value} (h : RParts w b s v0 v1 v2 v3) :
    (w.cell? ⟨b, 0, none⟩ = some v0 ∧ w.cell? ⟨b, 1, none⟩ = some v1 ∧ w.cell? ⟨b, 2, none⟩ = some v2 ∧ w.cell? ⟨b, 3, none⟩ = some v3) ∧
    w.cell? ⟨b, 4, none⟩ = some (.int .i64 s.room) ∧ w.cell? ⟨b, 5, none⟩ = some (.int .i64 s.left) ∧ w.cell? ⟨b, 6, none⟩ = some (.bool s.dead) ∧ w.cell? ⟨b, 7, none⟩ = some (.int .i64 s.ops) :=
  ⟨⟨h.blk.cell 0, h.blk.cell 1, h.blk.cell 2, h.blk.cell 3⟩, h.blk.cell 4, h.blk.cell 5, h.blk.cell 6, h.blk.cell 7⟩

/-- A cell that is no row's is set: the state whose cells these are. -/
theorem RParts.num {w : World} {b : Nat} {s s' : RS} {v0 v1 v2 v3 : Value} (h : RParts w b s v0 v1 v2 v3) (k : Nat) (u : Value) (hs : (RCells v0 v1 v2 v3 s).set k u = RCells v0 v1 v2 v3 s')
    (ht : s'.s0 = s.s0 ∧ s'.r0 = s.r0 ∧ s'.s1 = s.s1 ∧ s'.r1 = s.r1) : RParts (w.setCell ⟨b, k, none⟩ u) b s' v0 v1 v2 v3 := by
  obtain ⟨t0, t1, t2, t3⟩ := ht
  refine ⟨hs ▸ h.blk.set k u, ?_, ?_, ?_, ?_, h.apart⟩
  · rw [t0]; exact h.row0.other h.apart.b0 u
  · rw [t1]; exact h.row1.other h.apart.b1 u
  · rw [t2]; exact h.row2.other h.apart.b2 u
  · rw [t3]; exact h.row3.other h.apart.b3 u
end Go.Proofs.YtopajmbblemopaaGreatDoor
