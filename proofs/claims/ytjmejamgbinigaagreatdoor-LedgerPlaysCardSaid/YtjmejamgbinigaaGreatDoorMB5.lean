/-
  Lemmas, joined of the texts Fw2 RS RA.
-/
import Derived.Test.YtjmejamgbinigaaGreatDoorMB0
namespace Go.Proofs.YtjmejamgbinigaaGreatDoor
set_option linter.unusedVariables false
set_option linter.unusedSimpArgs false
open Go.RowKit

theorem zero_u8_size : (Value.int IntKind.u8 0).cells.size = 1 := rfl

section
variable {P : Program}

/-- append(v, u...): both rows of one-cell elements. -/
theorem run_append_row (w : World) (t ty e : TypeId) (z : Value) (bytes : Nat) (ht : P.underlying t = some (.slice e))
    (hinfo : (P.info? e).map (fun i => (i.zero, i.size, i.bytes)) = some (some z, 1, bytes)) (hz : z.cells.size = 1)
    (v u : Value) (xs ys : List Value) (hv : Row w e v xs) (hu : Row w e u ys) (h1 : ∀ y ∈ ys, y.oneCell' = true)
    (hl : xs.length + ys.length ≤ 140737488355328) (hlb : (xs.length + ys.length) * bytes ≤ 140737488355328) :
    ∃ v' w', (Builtin.append_ #[t, t] ty #[v, u]).run P w = .ok v' w' ∧ Row w' e v' (xs ++ ys) ∧ w.grownBy w' v.ownBlock ∧ (v'.ownBlock = v.ownBlock ∨ v'.ownBlock = some w.heap.size) := by
  obtain ⟨i, hi, hzz⟩ := Option.map_eq_some_iff.1 hinfo
  simp only [Prod.mk.injEq] at hzz
  obtain ⟨hz0, hz1, hz2⟩ := hzz
  rcases hu.nil_or with ⟨rfl, rfl⟩ | ⟨g, cap, rfl, hc, hm, hcell, hfz⟩
  · have := run_append_owned_none (P := P) w 0 t ty e i 1 ht hi v xs.length xs hv
    exact ⟨v, w, this, by simpa using hv, World.grownBy.refl _ _, .inl rfl⟩
  · obtain ⟨v', w', hr, ho, hg, _, hat⟩ := run_append_own_at (P := P) w 0 t ty e i z 1 bytes ht hi hz0 hz1 hz2 hz (by omega) v xs.length xs hv ⟨g, 0, none⟩ ys.length cap ys (by simp)
      (fun j y hj => by rw [show (⟨g, 0, none⟩ : Addr).add j = ⟨g, j, none⟩ from by unfold Addr.add; split <;> simp_all]; exact hcell j y hj) h1
      (by simp only [maxLen]; omega) hlb (Nat.zero_le _)
    exact ⟨v', w', hr, by simpa [Row] using ho, hg, hat⟩

/-- append(v, s...), s a string. -/
theorem run_append_str (w : World) (t u ty e : TypeId) (ht : P.underlying t = some (.slice e)) (hu : P.underlying u = some .string)
    (hinfo : (P.info? e).map (fun i => (i.zero, i.size, i.bytes)) = some (some (.int .u8 0), 1, 1))
    (v : Value) (xs : List Value) (s : ByteArray) (hv : Row w e v xs) (hl : xs.length + s.size ≤ 140737488355328) :
    ∃ v' w', (Builtin.append_ #[t, u] ty #[v, .string s]).run P w = .ok v' w' ∧ Row w' e v' (xs ++ u8s s.data.toList) ∧ w.grownBy w' v.ownBlock ∧ (v'.ownBlock = v.ownBlock ∨ v'.ownBlock = some w.heap.size) := by
  obtain ⟨i, hi, hzz⟩ := Option.map_eq_some_iff.1 hinfo
  simp only [Prod.mk.injEq] at hzz
  obtain ⟨hz0, hz1, hz2⟩ := hzz
  have hsl : (u8s s.data.toList).length = s.size := by rw [← strCells_u8s, Lib.strCells_length]
  have hlen : (xs ++ u8s s.data.toList).length = xs.length + s.size := by rw [List.length_append, hsl]
  have new : ∀ old, old < xs.length + s.size →
      Row (w.drew.alloc (.cells (xs.toArray ++ (Lib.strCells s).toArray ++ Builtin.zeroCells (Value.int .u8 0).cells (grownCap w (xs.length + s.size) old e - (xs.length + s.size))) e)) e
        (.slice (some ⟨w.heap.size, 0, none⟩) (xs.length + s.size) (grownCap w (xs.length + s.size) old e)) (xs ++ u8s s.data.toList) := by
    intro old ho
    have hge := grownCap_ge w (xs.length + s.size) old e
    have hcm := grownCap_le_maxLen w (xs.length + s.size) old e (by simp only [maxLen]; omega)
    refine ⟨by rw [hlen]; omega, .inr ⟨w.heap.size, _, _, by rw [hlen], Nat.zero_le _, heap_alloc_new w.drew _, by rw [hlen]; exact hge, hcm, ?_, ?_⟩⟩
    · simp only [Array.size_append, List.size_toArray, size_zeroCells, zero_u8_size, Lib.strCells_length]; omega
    · simp only [Array.toList_append, List.append_assoc, strCells_u8s]
      rw [← List.append_assoc, Nat.mul_one]
      exact List.take_left
  have grow : ∀ (o : Obj), w.grownBy (w.drew.alloc o) v.ownBlock := fun o => ⟨rfl, rfl, rfl, by simp, fun k hk _ => Below.heap_alloc w.drew _ k hk⟩
  rcases hv.2 with ⟨rfl, h0⟩ | ⟨g, cap, cur, rfl, _, hh, hc, hm, hs, htk⟩
  · obtain rfl : xs = [] := List.eq_nil_of_length_eq_zero h0
    by_cases hz : s.size = 0
    · have hn : u8s s.data.toList = [] := List.eq_nil_of_length_eq_zero (by rw [hsl, hz])
      refine ⟨.slice none 0 0, w, ?_, by rw [hn]; exact Row.nil w e, World.grownBy.refl _ _, .inl rfl⟩
      have hf := Lib.run_firstCells_string (P := P) w 1 s
      rw [hz] at hf
      simp [Builtin.append_, run_underlying ht, run_underlying hu, sizeOf, typeInfo, hi, hz1, Builtin.lenOf, hz, hf]
    · have hr := run_append_nil_string (P := P) w t u ty e i (.int .u8 0) ht hu hi hz0 s (by omega) (by simp at hl; omega) (by simp at hl; rw [hz2]; omega)
      have hnew := new 0 (by simp; omega)
      simp only [List.length_nil, Nat.zero_add, Array.empty_append, List.nil_append] at hnew
      have e1 : (s.data.map fun b => Value.int .u8 b.toNat) = (Lib.strCells s).toArray := by apply Array.ext'; simp [Lib.strCells]
      rw [e1] at hr
      exact ⟨_, _, hr, hnew, grow _, .inr rfl⟩
  · by_cases hroom : xs.length + s.size ≤ cap
    · have hr := Lib.run_append_room_string (P := P) w t u ty e i ht hu hi hz1 g xs.length cap cur hh s hroom (by simp at hs; omega)
      refine ⟨_, _, hr, ?_, ⟨rfl, rfl, rfl, by simp, fun k _ hk => setRow_other w g k _ (fun q => hk (by simp [Value.ownBlock, q]))⟩, .inl rfl⟩
      refine ⟨by omega, .inr ⟨g, cap, _, by rw [hlen], Nat.zero_le _, setRow_heap w g cur _ e _ hh, by rw [hlen]; exact hroom, hm, ?_, ?_⟩⟩
      · simp only [List.size_toArray, List.length_append, List.length_take, List.length_drop, Array.length_toList, Lib.strCells_length]; simp at hs; omega
      · have ht' : cur.toList.take xs.length = xs := by simpa using htk
        rw [ht', strCells_u8s, Nat.mul_one]
        exact List.take_left
    · have holds : ∀ j y, xs[j]? = some y → w.cell? ((⟨g, 0, none⟩ : Addr).add j) = some y := World.ownsRow.cells hv (g := g) rfl
      have hr := Lib.run_append_grow_string (P := P) w t u ty e i (.int .u8 0) ht hu hi hz0 ⟨g, 0, none⟩ xs.length cap xs (by rw [hz1]; omega) holds s (by omega) (by omega) (by rw [hz2]; exact growslice_fits (by omega) (by omega))
      exact ⟨_, _, hr, new cap (by omega), grow _, .inr rfl⟩

variable {ops : Array Oper} {o : Oper} {a : Act} {w : World} {K : Act → World → Prop} {Q : Exit → Act → World → Prop} {E : Prop}

/-- At a step of a region that draws its order. -/
theorem step_append_row (hg : o.guard = none) (s x : Operand) (t e : TypeId) (z : Value) (bytes : Nat) (ho : o.op = .call { callee := .builtin .append, args := #[s, x], argTypes := #[t, t] })
    (ht : P.underlying t = some (.slice e)) (hinfo : (P.info? e).map (fun i => (i.zero, i.size, i.bytes)) = some (some z, 1, bytes)) (hz : z.cells.size = 1)
    (v u : Value) (xs ys : List Value) (hs : a.eval s = v) (hx : a.eval x = u) (hv : Row w e v xs) (hu : Row w e u ys) (h1 : ∀ y ∈ ys, y.oneCell' = true)
    (hl : xs.length + ys.length ≤ 140737488355328) (hlb : (xs.length + ys.length) * bytes ≤ 140737488355328)
    (h : ∀ v' w', Row w' e v' (xs ++ ys) → w.grownBy w' v.ownBlock → (v'.ownBlock = v.ownBlock ∨ v'.ownBlock = some w.heap.size) → K (a.put o.dst v') w') :
    if Region.wanted o (yielded ops a.tmps) = true then Oper.wp P o a w K Q else E := by
  rw [if_pos (by simp [Region.wanted, hg])]
  obtain ⟨v', w', hr, h2, h3, h4⟩ := run_append_row (P := P) w t o.type e z bytes ht hinfo hz v u xs ys hv hu h1 hl hlb
  unfold Oper.wp execOp
  simp only [ho, resolve, invoke, builtin, Sem.run_bind, Sem.run_pure, Result.andThen_ok, List.map_toArray, List.map_cons, List.map_nil, hs, hx, hr]
  exact h v' w' h2 h3 h4
theorem step_append_str (hg : o.guard = none) (s x : Operand) (t u e : TypeId) (ho : o.op = .call { callee := .builtin .append, args := #[s, x], argTypes := #[t, u] })
    (ht : P.underlying t = some (.slice e)) (hu : P.underlying u = some .string) (hinfo : (P.info? e).map (fun i => (i.zero, i.size, i.bytes)) = some (some (.int .u8 0), 1, 1))
    (v : Value) (xs : List Value) (q : ByteArray) (hs : a.eval s = v) (hx : a.eval x = .string q) (hv : Row w e v xs)
    (hl : xs.length + q.size ≤ 140737488355328)
    (h : ∀ v' w', Row w' e v' (xs ++ u8s q.data.toList) → w.grownBy w' v.ownBlock → (v'.ownBlock = v.ownBlock ∨ v'.ownBlock = some w.heap.size) → K (a.put o.dst v') w') :
    if Region.wanted o (yielded ops a.tmps) = true then Oper.wp P o a w K Q else E := by
  rw [if_pos (by simp [Region.wanted, hg])]
  obtain ⟨v', w', hr, h2, h3, h4⟩ := run_append_str (P := P) w t u o.type e ht hu hinfo v xs q hv hl
  unfold Oper.wp execOp
  simp only [ho, resolve, invoke, builtin, Sem.run_bind, Sem.run_pure, Result.andThen_ok, List.map_toArray, List.map_cons, List.map_nil, hs, hx, hr]
  exact h v' w' h2 h3 h4
end

theorem u8s_oneCell (l : List UInt8) : ∀ u ∈ u8s l, u.oneCell' = true := by
  intro u hu
  simp only [u8s, List.mem_map] at hu
  obtain ⟨b, _, rfl⟩ := hu
  rfl

/-- string(v), v a row of bytes. -/
theorem run_string_row {P : Program} {w : World} {src e dst : TypeId} (hs : P.underlying src = some (.slice e)) (he : P.underlying e = some (.int .u8)) (hd : P.underlying dst = some .string)
    {v : Value} {l : List UInt8} (h : Row w e v (u8s l)) : (convert src dst v).run P w = .ok (.string (str l)) w := by
  rcases h.nil_or with ⟨rfl, h0⟩ | ⟨g, cap, rfl, hc, hm, hcell, hfz⟩
  · obtain rfl : l = [] := by simpa [u8s] using h0
    exact run_convert_bytes_nil w src e hs he 0 0 dst hd
  · rw [run_convert_bytes_arg w src e hs he g 0 (u8s l).length cap (l.map fun b => (b.toNat : Int)) (by simp [u8s]) (fun i hi => ?_) dst hd]
    · congr 2
      simp [strOfNums, str, Function.comp_def]
    · rw [Nat.zero_add]
      refine hcell i _ ?_
      have : i < l.length := by simpa [u8s] using hi
      simp [u8s, this]
end Go.Proofs.YtjmejamgbinigaaGreatDoor
namespace Go.Proofs.YtjmejamgbinigaaGreatDoor
set_option linter.unusedVariables false
set_option linter.unusedSimpArgs false
open Go.RowKit

structure RS where
  s0 : List UInt8
  r0 : List UInt8
  s1 : List UInt8
  r1 : List UInt8
  room : Int
  left : Int
  dead : Bool
  ops : Int

namespace RS
def used (s : RS) : Nat := s.s0.length + s.r0.length + (s.s1.length + s.r1.length)
structure Ok (s : RS) : Prop where
  room0 : 0 ≤ s.room
  room1 : s.room ≤ 4194304
  used : (s.used : Int) ≤ s.room
  left0 : -9223372036854775808 ≤ s.left
  left1 : s.left ≤ 9223372036854775807
def free (s : RS) : Int := s.room - (s.s0.length + s.r0.length) - (s.s1.length + s.r1.length)
/-- The first error of an operation at a tape that there is. -/
def start (s : RS) : RS × Int :=
  if s.dead = true ∨ s.left = 0 then ({ s with dead := true }, 30)
  else if 0 < s.left then ({ s with left := s.left - 1 }, 0) else (s, 0)
def begin_ (s : RS) (t : Int) : RS × Int := if t < 0 ∨ 2 ≤ t then (s, 2) else s.start
def safe (s : RS) (t : Int) : List UInt8 := if t = 0 then s.s0 else s.s1
def rest (s : RS) (t : Int) : List UInt8 := if t = 0 then s.r0 else s.r1
/-- A tape set anew. -/
def put (s : RS) (t : Int) (a b : List UInt8) : RS := if t = 0 then { s with s0 := a, r0 := b } else { s with s1 := a, r1 := b }
def tick (s : RS) : RS := { s with ops := wrap64 (s.ops + 1) }
/-- An operation behind its start. -/
def op (s : RS) (t : Int) (f : RS → RS × Int) : RS × Int := if (s.begin_ t).2 ≠ 0 then s.begin_ t else f (s.begin_ t).1
def write1 (s : RS) (t : Int) (q : List UInt8) : RS × Int :=
  if s.free < q.length then (s, 5) else (s.tick.put t (s.safe t) (s.rest t ++ q), 0)
def sync1 (s : RS) (t : Int) : RS × Int := (s.tick.put t (s.safe t ++ s.rest t) [], 0)
def wipe1 (s : RS) (t : Int) : RS × Int := (s.tick.put t [] [], 0)
def trim1 (s : RS) (t n : Int) : RS × Int :=
  if ((s.safe t).length + (s.rest t).length : Int) < n then (s, 2)
  else (s.tick.put t ((s.safe t).take n.toNat) ((s.rest t).take (n.toNat - (s.safe t).length)), 0)
def write (s : RS) (t : Int) (q : List UInt8) : RS × Int := s.op t (·.write1 t q)
def sync (s : RS) (t : Int) : RS × Int := s.op t (·.sync1 t)
def wipe (s : RS) (t : Int) : RS × Int := s.op t (·.wipe1 t)
def trim (s : RS) (t n : Int) : RS × Int := if n < 0 then (s, 2) else s.op t (·.trim1 t n)
def read (s : RS) (t : Int) : List UInt8 × Int :=
  if t < 0 ∨ 2 ≤ t then ([], 2) else if s.dead = true then ([], 30) else (s.safe t ++ s.rest t, 0)
def arm (s : RS) (n : Int) : RS := { s with left := n }
/-- What is kept of what was not safe. -/
def keepn (l : List UInt8) (keep : Int) : Nat := (max 0 (min keep l.length)).toNat
def kept (l : List UInt8) (keep : Int) (turn : UInt8) : List UInt8 :=
  let k := l.take (keepn l keep)
  if k.length = 0 then [] else k.set (k.length - 1) (k.getD (k.length - 1) 0 ^^^ turn)
def crash (s : RS) (k0 k1 : Int) (turn : UInt8) : RS :=
  { s with dead := false, left := -1, s0 := s.s0 ++ kept s.r0 k0 turn, r0 := [], s1 := s.s1 ++ kept s.r1 k1 turn, r1 := [] }

theorem Ok.start {s : RS} (h : s.Ok) : s.start.1.Ok := by
  obtain ⟨h1, h2, h3, h4, h5⟩ := h
  unfold RS.start
  split
  · exact ⟨h1, h2, h3, h4, h5⟩
  · split
    · exact ⟨h1, h2, h3, by simp; omega, by simp; omega⟩
    · exact ⟨h1, h2, h3, h4, h5⟩
theorem Ok.begin_ {s : RS} (h : s.Ok) (t : Int) : (s.begin_ t).1.Ok := by
  unfold RS.begin_; split
  · exact h
  · exact h.start
theorem start_tapes (s : RS) : s.start.1.s0 = s.s0 ∧ s.start.1.r0 = s.r0 ∧ s.start.1.s1 = s.s1 ∧ s.start.1.r1 = s.r1 ∧ s.start.1.room = s.room ∧ s.start.1.ops = s.ops := by
  unfold RS.start; split
  · exact ⟨rfl, rfl, rfl, rfl, rfl, rfl⟩
  · split <;> exact ⟨rfl, rfl, rfl, rfl, rfl, rfl⟩
theorem begin_bad {s : RS} {t : Int} (h : t < 0 ∨ 2 ≤ t) : s.begin_ t = (s, 2) := if_pos h
theorem begin_in {s : RS} {t : Int} (h : (s.begin_ t).2 = 0) : t = 0 ∨ t = 1 := by
  rcases Int.lt_or_le t 0 with h0 | h0
  · rw [begin_bad (.inl h0)] at h; cases h
  · rcases Int.lt_or_le t 2 with h1 | h1
    · omega
    · rw [begin_bad (.inr h1)] at h; cases h
theorem kept_length (l : List UInt8) (keep : Int) (turn : UInt8) : (kept l keep turn).length ≤ l.length := by
  unfold kept; dsimp only; split
  · simp
  · simp; omega
theorem Ok.tick {s : RS} (h : s.Ok) : s.tick.Ok := ⟨h.room0, h.room1, h.used, h.left0, h.left1⟩
theorem Ok.put {s : RS} (h : s.Ok) (t : Int) (a b : List UInt8) (hl : (a.length + b.length : Int) ≤ (s.safe t).length + (s.rest t).length + s.free) : (s.put t a b).Ok := by
  obtain ⟨h1, h2, h3, h4, h5⟩ := h
  unfold RS.put
  simp only [RS.safe, RS.rest, RS.free, RS.used] at *
  split at hl <;> rename_i ht
  · simp only [ht, if_true]; exact ⟨h1, h2, by simp [RS.used]; omega, h4, h5⟩
  · simp only [ht, if_false]; exact ⟨h1, h2, by simp [RS.used]; omega, h4, h5⟩
theorem Ok.crash {s : RS} (h : s.Ok) (k0 k1 : Int) (turn : UInt8) : (s.crash k0 k1 turn).Ok := by
  obtain ⟨h1, h2, h3, h4, h5⟩ := h
  have a := kept_length s.r0 k0 turn
  have b := kept_length s.r1 k1 turn
  refine ⟨h1, h2, ?_, by show (-9223372036854775808 : Int) ≤ -1; decide, by show (-1 : Int) ≤ 9223372036854775807; decide⟩
  simp only [RS.used, RS.crash, List.length_append, List.length_nil] at *
  omega
theorem Ok.arm {s : RS} (h : s.Ok) {n : Int} (a : -9223372036854775808 ≤ n) (b : n ≤ 9223372036854775807) : (s.arm n).Ok := ⟨h.room0, h.room1, h.used, a, b⟩
theorem Ok.free {s : RS} (h : s.Ok) : 0 ≤ s.free ∧ s.free ≤ 4194304 := by
  obtain ⟨h1, h2, h3, h4, h5⟩ := h
  simp only [RS.used, RS.free] at *
  omega
end RS
end Go.Proofs.YtjmejamgbinigaaGreatDoor
namespace Go.Proofs.YtjmejamgbinigaaGreatDoor
set_option linter.unusedVariables false
set_option linter.unusedSimpArgs false
open Go.RowKit

/-- Two places that are not one. -/
def Ne2 (x y : Option Nat) : Prop := ∀ k, x = some k → y ≠ some k

structure Apart (b : Nat) (v0 v1 v2 v3 : Value) : Prop where
  b0 : v0.ownBlock ≠ some b
  b1 : v1.ownBlock ≠ some b
  b2 : v2.ownBlock ≠ some b
  b3 : v3.ownBlock ≠ some b
  a01 : Ne2 v0.ownBlock v1.ownBlock
  a02 : Ne2 v0.ownBlock v2.ownBlock
  a03 : Ne2 v0.ownBlock v3.ownBlock
  a12 : Ne2 v1.ownBlock v2.ownBlock
  a13 : Ne2 v1.ownBlock v3.ownBlock
  a23 : Ne2 v2.ownBlock v3.ownBlock

/-- The blocks of a reel. -/
def RFoot (b : Nat) (v0 v1 v2 v3 : Value) : List Nat := b :: (v0.ownBlock.toList ++ v1.ownBlock.toList ++ v2.ownBlock.toList ++ v3.ownBlock.toList)
theorem mem_RFoot {b : Nat} {v0 v1 v2 v3 : Value} {k : Nat} : k ∈ RFoot b v0 v1 v2 v3 ↔ k = b ∨ v0.ownBlock = some k ∨ v1.ownBlock = some k ∨ v2.ownBlock = some k ∨ v3.ownBlock = some k := by
  simp [RFoot]

def RCells (v0 v1 v2 v3 : Value) (s : RS) : List Value := [v0, v1, v2, v3, .int .i64 s.room, .int .i64 s.left, .bool s.dead, .int .i64 s.ops]

structure RParts (w : World) (b : Nat) (s : RS) (v0 v1 v2 v3 : Value) : Prop where
  blk : Blk w b (RCells v0 v1 v2 v3 s) 65
  row0 : Row w 5 v0 (u8s s.s0)
  row1 : Row w 5 v1 (u8s s.r0)
  row2 : Row w 5 v2 (u8s s.s1)
  row3 : Row w 5 v3 (u8s s.r1)
  apart : Apart b v0 v1 v2 v3

def ReelAt (w : World) (b : Nat) (s : RS) (fp : List Nat) : Prop := s.Ok ∧ ∃ v0 v1 v2 v3, RParts w b s v0 v1 v2 v3 ∧ fp = RFoot b v0 v1 v2 v3

/-- What a call leaves of a reel: the state, and nothing else has changed. -/
def RPost (w : World) (b : Nat) (fp : List Nat) (s : RS) (w' : World) : Prop := ∃ fp', ReelAt w' b s fp' ∧ Chg (· ∈ fp) w w' ∧ ∀ k ∈ fp', k ∈ fp ∨ w.heap.size ≤ k

theorem RParts.chg {S : Nat → Prop} {w w' : World} {b : Nat} {s : RS} {v0 v1 v2 v3 : Value} (h : RParts w b s v0 v1 v2 v3) (k : Chg S w w') (hd : ∀ g ∈ RFoot b v0 v1 v2 v3, ¬ S g) : RParts w' b s v0 v1 v2 v3 :=
  ⟨h.blk.chg k (hd b (by simp [RFoot])), h.row0.chg k (fun g hg => hd g (mem_RFoot.2 (by simp [hg]))), h.row1.chg k (fun g hg => hd g (mem_RFoot.2 (by simp [hg]))),
    h.row2.chg k (fun g hg => hd g (mem_RFoot.2 (by simp [hg]))), h.row3.chg k (fun g hg => hd g (mem_RFoot.2 (by simp [hg]))), h.apart⟩
theorem ReelAt.chg {S : Nat → Prop} {w w' : World} {b : Nat} {s : RS} {fp : List Nat} (h : ReelAt w b s fp) (k : Chg S w w') (hd : ∀ g ∈ fp, ¬ S g) : ReelAt w' b s fp := by
  obtain ⟨ho, v0, v1, v2, v3, hp, rfl⟩ := h
  exact ⟨ho, v0, v1, v2, v3, hp.chg k hd, rfl⟩
theorem RParts.lt {w : World} {b : Nat} {s : RS} {v0 v1 v2 v3 : Value} (h : RParts w b s v0 v1 v2 v3) : ∀ g ∈ RFoot b v0 v1 v2 v3, g < w.heap.size := by
  intro g hg
  rcases mem_RFoot.1 hg with rfl | hg | hg | hg | hg
  · exact h.blk.lt
  · exact h.row0.lt hg
  · exact h.row1.lt hg
  · exact h.row2.lt hg
  · exact h.row3.lt hg
theorem ReelAt.lt {w : World} {b : Nat} {s : RS} {fp : List Nat} (h : ReelAt w b s fp) : ∀ g ∈ fp, g < w.heap.size := by
  obtain ⟨ho, v0, v1, v2, v3, hp, rfl⟩ := h
  exact hp.lt
theorem ReelAt.mem {w : World} {b : Nat} {s : RS} {fp : List Nat} (h : ReelAt w b s fp) : b ∈ fp := by
  obtain ⟨ho, v0, v1, v2, v3, hp, rfl⟩ := h
  simp [RFoot]
theorem ReelAt.ok {w : World} {b : Nat} {s : RS} {fp : List Nat} (h : ReelAt w b s fp) : s.Ok := h.1
theorem RPost.trans {w w1 w2 : World} {b : Nat} {fp fp1 : List Nat} {s2 : RS} (hc : Chg (· ∈ fp) w w1) (hf : ∀ k ∈ fp1, k ∈ fp ∨ w.heap.size ≤ k) (h2 : RPost w1 b fp1 s2 w2) : RPost w b fp s2 w2 := by
  obtain ⟨fp2, a, c, f⟩ := h2
  refine ⟨fp2, a, hc.trans c (fun i hi => hf i hi), fun k hk => ?_⟩
  rcases f k hk with q | q
  · exact hf k q
  · exact .inr (Nat.le_trans hc.size q)

/-- The eight cells, for a walk. -/
theorem RParts.cells {w : World} {b : Nat} {s : RS} {v0 v1 v2 v3 : Value} (h : RParts w b s v0 v1 v2 v3) :
    (w.cell? ⟨b, 0, none⟩ = some v0 ∧ w.cell? ⟨b, 1, none⟩ = some v1 ∧ w.cell? ⟨b, 2, none⟩ = some v2 ∧ w.cell? ⟨b, 3, none⟩ = some v3) ∧
    w.cell? ⟨b, 4, none⟩ = some (.int .i64 s.room) ∧ w.cell? ⟨b, 5, none⟩ = some (.int .i64 s.left) ∧ w.cell? ⟨b, 6, none⟩ = some (.bool s.dead) ∧ w.cell? ⟨b, 7, none⟩ = some (.int .i64 s.ops) :=
  ⟨⟨h.blk.cell 0, h.blk.cell 1, h.blk.cell 2, h.blk.cell 3⟩, h.blk.cell 4, h.blk.cell 5, h.blk.cell 6, h.blk.cell 7⟩

/-- A cell that is no row's is set: the state whose cells these are. -/
theorem RParts.num {w : World} {b : Nat} {s s' : RS} {v0 v1 v2 v3 : Value} (h : RParts w b s v0 v1 v2 v3) (k : Nat) (u : Value) (hs : (RCells v0 v1 v2 v3 s).set k u = RCells v0 v1 v2 v3 s')
    (ht : s'.s0 = s.s0 ∧ s'.r0 = s.r0 ∧ s'.s1 = s.s1 ∧ s'.r1 = s.r1) : RParts (w.setCell ⟨b, k, none⟩ u) b s' v0 v1 v2 v3 := by
  obtain ⟨t0, t1, t2, t3⟩ := ht
  refine ⟨hs ▸ h.blk.set k u, ?_, ?_, ?_, ?_, h.apart⟩
  · rw [t0]; exact h.row0.other h.apart.b0 u
  · rw [t1]; exact h.row1.other h.apart.b1 u
  · rw [t2]; exact h.row2.other h.apart.b2 u
  · rw [t3]; exact h.row3.other h.apart.b3 u
end Go.Proofs.YtjmejamgbinigaaGreatDoor
