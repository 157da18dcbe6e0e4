/-
  Lemmas, joined of the texts QR0 QR1 QR2 QR3 QR4 QR5.
-/
import Derived.Test.YtjmejamgbinigaaGreatDoorMB6
import Derived.Lib.ConvBytes
namespace Go.Proofs.YtjmejamgbinigaaGreatDoor
set_option linter.unusedVariables false
set_option linter.unusedSimpArgs false
open Go.RowKit
def RS.t0 (s : RS) : List UInt8 := s.s0 ++ s.r0
def RS.t1 (s : RS) : List UInt8 := s.s1 ++ s.r1
theorem free_room (s : RS) : s.free + s.t0.length + s.t1.length = s.room := by
  simp only [RS.free, RS.t0, RS.t1, List.length_append]; omega
theorem bytes_frozen (w : World) (e : TypeId) (s : ByteArray) (j : Nat) (hj : j < s.size) : (Lib.bytesWorld w e s).frozen? ⟨w.heap.size, j, none⟩ = false := by
  have hs : (Lib.bytesCells w e s).size = s.size + (grownCap w s.size 0 e - s.size) := by
    unfold Lib.bytesCells
    rw [Array.size_append, Array.size_map, Array.size_replicate]
    rfl
  unfold World.frozen?
  rw [show (⟨w.heap.size, j, none⟩ : Addr).block = w.heap.size from rfl, Lib.bytesWorld_at_new]
  show (decide ((Lib.bytesCells w e s).size ≤ j) && decide (j < (Lib.bytesCells w e s).size + 1)) = false
  rw [hs]
  simp
  omega
/-- A row of cells that reads as the bytes l. -/
def Tells (o : Obj) (l : List UInt8) : Prop := ∃ cs e fr, o = .cells cs e fr ∧ ∀ j (hj : j < l.length), cs[j]? = some (.int .u8 (l[j].toNat : Int))
theorem Tells.string {w : World} {N : Nat} {o : Obj} {l : List UInt8} (h : Tells o l) (hN : w.heap[N]? = some o) (n cap : Nat) (hn : n = l.length) :
    (convert 60 9 (.slice (some ⟨N, 0, none⟩) n cap)).run Tryz.prog w = .ok (.string (str l)) w := by
  obtain ⟨cs, e, fr, rfl, hc⟩ := h
  subst hn
  refine run_convert_bytes_back w _ _ _ ⟨N, 0, none⟩ cap l Tryz.underlying60 Tryz.underlying5 Tryz.underlying9 (fun j hj => ?_)
  rw [show (⟨N, 0, none⟩ : Addr).add j = ⟨N, j, none⟩ from by unfold Addr.add; split <;> simp_all]
  unfold World.cell?
  rw [show (⟨N, j, none⟩ : Addr).block = N from rfl, hN]
  exact hc j hj
theorem Tells.new (w : World) (e : TypeId) (s : ByteArray) (l : List UInt8) (hl : s.data.toList = l) : ∃ o, (Lib.bytesWorld w e s).heap[w.heap.size]? = some o ∧ Tells o l := by
  refine ⟨_, Lib.bytesWorld_at_new w e s, _, _, _, rfl, fun j hj => ?_⟩
  subst hl
  have hj' : j < s.data.size := by simpa using hj
  have hj2 : j < s.size := hj'
  simp [Lib.bytesCells, Array.getElem?_append, hj2, Array.getElem?_eq_getElem hj']
theorem Tells.set {w : World} {N : Nat} {o : Obj} {l : List UInt8} (h : Tells o l) (hN : w.heap[N]? = some o) (k : Nat) (x : UInt8) : ∃ o', (w.setCell ⟨N, k, none⟩ (.int .u8 (x.toNat : Int))).heap[N]? = some o' ∧ Tells o' (l.set k x) := by
  obtain ⟨cs, e, fr, rfl, hc⟩ := h
  refine ⟨.cells (cs.setIfInBounds k (.int .u8 (x.toNat : Int))) e fr, ?_, _, _, _, rfl, fun j hj => ?_⟩
  · simp only [World.setCell, Array.getElem?_modify, hN]
    simp
  · have hj' : j < l.length := by simpa using hj
    rw [Array.getElem?_setIfInBounds, List.getElem_set]
    have := hc j hj'
    split
    · rename_i q
      subst q
      rw [if_pos (Array.getElem?_eq_some_iff.1 this).1]
    · exact this
end Go.Proofs.YtjmejamgbinigaaGreatDoor
namespace Go.Proofs.YtjmejamgbinigaaGreatDoor
set_option linter.unusedVariables false
set_option linter.unusedSimpArgs false
open Go.RowKit

structure FS where
  S0 : List UInt8
  S1 : List UInt8
  n0 : Int
  n1 : Int
  room : Int
  left : Int
  dead : Bool
  ops : Int
/-- What the reference keeps of a reel. -/
def RS.toF (s : RS) : FS := { S0 := s.t0, S1 := s.t1, n0 := s.s0.length, n1 := s.s1.length, room := s.room, left := s.left, dead := s.dead, ops := s.ops }

def FCells (gs gf : Nat) (x : FS) : List Value := [.slice (some ⟨gs, 0, none⟩) 2 2, .slice (some ⟨gf, 0, none⟩) 2 2, .int .i64 x.room, .int .i64 x.left, .bool x.dead, .int .i64 x.ops]
def FStr (x : FS) : List Value := [.string (str x.S0), .string (str x.S1)]
def FNum (x : FS) : List Value := [.int .i64 x.n0, .int .i64 x.n1]

structure FRaw (w : World) (b gs gf : Nat) (x : FS) : Prop where
  blk : Blk w b (FCells gs gf x) 50
  strs : Blk w gs (FStr x) 9
  nums : Blk w gf (FNum x) 3
  d1 : b ≠ gs
  d2 : b ≠ gf
  d3 : gs ≠ gf
def FFoot (b gs gf : Nat) : List Nat := [b, gs, gf]
structure FPost (w : World) (b gs gf : Nat) (x : FS) (w' : World) : Prop where
  raw : FRaw w' b gs gf x
  chg : Chg (· ∈ FFoot b gs gf) w w'

theorem FRaw.drewN {w : World} {b gs gf : Nat} {x : FS} (h : FRaw w b gs gf x) (n : Nat) : FRaw (w.drewN n) b gs gf x := ⟨h.blk, h.strs, h.nums, h.d1, h.d2, h.d3⟩
theorem FRaw.chg {S : Nat → Prop} {w w' : World} {b gs gf : Nat} {x : FS} (h : FRaw w b gs gf x) (k : Chg S w w') (hb : ¬ S b) (hs : ¬ S gs) (hf : ¬ S gf) : FRaw w' b gs gf x :=
  ⟨h.blk.chg k hb, h.strs.chg k hs, h.nums.chg k hf, h.d1, h.d2, h.d3⟩
theorem FRaw.alloc {w : World} {b gs gf : Nat} {x : FS} (h : FRaw w b gs gf x) (o : Obj) : FRaw (w.alloc o) b gs gf x := ⟨h.blk.alloc o, h.strs.alloc o, h.nums.alloc o, h.d1, h.d2, h.d3⟩
theorem FRaw.setB {w : World} {b gs gf : Nat} {x x' : FS} (h : FRaw w b gs gf x) (k : Nat) (u : Value) (hs : (FCells gs gf x).set k u = FCells gs gf x') (e1 : FStr x = FStr x') (e2 : FNum x = FNum x') : FRaw (w.setCell ⟨b, k, none⟩ u) b gs gf x' :=
  ⟨hs ▸ h.blk.set k u, e1 ▸ h.strs.other (p := ⟨b, k, none⟩) h.d1.symm u, e2 ▸ h.nums.other (p := ⟨b, k, none⟩) h.d2.symm u, h.d1, h.d2, h.d3⟩
theorem FRaw.setS {w : World} {b gs gf : Nat} {x x' : FS} (h : FRaw w b gs gf x) (k : Nat) (u : Value) (hs : (FStr x).set k u = FStr x') (e1 : FCells gs gf x = FCells gs gf x') (e2 : FNum x = FNum x') : FRaw (w.setCell ⟨gs, k, none⟩ u) b gs gf x' :=
  ⟨e1 ▸ h.blk.other (p := ⟨gs, k, none⟩) h.d1 u, hs ▸ h.strs.set k u, e2 ▸ h.nums.other (p := ⟨gs, k, none⟩) h.d3.symm u, h.d1, h.d2, h.d3⟩
theorem FRaw.setF {w : World} {b gs gf : Nat} {x x' : FS} (h : FRaw w b gs gf x) (k : Nat) (u : Value) (hs : (FNum x).set k u = FNum x') (e1 : FCells gs gf x = FCells gs gf x') (e2 : FStr x = FStr x') : FRaw (w.setCell ⟨gf, k, none⟩ u) b gs gf x' :=
  ⟨e1 ▸ h.blk.other (p := ⟨gf, k, none⟩) h.d2 u, e2 ▸ h.strs.other (p := ⟨gf, k, none⟩) h.d3 u, hs ▸ h.nums.set k u, h.d1, h.d2, h.d3⟩
theorem FRaw.post {w : World} {b gs gf : Nat} {x : FS} (h : FRaw w b gs gf x) : FPost w b gs gf x w := ⟨h, Chg.refl _ _⟩
theorem FPost.drewN {w w' : World} {b gs gf : Nat} {x : FS} (h : FPost w b gs gf x w') (n : Nat) : FPost w b gs gf x (w'.drewN n) := ⟨h.raw.drewN n, h.chg.drewN n⟩
theorem FPost.drew {w w' : World} {b gs gf : Nat} {x : FS} (h : FPost w b gs gf x w') : FPost w b gs gf x w'.drew := h.drewN 1
theorem FPost.setB {w w' : World} {b gs gf : Nat} {x x' : FS} (h : FPost w b gs gf x w') (k : Nat) (u : Value) (hs : (FCells gs gf x).set k u = FCells gs gf x') (e1 : FStr x = FStr x') (e2 : FNum x = FNum x') : FPost w b gs gf x' (w'.setCell ⟨b, k, none⟩ u) :=
  ⟨h.raw.setB k u hs e1 e2, h.chg.setCell (.inl (by simp [FFoot])) u⟩
theorem FPost.setS {w w' : World} {b gs gf : Nat} {x x' : FS} (h : FPost w b gs gf x w') (k : Nat) (u : Value) (hs : (FStr x).set k u = FStr x') (e1 : FCells gs gf x = FCells gs gf x') (e2 : FNum x = FNum x') : FPost w b gs gf x' (w'.setCell ⟨gs, k, none⟩ u) :=
  ⟨h.raw.setS k u hs e1 e2, h.chg.setCell (.inl (by simp [FFoot])) u⟩
theorem FPost.setF {w w' : World} {b gs gf : Nat} {x x' : FS} (h : FPost w b gs gf x w') (k : Nat) (u : Value) (hs : (FNum x).set k u = FNum x') (e1 : FCells gs gf x = FCells gs gf x') (e2 : FStr x = FStr x') : FPost w b gs gf x' (w'.setCell ⟨gf, k, none⟩ u) :=
  ⟨h.raw.setF k u hs e1 e2, h.chg.setCell (.inl (by simp [FFoot])) u⟩
theorem FRaw.cells {w : World} {b gs gf : Nat} {x : FS} (h : FRaw w b gs gf x) : w.cell? ⟨b, 0, none⟩ = some (.slice (some ⟨gs, 0, none⟩) 2 2) ∧ w.cell? ⟨b, 1, none⟩ = some (.slice (some ⟨gf, 0, none⟩) 2 2) ∧ w.cell? ⟨b, 2, none⟩ = some (.int .i64 x.room) ∧ w.cell? ⟨b, 3, none⟩ = some (.int .i64 x.left) ∧
    w.cell? ⟨b, 4, none⟩ = some (.bool x.dead) ∧ w.cell? ⟨b, 5, none⟩ = some (.int .i64 x.ops) ∧ w.cell? ⟨gs, 0, none⟩ = some (.string (str x.S0)) ∧ w.cell? ⟨gs, 1, none⟩ = some (.string (str x.S1)) ∧ w.cell? ⟨gf, 0, none⟩ = some (.int .i64 x.n0) ∧ w.cell? ⟨gf, 1, none⟩ = some (.int .i64 x.n1) :=
  ⟨h.blk.cell 0, h.blk.cell 1, h.blk.cell 2, h.blk.cell 3, h.blk.cell 4, h.blk.cell 5, h.strs.cell 0, h.strs.cell 1, h.nums.cell 0, h.nums.cell 1⟩

set_option maxHeartbeats 400000 in
theorem rbegin_any (b gs gf : Nat) (t : Int) (s : RS) (w : World) (hR : FRaw w b gs gf s.toF) (hok : s.Ok) :
    Calls Tryz.prog 48 #[.pointer (some ⟨b, 0, none⟩), .int .i64 t] w fun e w' => e = .returned (.int .i64 (s.begin_ t).2) ∧ FPost w b gs gf (s.begin_ t).1.toF w' := by
  obtain ⟨-, -, -, c3, c4, -⟩ := hR.cells
  have f3 := hR.blk.frozen 3
  have f4 := hR.blk.frozen 4
  have l0 := hok.left0
  have l1 := hok.left1
  have HP := hd hR
  clear hR hok
  simp only [RS.toF] at c3 c4
  by_cases ht : t < 0 ∨ 2 ≤ t
  · have e : s.begin_ t = (s, 2) := RS.begin_bad ht
    have E := hd e
    have t0 : (t != 0) = true := by simp; omega
    have t1 : (t != 1) = true := by simp; omega
    clear e ht
    go_enter Tryz.func48, Tryz.ntmps48
    go_wp2
    go_ret
    rw [E.out]
    exact ⟨rfl, HP.out.post⟩
  have e : s.begin_ t = s.start := if_neg ht
  cases hdd : s.dead with
  | true =>
    have e2 : s.start = ({ s with dead := true }, 30) := if_pos (.inl hdd)
    rw [e2] at e
    have E := hd e
    rw [hdd] at c4
    clear e e2 hdd
    rcases (show t = 0 ∨ t = 1 from by omega) with rfl | rfl
    all_goals
      clear ht
      go_enter Tryz.func48, Tryz.ntmps48
      go_wp2
      go_ret
      rw [E.out]
      exact ⟨rfl, HP.out.post.setB 4 _ rfl rfl rfl⟩
  | false =>
    rw [hdd] at c4
    by_cases hl : s.left = 0
    · have e2 : s.start = ({ s with dead := true }, 30) := if_pos (.inr hl)
      rw [e2] at e
      have E := hd e
      have hl' : (s.left == 0) = true := by simp [hl]
      clear e e2 hdd hl
      rcases (show t = 0 ∨ t = 1 from by omega) with rfl | rfl
      all_goals
        clear ht
        go_enter Tryz.func48, Tryz.ntmps48
        go_wp2
        go_ret
        rw [E.out]
        exact ⟨rfl, HP.out.post.setB 4 _ rfl rfl rfl⟩
    · have hn : ¬ (s.dead = true ∨ s.left = 0) := by simp [hdd, hl]
      have hl' : (s.left == 0) = false := by simp [hl]
      by_cases hp : 0 < s.left
      · have e2 : s.start = ({ s with left := s.left - 1 }, 0) := by unfold RS.start; rw [if_neg hn, if_pos hp]
        rw [e2] at e
        have E := hd e
        clear e e2 hdd hl hn
        rcases (show t = 0 ∨ t = 1 from by omega) with rfl | rfl
        all_goals
          clear ht
          go_enter Tryz.func48, Tryz.ntmps48
          go_wp2
          go_ret
          rw [E.out]
          exact ⟨rfl, HP.out.post.setB 3 _ rfl rfl rfl⟩
      · have e2 : s.start = (s, 0) := by unfold RS.start; rw [if_neg hn, if_neg hp]
        rw [e2] at e
        have E := hd e
        clear e e2 hdd hl hn
        rcases (show t = 0 ∨ t = 1 from by omega) with rfl | rfl
        all_goals
          clear ht
          go_enter Tryz.func48, Tryz.ntmps48
          go_wp2
          go_ret
          rw [E.out]
          exact ⟨rfl, HP.out.post⟩

set_option maxHeartbeats 400000 in
theorem rfree_any (b gs gf : Nat) (s : RS) (w : World) (hR : FRaw w b gs gf s.toF) (hok : s.Ok) :
    Calls Tryz.prog 49 #[.pointer (some ⟨b, 0, none⟩)] w fun e w' => e = .returned (.int .i64 s.free) ∧ Drawn w w' := by
  obtain ⟨c0, -, c2, -, -, -, cs0, cs1, -⟩ := hR.cells
  have hf := free_room s
  obtain ⟨h1, h2, h3, h4, h5⟩ := hok
  have hu : (s.t0.length + s.t1.length : Int) ≤ s.room := by simp only [RS.used] at h3; simp only [RS.t0, RS.t1, List.length_append]; omega
  have z0 : (str s.t0).size = s.t0.length := str_size _
  have z1 : (str s.t1).size = s.t1.length := str_size _
  have E : Hd (s.free = s.room - (str s.t0).size - (str s.t1).size) := hd (by rw [z0, z1]; omega)
  have y0 : (str s.t0).size ≤ 4194304 := by omega
  have y1 : (str s.t1).size ≤ 4194304 := by omega
  simp only [RS.toF] at c2 cs0 cs1
  rw [E.out]
  clear hf hu z0 z1 h3 h4 h5 hR E
  generalize str s.t0 = p0 at *
  generalize str s.t1 = p1 at *
  generalize s.room = m at *
  go_enter Tryz.func49, Tryz.ntmps49
  go_wp2
  go_quiet (fail)
  go_wp2
  go_ret
  exact ⟨by first | rfl | (rw [IntWalk.i64_in _ (by omega), IntWalk.i64_in _ (by omega)]), _, rfl⟩
end Go.Proofs.YtjmejamgbinigaaGreatDoor
namespace Go.Proofs.YtjmejamgbinigaaGreatDoor
set_option linter.unusedVariables false
set_option linter.unusedSimpArgs false
open Go.RowKit

def RNewPost (w : World) (room : Int) (e : Ending) (w' : World) : Prop := ∃ b gs gf, e = .returned (.pointer (some ⟨b, 0, none⟩)) ∧ FRaw w' b gs gf (RS.new room).toF ∧ Chg (fun _ => False) w w' ∧ ∀ k ∈ FFoot b gs gf, w.heap.size ≤ k
set_option maxHeartbeats 800000 in
theorem rnew_any (room : Int) (w : World) : Calls Tryz.prog 8 #[.int .i64 room] w (RNewPost w room) := by
  go_enter Tryz.func8, Tryz.ntmps8
  go_wp2
  go_ret
  refine ⟨w.heap.size + 1 + 1, w.heap.size, w.heap.size + 1, rfl, ⟨?_, ?_, ?_, by omega, by omega, by omega⟩, (((Chg.refl _ w).alloc _).alloc _).alloc _, ?_⟩
  · have := Blk.new ((w.alloc (.cells #[.string ⟨#[]⟩, .string ⟨#[]⟩] 9)).alloc (.cells #[.int .i64 0, .int .i64 0] 3)) [.slice (some ⟨w.heap.size, 0, none⟩) 2 2, .slice (some ⟨w.heap.size + 1, 0, none⟩) 2 2, .int .i64 room, .int .i64 (-1), .bool false, .int .i64 0] 50
    simp only [World.size_alloc] at this
    exact this
  · exact ((Blk.new w [.string ⟨#[]⟩, .string ⟨#[]⟩] 9).alloc _).alloc _
  · have := Blk.new (w.alloc (.cells #[.string ⟨#[]⟩, .string ⟨#[]⟩] 9)) [.int .i64 0, .int .i64 0] 3
    have h2 := this.alloc (.cells #[.slice (some ⟨w.heap.size, 0, none⟩) 2 2, .slice (some ⟨w.heap.size + 1, 0, none⟩) 2 2, .int .i64 room, .int .i64 (-1), .bool false, .int .i64 0] 50)
    simp only [World.size_alloc] at h2
    exact h2
  · intro k hk
    simp [FFoot] at hk
    omega

set_option maxHeartbeats 800000 in
theorem rread_any (b gs gf : Nat) (t : Int) (s : RS) (w : World) (hR : FRaw w b gs gf s.toF) :
    Calls Tryz.prog 37 #[.pointer (some ⟨b, 0, none⟩), .int .i64 t] w fun e w' => e = .returned (.tuple #[.string (str (s.read t).1), .int .i64 (s.read t).2]) ∧ w = w' := by
  obtain ⟨c0, -, -, -, c4, -, cs0, cs1, -⟩ := hR.cells
  simp only [RS.toF] at c4 cs0 cs1
  clear hR
  by_cases ht : t < 0 ∨ 2 ≤ t
  · have E : Hd (s.read t = ([], 2)) := hd (if_pos ht)
    have t0 : (t != 0) = true := by simp; omega
    have t1 : (t != 1) = true := by simp; omega
    rw [E.out]
    clear ht
    go_enter Tryz.func37, Tryz.ntmps37
    go_wp2
    go_ret2
    exact ⟨rfl, rfl⟩
  cases hdd : s.dead with
  | true =>
    have e : s.read t = ([], 30) := by unfold RS.read; rw [if_neg ht, if_pos hdd]
    rw [e]
    rw [hdd] at c4
    clear e hdd
    rcases (show t = 0 ∨ t = 1 from by omega) with rfl | rfl
    all_goals
      clear ht
      go_enter Tryz.func37, Tryz.ntmps37
      go_wp2
      go_ret2
      exact ⟨rfl, rfl⟩
  | false =>
    have e : s.read t = (s.safe t ++ s.rest t, 0) := by unfold RS.read; rw [if_neg ht, if_neg (by simp [hdd])]
    rw [e]
    rw [hdd] at c4
    clear e hdd
    rcases (show t = 0 ∨ t = 1 from by omega) with rfl | rfl
    all_goals
      clear ht
      go_enter Tryz.func37, Tryz.ntmps37
      go_wp2
      go_ret2
      exact ⟨rfl, rfl⟩

theorem toF_put0 (s : RS) (a b : List UInt8) : (s.put 0 a b).toF = { s.toF with S0 := a ++ b, n0 := a.length } := rfl
theorem toF_put1 (s : RS) (a b : List UInt8) : (s.put 1 a b).toF = { s.toF with S1 := a ++ b, n1 := a.length } := rfl

set_option maxHeartbeats 800000 in
theorem rwrite0 (b gs gf : Nat) (s s1 : RS) (w : World) (q : ByteArray) (hR : FRaw w b gs gf s.toF) (hok : s.Ok) (hq : (q.size : Int) ≤ 4194304) (he : s.begin_ 0 = (s1, 0)) :
    Calls Tryz.prog 21 #[.pointer (some ⟨b, 0, none⟩), .int .i64 0, .string q] w fun e w' => e = .returned (.int .i64 (s1.write1 0 q.data.toList).2) ∧ FPost w b gs gf (s1.write1 0 q.data.toList).1.toF w' := by
  have hB := rbegin_any b gs gf 0 s w hR hok
  have hok1 := hok.begin_ 0
  rw [he] at hB hok1
  have HB := hd hB
  have HO := hd hok1
  clear hB hR hok he hok1
  by_cases hf : s1.free < q.data.toList.length
  · have HW : Hd (s1.write1 0 q.data.toList = (s1, 5)) := hd (if_pos hf)
    have hf' : s1.free < (q.size : Int) := by simpa using hf
    rw [HW.out]
    clear hf
    go_enter Tryz.func21, Tryz.ntmps21
    go_wp2_with (go_at_call 48; refine HB.out.mono ?_; rintro e w1 ⟨rfl, hp⟩)
    go_wp2_with (go_at_call 49; refine (rfree_any b gs gf s1 _ hp.raw HO.out).mono ?_; rintro e w2 ⟨rfl, n, rfl⟩)
    go_ret
    exact ⟨rfl, hp.drewN n⟩
  · have HW : Hd (s1.write1 0 q.data.toList = (s1.tick.put 0 (s1.safe 0) (s1.rest 0 ++ q.data.toList), 0)) := hd (if_neg hf)
    have hf' : ¬ s1.free < (q.size : Int) := by simpa using hf
    rw [HW.out]
    clear hf
    go_enter Tryz.func21, Tryz.ntmps21
    go_wp2_with (go_at_call 48; refine HB.out.mono ?_; rintro e w1 ⟨rfl, hp⟩)
    have HP := hd hp
    obtain ⟨c0, c1, c2, c3, c4, c5, cs0, cs1, cf0, cf1⟩ := hp.raw.cells
    have f5 := hp.raw.blk.frozen 5
    have fs0 := hp.raw.strs.frozen 0
    have fs1 := hp.raw.strs.frozen 1
    have d1 := hp.raw.d1
    have z0 : (str s1.t0).size ≤ 4194304 := by rw [str_size]; have := HO.out.small; have h2 := HO.out.used; have h3 := HO.out.room1; simp only [RS.used] at h2; simp only [RS.t0, List.length_append]; omega
    have z1 : (str s1.t1).size ≤ 4194304 := by rw [str_size]; have := HO.out.small; have h2 := HO.out.used; have h3 := HO.out.room1; simp only [RS.used] at h2; simp only [RS.t1, List.length_append]; omega
    simp only [RS.toF] at c2 c3 c4 c5 cs0 cs1 cf0 cf1
    have HE : Hd (str s1.t0 ++ q = str ((s1.tick.put 0 (s1.safe 0) (s1.rest 0 ++ q.data.toList)).toF.S0)) := hd (by
      rw [toF_put0]
      show _ = str (s1.safe 0 ++ (s1.rest 0 ++ q.data.toList))
      rw [← List.append_assoc, ← str_cat, str_toList]
      rfl)
    have HR := hd (rfree_any b gs gf s1 w1 hp.raw HO.out)
    clear hp
    go_wp2_with (go_at_call 49; refine HR.out.mono ?_; rintro e w2 ⟨rfl, n, rfl⟩)
    go_region
    rw [HE.out]
    generalize hx : (s1.tick.put 0 (s1.safe 0) (s1.rest 0 ++ q.data.toList)).toF = x at *
    have HX := hd ((((HP.out.drewN (n + 1)).setS (x' := { x with ops := s1.ops }) 0 (.string (str x.S0)) (by rw [← hx]; rfl) (by rw [← hx]; rfl) (by rw [← hx]; rfl)).setB (x' := x) 5 (.int .i64 (wrap64 (s1.ops + 1))) (by rw [← hx]; rfl) rfl rfl))
    have HXE := hd hx
    clear hx HP HE HR
    go_wp2
    go_ret
    exact ⟨rfl, by rw [HXE.out]; exact HX.out⟩
set_option maxHeartbeats 800000 in
theorem rwrite1 (b gs gf : Nat) (s s1 : RS) (w : World) (q : ByteArray) (hR : FRaw w b gs gf s.toF) (hok : s.Ok) (hq : (q.size : Int) ≤ 4194304) (he : s.begin_ 1 = (s1, 0)) :
    Calls Tryz.prog 21 #[.pointer (some ⟨b, 0, none⟩), .int .i64 1, .string q] w fun e w' => e = .returned (.int .i64 (s1.write1 1 q.data.toList).2) ∧ FPost w b gs gf (s1.write1 1 q.data.toList).1.toF w' := by
  have hB := rbegin_any b gs gf 1 s w hR hok
  have hok1 := hok.begin_ 1
  rw [he] at hB hok1
  have HB := hd hB
  have HO := hd hok1
  clear hB hR hok he hok1
  by_cases hf : s1.free < q.data.toList.length
  · have HW : Hd (s1.write1 1 q.data.toList = (s1, 5)) := hd (if_pos hf)
    have hf' : s1.free < (q.size : Int) := by simpa using hf
    rw [HW.out]
    clear hf
    go_enter Tryz.func21, Tryz.ntmps21
    go_wp2_with (go_at_call 48; refine HB.out.mono ?_; rintro e w1 ⟨rfl, hp⟩)
    go_wp2_with (go_at_call 49; refine (rfree_any b gs gf s1 _ hp.raw HO.out).mono ?_; rintro e w2 ⟨rfl, n, rfl⟩)
    go_ret
    exact ⟨rfl, hp.drewN n⟩
  · have HW : Hd (s1.write1 1 q.data.toList = (s1.tick.put 1 (s1.safe 1) (s1.rest 1 ++ q.data.toList), 0)) := hd (if_neg hf)
    have hf' : ¬ s1.free < (q.size : Int) := by simpa using hf
    rw [HW.out]
    clear hf
    go_enter Tryz.func21, Tryz.ntmps21
    go_wp2_with (go_at_call 48; refine HB.out.mono ?_; rintro e w1 ⟨rfl, hp⟩)
    have HP := hd hp
    obtain ⟨c0, c1, c2, c3, c4, c5, cs0, cs1, cf0, cf1⟩ := hp.raw.cells
    have f5 := hp.raw.blk.frozen 5
    have fs0 := hp.raw.strs.frozen 0
    have fs1 := hp.raw.strs.frozen 1
    have d1 := hp.raw.d1
    have z0 : (str s1.t0).size ≤ 4194304 := by rw [str_size]; have := HO.out.small; have h2 := HO.out.used; have h3 := HO.out.room1; simp only [RS.used] at h2; simp only [RS.t0, List.length_append]; omega
    have z1 : (str s1.t1).size ≤ 4194304 := by rw [str_size]; have := HO.out.small; have h2 := HO.out.used; have h3 := HO.out.room1; simp only [RS.used] at h2; simp only [RS.t1, List.length_append]; omega
    simp only [RS.toF] at c2 c3 c4 c5 cs0 cs1 cf0 cf1
    have HE : Hd (str s1.t1 ++ q = str ((s1.tick.put 1 (s1.safe 1) (s1.rest 1 ++ q.data.toList)).toF.S1)) := hd (by
      rw [toF_put1]
      show _ = str (s1.safe 1 ++ (s1.rest 1 ++ q.data.toList))
      rw [← List.append_assoc, ← str_cat, str_toList]
      rfl)
    have HR := hd (rfree_any b gs gf s1 w1 hp.raw HO.out)
    clear hp
    go_wp2_with (go_at_call 49; refine HR.out.mono ?_; rintro e w2 ⟨rfl, n, rfl⟩)
    go_region
    rw [HE.out]
    generalize hx : (s1.tick.put 1 (s1.safe 1) (s1.rest 1 ++ q.data.toList)).toF = x at *
    have HX := hd ((((HP.out.drewN (n + 1)).setS (x' := { x with ops := s1.ops }) 1 (.string (str x.S1)) (by rw [← hx]; rfl) (by rw [← hx]; rfl) (by rw [← hx]; rfl)).setB (x' := x) 5 (.int .i64 (wrap64 (s1.ops + 1))) (by rw [← hx]; rfl) rfl rfl))
    have HXE := hd hx
    clear hx HP HE HR
    go_wp2
    go_ret
    exact ⟨rfl, by rw [HXE.out]; exact HX.out⟩
end Go.Proofs.YtjmejamgbinigaaGreatDoor
namespace Go.Proofs.YtjmejamgbinigaaGreatDoor
set_option linter.unusedVariables false
set_option linter.unusedSimpArgs false
open Go.RowKit

theorem str_cut (l : List UInt8) (n : Nat) : (str l).extract 0 n = str (l.take n) := by
  have h : ((str l).extract 0 n).data.toList = l.take n := by simp [str]
  rw [← h, str_toList]
theorem sync_toF0 (s1 : RS) : (s1.sync1 0).1.toF = { s1.toF with n0 := s1.t0.length, ops := wrap64 (s1.ops + 1) } := by
  show (s1.tick.put 0 _ _).toF = _
  rw [toF_put0, List.append_nil]
  rfl
set_option maxHeartbeats 800000 in
theorem rsync0 (b gs gf : Nat) (s s1 : RS) (w : World) (hR : FRaw w b gs gf s.toF) (hok : s.Ok) (he : s.begin_ 0 = (s1, 0)) :
    Calls Tryz.prog 41 #[.pointer (some ⟨b, 0, none⟩), .int .i64 0] w fun e w' => e = .returned (.int .i64 0) ∧ FPost w b gs gf (s1.sync1 0).1.toF w' := by
  have hB := rbegin_any b gs gf 0 s w hR hok
  have hok1 := hok.begin_ 0
  rw [he] at hB hok1
  have HB := hd hB
  have HO := hd hok1
  clear hB hR hok he hok1
  go_enter Tryz.func41, Tryz.ntmps41
  go_wp2_with (go_at_call 48; refine HB.out.mono ?_; rintro e w1 ⟨rfl, hp⟩)
  have HP := hd hp
  obtain ⟨c0, c1, c2, c3, c4, c5, cs0, cs1, cf0, cf1⟩ := hp.raw.cells
  have f5 := hp.raw.blk.frozen 5
  have fs := hp.raw.nums.frozen 0
  have d1 := hp.raw.d2
  have HZ := hd (str_size s1.t0)
  simp only [RS.toF] at c2 c3 c4 c5 cs0 cs1 cf0 cf1
  clear hp
  go_region
  rw [HZ.out]
  have HX := hd ((HP.out.drew.setF (x' := { s1.toF with n0 := s1.t0.length }) 0 (.int .i64 (s1.t0.length : Int)) rfl rfl rfl).setB (x' := { s1.toF with n0 := s1.t0.length, ops := wrap64 (s1.ops + 1) }) 5 (.int .i64 (wrap64 (s1.ops + 1))) rfl rfl rfl)
  clear HP HZ
  go_wp2
  go_ret
  exact ⟨rfl, by rw [sync_toF0]; exact HX.out⟩

set_option maxHeartbeats 800000 in
theorem rwipe0 (b gs gf : Nat) (s s1 : RS) (w : World) (hR : FRaw w b gs gf s.toF) (hok : s.Ok) (he : s.begin_ 0 = (s1, 0)) :
    Calls Tryz.prog 39 #[.pointer (some ⟨b, 0, none⟩), .int .i64 0] w fun e w' => e = .returned (.int .i64 0) ∧ FPost w b gs gf (s1.wipe1 0).1.toF w' := by
  have hB := rbegin_any b gs gf 0 s w hR hok
  rw [he] at hB
  have HB := hd hB
  clear hB hR hok he
  go_enter Tryz.func39, Tryz.ntmps39
  go_wp2_with (go_at_call 48; refine HB.out.mono ?_; rintro e w1 ⟨rfl, hp⟩)
  have HP := hd hp
  obtain ⟨c0, c1, c2, c3, c4, c5, cs0, cs1, cf0, cf1⟩ := hp.raw.cells
  have f5 := hp.raw.blk.frozen 5
  have ff := hp.raw.nums.frozen 0
  have fs := hp.raw.strs.frozen 0
  have d1 := hp.raw.d1
  have d2 := hp.raw.d2
  have d3 := hp.raw.d3
  simp only [RS.toF] at c2 c3 c4 c5 cs0 cs1 cf0 cf1
  clear hp
  go_region
  all_goals
    have HX := hd (((HP.out.drew.setS (x' := { s1.toF with S0 := [] }) 0 (.string ⟨#[]⟩) rfl rfl rfl).setF (x' := { s1.toF with S0 := [], n0 := 0 }) 0 (.int .i64 0) rfl rfl rfl).setB (x' := (s1.wipe1 0).1.toF) 5 (.int .i64 (wrap64 (s1.ops + 1))) rfl rfl rfl)
    clear HP
    try rw [setCell_swap _ ⟨gf, 0, none⟩ ⟨gs, 0, none⟩ _ _ (.inl (fun q => d3 q.symm))]
    go_wp2
    go_ret
    exact ⟨rfl, HX.out⟩

theorem trim_toF0 (s1 : RS) (n : Int) (h1 : n ≤ (s1.safe 0).length + (s1.rest 0).length) : (s1.trim1 0 n).1.toF = { s1.toF with S0 := s1.t0.take n.toNat, n0 := (min (s1.safe 0).length n.toNat : Nat), ops := wrap64 (s1.ops + 1) } := by
  rw [trim1_of h1]
  show (s1.tick.put 0 _ _).toF = _
  rw [toF_put0]
  simp only [RS.toF, RS.tick, RS.t0, RS.t1, RS.safe, RS.rest, List.take_append, List.length_take, if_true, show ¬ ((1 : Int) = 0) from by decide, if_false, FS.mk.injEq, and_true, true_and, Nat.min_comm]
set_option maxHeartbeats 1600000 in
theorem rtrim0 (b gs gf : Nat) (n : Int) (s s1 : RS) (w : World) (hR : FRaw w b gs gf s.toF) (hok : s.Ok) (he : s.begin_ 0 = (s1, 0)) (h0 : 0 ≤ n) :
    Calls Tryz.prog 42 #[.pointer (some ⟨b, 0, none⟩), .int .i64 0, .int .i64 n] w fun e w' => e = .returned (.int .i64 (s1.trim1 0 n).2) ∧ FPost w b gs gf (s1.trim1 0 n).1.toF w' := by
  have hB := rbegin_any b gs gf 0 s w hR hok
  have hok1 := hok.begin_ 0
  rw [he] at hB hok1
  have HB := hd hB
  have HO := hd hok1
  have hlen : (s1.t0.length : Int) = (s1.safe 0).length + (s1.rest 0).length := by simp [RS.t0, RS.t1, RS.safe, RS.rest]
  have hz : (str s1.t0).size = s1.t0.length := str_size _
  clear hB hR hok he hok1
  by_cases h1 : n ≤ (s1.safe 0).length + (s1.rest 0).length
  · have HE := hd (trim_toF0 s1 n h1)
    have HR : Hd ((s1.trim1 0 n).2 = 0) := hd (by rw [trim1_of h1])
    rw [HR.out]
    have h2 : n ≤ ((str s1.t0).size : Int) := by omega
    have HL := hd h1
    clear h1 hlen hz HR
    go_enter Tryz.func42, Tryz.ntmps42
    go_wp2_with (go_at_call 48; refine HB.out.mono ?_; rintro e w1 ⟨rfl, hp⟩; have HP := hd hp; obtain ⟨c0, c1, c2, c3, c4, c5, cs0, cs1, cf0, cf1⟩ := hp.raw.cells; have f5 := hp.raw.blk.frozen 5; have ff := hp.raw.nums.frozen 0; have fs := hp.raw.strs.frozen 0; have d1 := hp.raw.d1; have d2 := hp.raw.d2; have d3 := hp.raw.d3; simp only [RS.toF] at c2 c3 c4 c5 cs0 cs1 cf0 cf1; clear hp)
    have hcut : (str s1.t0).extract 0 n.toNat = str (s1.t0.take n.toNat) := str_cut _ _
    by_cases hlt : n < ((s1.safe 0).length : Int)
    · have HN : Hd ((min (s1.safe 0).length n.toNat : Nat) = n.toNat) := hd (by omega)
      have hlt' : n < (s1.s0.length : Int) := hlt
      have HN2 : Hd ((n.toNat : Int) = n) := hd (by omega)
      clear hlt
      go_region
      go_wp2
      go_region
      have HX := hd ((((HP.out.drew.drew.setS (x' := { s1.toF with S0 := s1.t0.take n.toNat }) 0 (.string (str (s1.t0.take n.toNat))) rfl rfl rfl).setF (x' := { s1.toF with S0 := s1.t0.take n.toNat, n0 := n }) 0 (.int .i64 n) rfl rfl rfl)).setB (x' := { s1.toF with S0 := s1.t0.take n.toNat, n0 := n, ops := wrap64 (s1.ops + 1) }) 5 (.int .i64 (wrap64 (s1.ops + 1))) rfl rfl rfl)
      clear HP hcut
      go_wp2
      go_ret
      exact ⟨rfl, by rw [HE.out, HN.out, HN2.out]; exact HX.out⟩
    · have HN : Hd ((min (s1.safe 0).length n.toNat : Nat) = s1.s0.length) := hd (by show (min s1.s0.length n.toNat : Nat) = s1.s0.length; have : ¬ n < (s1.s0.length : Int) := hlt; omega)
      have hlt' : ¬ n < (s1.s0.length : Int) := hlt
      clear hlt
      go_region
      go_wp2
      go_region
      have HX := hd ((((HP.out.drew.drew.setS (x' := { s1.toF with S0 := s1.t0.take n.toNat }) 0 (.string (str (s1.t0.take n.toNat))) rfl rfl rfl).setF (x' := { s1.toF with S0 := s1.t0.take n.toNat }) 0 (.int .i64 s1.s0.length) rfl rfl rfl)).setB (x' := { s1.toF with S0 := s1.t0.take n.toNat, ops := wrap64 (s1.ops + 1) }) 5 (.int .i64 (wrap64 (s1.ops + 1))) rfl rfl rfl)
      clear HP hcut
      go_wp2
      go_ret
      exact ⟨rfl, by rw [HE.out, HN.out]; exact HX.out⟩
  · have HE : Hd (s1.trim1 0 n = (s1, 2)) := hd (if_pos (by omega))
    rw [HE.out]
    have h2 : ((str s1.t0).size : Int) < n := by omega
    clear h1 hlen hz
    go_enter Tryz.func42, Tryz.ntmps42
    go_wp2_with (go_at_call 48; refine HB.out.mono ?_; rintro e w1 ⟨rfl, hp⟩; have HP := hd hp; obtain ⟨c0, c1, c2, c3, c4, c5, cs0, cs1, cf0, cf1⟩ := hp.raw.cells; simp only [RS.toF] at c2 c3 c4 c5 cs0 cs1 cf0 cf1; clear hp)
    go_ret
    exact ⟨rfl, HP.out⟩
theorem sync_toF1 (s1 : RS) : (s1.sync1 1).1.toF = { s1.toF with n1 := s1.t1.length, ops := wrap64 (s1.ops + 1) } := by
  show (s1.tick.put 1 _ _).toF = _
  rw [toF_put1, List.append_nil]
  rfl
set_option maxHeartbeats 800000 in
theorem rsync1 (b gs gf : Nat) (s s1 : RS) (w : World) (hR : FRaw w b gs gf s.toF) (hok : s.Ok) (he : s.begin_ 1 = (s1, 0)) :
    Calls Tryz.prog 41 #[.pointer (some ⟨b, 0, none⟩), .int .i64 1] w fun e w' => e = .returned (.int .i64 0) ∧ FPost w b gs gf (s1.sync1 1).1.toF w' := by
  have hB := rbegin_any b gs gf 1 s w hR hok
  have hok1 := hok.begin_ 1
  rw [he] at hB hok1
  have HB := hd hB
  have HO := hd hok1
  clear hB hR hok he hok1
  go_enter Tryz.func41, Tryz.ntmps41
  go_wp2_with (go_at_call 48; refine HB.out.mono ?_; rintro e w1 ⟨rfl, hp⟩)
  have HP := hd hp
  obtain ⟨c0, c1, c2, c3, c4, c5, cs0, cs1, cf0, cf1⟩ := hp.raw.cells
  have f5 := hp.raw.blk.frozen 5
  have fs := hp.raw.nums.frozen 1
  have d1 := hp.raw.d2
  have HZ := hd (str_size s1.t1)
  simp only [RS.toF] at c2 c3 c4 c5 cs0 cs1 cf0 cf1
  clear hp
  go_region
  rw [HZ.out]
  have HX := hd ((HP.out.drew.setF (x' := { s1.toF with n1 := s1.t1.length }) 1 (.int .i64 (s1.t1.length : Int)) rfl rfl rfl).setB (x' := { s1.toF with n1 := s1.t1.length, ops := wrap64 (s1.ops + 1) }) 5 (.int .i64 (wrap64 (s1.ops + 1))) rfl rfl rfl)
  clear HP HZ
  go_wp2
  go_ret
  exact ⟨rfl, by rw [sync_toF1]; exact HX.out⟩

set_option maxHeartbeats 800000 in
theorem rwipe1 (b gs gf : Nat) (s s1 : RS) (w : World) (hR : FRaw w b gs gf s.toF) (hok : s.Ok) (he : s.begin_ 1 = (s1, 0)) :
    Calls Tryz.prog 39 #[.pointer (some ⟨b, 0, none⟩), .int .i64 1] w fun e w' => e = .returned (.int .i64 0) ∧ FPost w b gs gf (s1.wipe1 1).1.toF w' := by
  have hB := rbegin_any b gs gf 1 s w hR hok
  rw [he] at hB
  have HB := hd hB
  clear hB hR hok he
  go_enter Tryz.func39, Tryz.ntmps39
  go_wp2_with (go_at_call 48; refine HB.out.mono ?_; rintro e w1 ⟨rfl, hp⟩)
  have HP := hd hp
  obtain ⟨c0, c1, c2, c3, c4, c5, cs0, cs1, cf0, cf1⟩ := hp.raw.cells
  have f5 := hp.raw.blk.frozen 5
  have ff := hp.raw.nums.frozen 1
  have fs := hp.raw.strs.frozen 1
  have d1 := hp.raw.d1
  have d2 := hp.raw.d2
  have d3 := hp.raw.d3
  simp only [RS.toF] at c2 c3 c4 c5 cs0 cs1 cf0 cf1
  clear hp
  go_region
  all_goals
    have HX := hd (((HP.out.drew.setS (x' := { s1.toF with S1 := [] }) 1 (.string ⟨#[]⟩) rfl rfl rfl).setF (x' := { s1.toF with S1 := [], n1 := 0 }) 1 (.int .i64 0) rfl rfl rfl).setB (x' := (s1.wipe1 1).1.toF) 5 (.int .i64 (wrap64 (s1.ops + 1))) rfl rfl rfl)
    clear HP
    try rw [setCell_swap _ ⟨gf, 1, none⟩ ⟨gs, 1, none⟩ _ _ (.inl (fun q => d3 q.symm))]
    go_wp2
    go_ret
    exact ⟨rfl, HX.out⟩

theorem trim_toF1 (s1 : RS) (n : Int) (h1 : n ≤ (s1.safe 1).length + (s1.rest 1).length) : (s1.trim1 1 n).1.toF = { s1.toF with S1 := s1.t1.take n.toNat, n1 := (min (s1.safe 1).length n.toNat : Nat), ops := wrap64 (s1.ops + 1) } := by
  rw [trim1_of h1]
  show (s1.tick.put 1 _ _).toF = _
  rw [toF_put1]
  simp only [RS.toF, RS.tick, RS.t0, RS.t1, RS.safe, RS.rest, List.take_append, List.length_take, if_true, show ¬ ((1 : Int) = 0) from by decide, if_false, FS.mk.injEq, and_true, true_and, Nat.min_comm]
set_option maxHeartbeats 1600000 in
theorem rtrim1 (b gs gf : Nat) (n : Int) (s s1 : RS) (w : World) (hR : FRaw w b gs gf s.toF) (hok : s.Ok) (he : s.begin_ 1 = (s1, 0)) (h0 : 0 ≤ n) :
    Calls Tryz.prog 42 #[.pointer (some ⟨b, 0, none⟩), .int .i64 1, .int .i64 n] w fun e w' => e = .returned (.int .i64 (s1.trim1 1 n).2) ∧ FPost w b gs gf (s1.trim1 1 n).1.toF w' := by
  have hB := rbegin_any b gs gf 1 s w hR hok
  have hok1 := hok.begin_ 1
  rw [he] at hB hok1
  have HB := hd hB
  have HO := hd hok1
  have hlen : (s1.t1.length : Int) = (s1.safe 1).length + (s1.rest 1).length := by simp [RS.t0, RS.t1, RS.safe, RS.rest]
  have hz : (str s1.t1).size = s1.t1.length := str_size _
  clear hB hR hok he hok1
  by_cases h1 : n ≤ (s1.safe 1).length + (s1.rest 1).length
  · have HE := hd (trim_toF1 s1 n h1)
    have HR : Hd ((s1.trim1 1 n).2 = 0) := hd (by rw [trim1_of h1])
    rw [HR.out]
    have h2 : n ≤ ((str s1.t1).size : Int) := by omega
    have HL := hd h1
    clear h1 hlen hz HR
    go_enter Tryz.func42, Tryz.ntmps42
    go_wp2_with (go_at_call 48; refine HB.out.mono ?_; rintro e w1 ⟨rfl, hp⟩; have HP := hd hp; obtain ⟨c0, c1, c2, c3, c4, c5, cs0, cs1, cf0, cf1⟩ := hp.raw.cells; have f5 := hp.raw.blk.frozen 5; have ff := hp.raw.nums.frozen 1; have fs := hp.raw.strs.frozen 1; have d1 := hp.raw.d1; have d2 := hp.raw.d2; have d3 := hp.raw.d3; simp only [RS.toF] at c2 c3 c4 c5 cs0 cs1 cf0 cf1; clear hp)
    have hcut : (str s1.t1).extract 0 n.toNat = str (s1.t1.take n.toNat) := str_cut _ _
    by_cases hlt : n < ((s1.safe 1).length : Int)
    · have HN : Hd ((min (s1.safe 1).length n.toNat : Nat) = n.toNat) := hd (by omega)
      have hlt' : n < (s1.s1.length : Int) := hlt
      have HN2 : Hd ((n.toNat : Int) = n) := hd (by omega)
      clear hlt
      go_region
      go_wp2
      go_region
      have HX := hd ((((HP.out.drew.drew.setS (x' := { s1.toF with S1 := s1.t1.take n.toNat }) 1 (.string (str (s1.t1.take n.toNat))) rfl rfl rfl).setF (x' := { s1.toF with S1 := s1.t1.take n.toNat, n1 := n }) 1 (.int .i64 n) rfl rfl rfl)).setB (x' := { s1.toF with S1 := s1.t1.take n.toNat, n1 := n, ops := wrap64 (s1.ops + 1) }) 5 (.int .i64 (wrap64 (s1.ops + 1))) rfl rfl rfl)
      clear HP hcut
      go_wp2
      go_ret
      exact ⟨rfl, by rw [HE.out, HN.out, HN2.out]; exact HX.out⟩
    · have HN : Hd ((min (s1.safe 1).length n.toNat : Nat) = s1.s1.length) := hd (by show (min s1.s1.length n.toNat : Nat) = s1.s1.length; have : ¬ n < (s1.s1.length : Int) := hlt; omega)
      have hlt' : ¬ n < (s1.s1.length : Int) := hlt
      clear hlt
      go_region
      go_wp2
      go_region
      have HX := hd ((((HP.out.drew.drew.setS (x' := { s1.toF with S1 := s1.t1.take n.toNat }) 1 (.string (str (s1.t1.take n.toNat))) rfl rfl rfl).setF (x' := { s1.toF with S1 := s1.t1.take n.toNat }) 1 (.int .i64 s1.s1.length) rfl rfl rfl)).setB (x' := { s1.toF with S1 := s1.t1.take n.toNat, ops := wrap64 (s1.ops + 1) }) 5 (.int .i64 (wrap64 (s1.ops + 1))) rfl rfl rfl)
      clear HP hcut
      go_wp2
      go_ret
      exact ⟨rfl, by rw [HE.out, HN.out]; exact HX.out⟩
  · have HE : Hd (s1.trim1 1 n = (s1, 2)) := hd (if_pos (by omega))
    rw [HE.out]
    have h2 : ((str s1.t1).size : Int) < n := by omega
    clear h1 hlen hz
    go_enter Tryz.func42, Tryz.ntmps42
    go_wp2_with (go_at_call 48; refine HB.out.mono ?_; rintro e w1 ⟨rfl, hp⟩; have HP := hd hp; obtain ⟨c0, c1, c2, c3, c4, c5, cs0, cs1, cf0, cf1⟩ := hp.raw.cells; simp only [RS.toF] at c2 c3 c4 c5 cs0 cs1 cf0 cf1; clear hp)
    go_ret
    exact ⟨rfl, HP.out⟩
end Go.Proofs.YtjmejamgbinigaaGreatDoor
namespace Go.Proofs.YtjmejamgbinigaaGreatDoor
set_option linter.unusedVariables false
set_option linter.unusedSimpArgs false
open Go.RowKit

theorem FPost.grown {w W W' : World} {b gs gf : Nat} {x : FS} (h : FPost w b gs gf x W) (hB : Below W.heap.size W W') : FPost w b gs gf x W' :=
  ⟨h.raw.chg (Chg.of_below hB (fun _ => False)) id id id, h.chg.trans (Chg.of_below hB (fun _ => False)) (fun _ q => q.elim)⟩
theorem FPost.far {w W : World} {b gs gf N : Nat} {x : FS} (h : FPost w b gs gf x W) (hN : w.heap.size ≤ N) (h1 : b ≠ N) (h2 : gs ≠ N) (h3 : gf ≠ N) (k : Nat) (u : Value) : FPost w b gs gf x (W.setCell ⟨N, k, none⟩ u) :=
  ⟨h.raw.chg ((Chg.refl (fun i => i = N) W).setCell (p := ⟨N, k, none⟩) (.inl rfl) u) h1 h2 h3, h.chg.setCell (p := ⟨N, k, none⟩) (.inr hN) u⟩
theorem bytes_below' (W : World) (e : TypeId) (q : ByteArray) : Below W.heap.size W (Lib.bytesWorld W e q) := ⟨rfl, rfl, rfl, by rw [Lib.bytesWorld_size]; omega, fun i hi => Lib.bytesWorld_at_old W e q i hi⟩
theorem Blk.qbelow {w w' : World} {b : Nat} {cs : List Value} {T : TypeId} (h : Blk w b cs T) (hB : Below w.heap.size w w') : Blk w' b cs T := h.chg (Chg.of_below hB (fun _ => False)) id

theorem crash_toF (s : RS) (k0 k1 : Int) (turn : UInt8) : (s.crash k0 k1 turn).toF = { s.toF with dead := false, left := -1, S0 := s.s0 ++ RS.kept s.r0 k0 turn, n0 := (s.s0 ++ RS.kept s.r0 k0 turn).length, S1 := s.s1 ++ RS.kept s.r1 k1 turn, n1 := (s.s1 ++ RS.kept s.r1 k1 turn).length } := by
  simp [RS.toF, RS.crash, RS.t0, RS.t1]
def RCrashAt (w : World) (b gs gf : Nat) (x : FS) (N : Nat) (cs : List Value) (wx : World) : Prop := FPost w b gs gf x wx ∧ Blk wx N cs 42 ∧ b ≠ N ∧ gs ≠ N ∧ gf ≠ N

theorem FPost.alloc {w w' : World} {b gs gf : Nat} {x : FS} (h : FPost w b gs gf x w') (o : Obj) : FPost w b gs gf x (w'.alloc o) := ⟨h.raw.alloc o, h.chg.alloc o⟩

set_option maxHeartbeats 3200000 in
set_option maxRecDepth 100000 in
theorem rcrash_any (b gs gf : Nat) (k0 k1 : Int) (turn : UInt8) (s : RS) (w : World) (hR : FRaw w b gs gf s.toF) (hok : s.Ok) :
    Calls Tryz.prog 18 #[.pointer (some ⟨b, 0, none⟩), .agg #[.int .i64 k0, .int .i64 k1, .int .u8 turn.toNat]] w fun e w' => e = .returned (.tuple #[]) ∧ FPost w b gs gf (s.crash k0 k1 turn).toF w' := by
  obtain ⟨c0, c1, c2, c3, c4, c5, cs0, cs1, cf0, cf1⟩ := hR.cells
  have f3 := hR.blk.frozen 3
  have f4 := hR.blk.frozen 4
  have l1 := hR.blk.lt
  have l2 := hR.strs.lt
  have l3 := hR.nums.lt
  have HU := hd hR
  have HO := hd hok
  clear hok hR
  go_enter Tryz.func18, Tryz.ntmps18
  go_wp2
  have HV := hd (((HU.out.post.setB (x' := { s.toF with dead := false }) 4 (.bool false) rfl rfl rfl).setB (x' := { s.toF with dead := false, left := -1 }) 3 (.int .i64 (-1)) rfl rfl rfl).alloc (.cells #[.int .i64 k0, .int .i64 k1, .int .u8 turn.toNat] 42))
  have HZ := hd (Blk.new ((w.setCell ⟨b, 4, none⟩ (.bool false)).setCell ⟨b, 3, none⟩ (.int .i64 (-1))) [.int .i64 k0, .int .i64 k1, .int .u8 turn.toNat] 42)
  rw [World.size_setCell, World.size_setCell] at HZ
  clear HU c0 c1 c2 c3 c4 c5 cs0 cs1 cf0 cf1 f3 f4
  generalize ((w.setCell ⟨b, 4, none⟩ (.bool false)).setCell ⟨b, 3, none⟩ (.int .i64 (-1))).alloc (.cells #[.int .i64 k0, .int .i64 k1, .int .u8 turn.toNat] 42) = W at *
  refine wp_loop_rounds 3 ?_
  rw [rounds_succ]
  go_upto_block 1 with (fail)
  go_cut [] (fun wx => RCrashAt w b gs gf { s.toF with dead := false, left := -1, S0 := s.s0 ++ RS.kept s.r0 k0 turn, n0 := (s.s0 ++ RS.kept s.r0 k0 turn).length } w.heap.size [.int .i64 k0, .int .i64 k1, .int .u8 turn.toNat] wx)
  case first =>
    obtain ⟨c0, c1, c2, c3, c4, c5, cs0, cs1, cf0, cf1⟩ := HV.out.raw.cells
    have ck : W.cell? ⟨w.heap.size, 0, none⟩ = some (.int .i64 k0) := HZ.out.cell 0
    have ct : W.cell? ⟨w.heap.size, 2, none⟩ = some (.int .u8 turn.toNat) := HZ.out.cell 2
    have hsm := HO.out.small
    have m1 := keep_le s.r0 k0
    have g1 := keep_if s.r0 k0
    have HK := hd (RS.kept_eq s.r0 k0 turn)
    simp only [RS.toF] at c2 c3 c4 c5 cs0 cs1 cf0 cf1
    have e1 : IntKind.i64.wrap (((str s.t0).size : Int) - (s.s0.length : Int)) = (s.r0.length : Int) := by
      rw [IntWalk.i64_in _ (by rw [str_size]; simp only [RS.t0, RS.t1, List.length_append]; omega), str_size]
      simp only [RS.t0, RS.t1, List.length_append]
      omega
    generalize RS.keepn s.r0 k0 = m at *
    have e2 : IntKind.i64.wrap ((s.s0.length : Int) + (m : Int)) = (s.s0.length : Int) + (m : Int) := IntWalk.i64_in _ (by omega)
    go_wp2
    go_quiet (fail)
    generalize (if (s.r0.length : Int) < k0 then (s.r0.length : Int) else k0) = zz at *
    obtain ⟨S, hS⟩ : ∃ S, (str s.t0).extract 0 (s.s0.length + m) = S := ⟨_, rfl⟩
    have hSl : S.data.toList = s.s0 ++ s.r0.take m := by
      rw [← hS, str_cut]
      show (s.s0 ++ s.r0).take (s.s0.length + m) = _
      rw [List.take_append, List.take_of_length_le (by omega), Nat.add_sub_cancel_left]
    have hSs : S.size = s.s0.length + m := by
      have : S.size = S.data.toList.length := by simp
      rw [this, hSl, List.length_append, List.length_take]
      omega
    have HSl := hd hSl
    have HSs := hd hSs
    have kc := fun W : World => Lib.run_convert_string_bytes (P := Tryz.prog) W 9 60 5 S Tryz.underlying9 Tryz.underlying60 Tryz.underlying5
    have hz : (str s.t0).size = s.s0.length + s.r0.length := by rw [str_size]; simp only [RS.t0, RS.t1, List.length_append]
    have hm2 : s.s0.length + m ≤ (str s.t0).size := by omega
    clear hSl hSs hz e1 e2
    go_upto_region 8 with (fail)
    have hWW : (W.drewN nq).heap.size = W.heap.size := rfl
    obtain ⟨o, hoN, hoT⟩ := Tells.new (W.drewN nq) 5 S _ HSl.out
    have HF := hd ((HV.out.drewN nq).grown (bytes_below' (W.drewN nq) 5 S))
    have HZ2 := hd (Blk.qbelow (w := W.drewN nq) HZ.out (bytes_below' (W.drewN nq) 5 S))
    have q1 := HV.out.raw.blk.lt
    have q2 := HV.out.raw.strs.lt
    have q3 := HV.out.raw.nums.lt
    have q4 := HZ.out.lt
    rw [hWW] at hoN
    have HFz := hd (fun j hj => bytes_frozen (W.drewN nq) 5 S j hj)
    have HCl := hd (fun j hj => Lib.bytesWorld_cell (W.drewN nq) 5 S j hj)
    rw [hWW] at HFz HCl
    clear hWW HV HZ c0 c1 c2 c3 c4 c5 cs0 cs1 cf0 cf1 ck ct kc hS
    generalize Lib.bytesWorld (W.drewN nq) 5 S = W2 at *
    obtain ⟨c0, c1, c2, c3, c4, c5, cs0, cs1, cf0, cf1⟩ := HF.out.raw.cells
    simp only [RS.toF] at c2 c3 c4 c5 cs0 cs1 cf0 cf1
    have HoN := hd hoN
    have HoT := hd hoT
    clear hoN hoT
    by_cases hm : m = 0
    · have hm0 : (m : Int) ≤ 0 := by omega
      have hk0 : RS.kept s.r0 k0 turn = [] := by rw [HK.out, hm]; simp
      have HLen : Hd (S.size = (s.s0 ++ RS.kept s.r0 k0 turn).length) := hd (by rw [HSs.out, hk0, hm]; simp)
      have HLen2 : Hd (((s.s0.length : Int) + (m : Int)) = ((s.s0 ++ RS.kept s.r0 k0 turn).length : Int)) := hd (by rw [hk0, hm]; simp)
      have ht4 := HoT.out
      rw [hm, List.take_zero, ← hk0] at ht4
      have HT4 := hd ht4
      have HF4 := HF
      have HZ4 := HZ2
      have HO4 := HoN
      have HMz := hd hm
      clear ht4 hm hk0 HK HFz HCl
      obtain ⟨W4, rfl⟩ : ∃ W4, W4 = W2 := ⟨_, rfl⟩
      have k0' : W4.cell? ⟨b, 0, none⟩ = some (.slice (some ⟨gs, 0, none⟩) 2 2) := HF4.out.raw.cells.1
      have k1' : W4.cell? ⟨b, 1, none⟩ = some (.slice (some ⟨gf, 0, none⟩) 2 2) := HF4.out.raw.cells.2.1
      have k2' := HF4.out.raw.strs.frozen 0
      have k3' := HF4.out.raw.nums.frozen 0
      have k4' := HF4.out.raw.strs.cell 0
      have k5' := HF4.out.raw.nums.cell 0
      have d1 := HF4.out.raw.d1
      have d2 := HF4.out.raw.d2
      have d3 := HF4.out.raw.d3
      simp only [FStr, FNum, List.getElem?_cons_zero, List.getElem?_cons_succ] at k4' k5'
      have kk : ∀ cap, (convert 60 9 (.slice (some ⟨W.heap.size, 0, none⟩) S.size cap)).run Tryz.prog W4.drew = .ok (.string (str (s.s0 ++ RS.kept s.r0 k0 turn))) W4.drew := fun cap => HT4.out.string (w := W4.drew) HO4.out _ _ HLen.out
      go_upto_region 10 with (fail)
      go_region
      all_goals
        have HX := hd ((HF4.out.drew.setS (x' := { ({ s.toF with dead := false, left := -1 } : FS) with S0 := s.s0 ++ RS.kept s.r0 k0 turn }) 0 (.string (str (s.s0 ++ RS.kept s.r0 k0 turn))) rfl rfl rfl).setF (x' := { s.toF with dead := false, left := -1, S0 := s.s0 ++ RS.kept s.r0 k0 turn, n0 := (s.s0 ++ RS.kept s.r0 k0 turn).length }) 0 (.int .i64 ((s.s0.length : Int) + (m : Int))) (by rw [HLen2.out]; rfl) rfl rfl)
        have HY := hd ((HZ4.out.drew.other (p := ⟨gs, 0, none⟩) (by intro q; have q : w.heap.size = gs := q; omega) (.string (str (s.s0 ++ RS.kept s.r0 k0 turn)))).other (p := ⟨gf, 0, none⟩) (by intro q; have q : w.heap.size = gf := q; omega) (.int .i64 ((s.s0.length : Int) + (m : Int))))
        try rw [setCell_swap _ ⟨gf, 0, none⟩ ⟨gs, 0, none⟩ _ _ (.inl (fun q => d3 q.symm))]
        clear k0' k1' k2' k3' k4' k5' kk
        go_wp2
        all_goals
          go_meet
          exact ⟨HX.out, HY.out, by omega, by omega, by omega⟩
    · have hm' : 0 < (m : Int) := by omega
      have hlen : (s.r0.take m).length = m := by simp; omega
      have hkk : RS.kept s.r0 k0 turn = (s.r0.take m).set (m - 1) ((s.r0.take m).getD (m - 1) 0 ^^^ turn) := by rw [HK.out, hlen, if_neg hm]
      have hidx : s.s0.length + m - 1 = s.s0.length + (m - 1) := by omega
      have hget : S.data.toList.getD (s.s0.length + m - 1) 0 = (s.r0.take m).getD (m - 1) 0 := by
        rw [HSl.out, hidx]
        simp only [List.getD]
        rw [List.getElem?_append_right (by omega), Nat.add_sub_cancel_left]
      have hset : (s.s0 ++ s.r0.take m).set (s.s0.length + m - 1) ((s.r0.take m).getD (m - 1) 0 ^^^ turn) = s.s0 ++ RS.kept s.r0 k0 turn := by
        rw [hkk, hidx, List.set_append_right _ _ (by omega), Nat.add_sub_cancel_left]
      have HLen : Hd (S.size = (s.s0 ++ RS.kept s.r0 k0 turn).length) := hd (by rw [HSs.out, List.length_append, hkk, List.length_set, hlen])
      have HLen2 : Hd (((s.s0.length : Int) + (m : Int)) = ((s.s0 ++ RS.kept s.r0 k0 turn).length : Int)) := hd (by rw [List.length_append, hkk, List.length_set, hlen]; omega)
      have cl := HCl.out (s.s0.length + m - 1) (by rw [HSs.out]; omega)
      rw [hget] at cl
      have fl := HFz.out (s.s0.length + m - 1) (by rw [HSs.out]; omega)
      have ct : W2.cell? ⟨w.heap.size, 2, none⟩ = some (.int .u8 turn.toNat) := HZ2.out.cell 2
      obtain ⟨o2, ho2, hT2⟩ := HoT.out.set HoN.out (s.s0.length + m - 1) ((s.r0.take m).getD (m - 1) 0 ^^^ turn)
      rw [hset] at hT2
      have HT4 := hd hT2
      have HSz := hd HSs.out
      clear hlen hkk hidx hget hset hT2 HCl HFz HSl HK hm
      generalize (s.r0.take m).getD (m - 1) 0 = x at *
      have HF4 := hd ((HF.out.far (N := W.heap.size) (by omega) (by omega) (by omega) (by omega) (s.s0.length + m - 1) (.int .u8 ((x ^^^ turn).toNat : Int))).drew)
      have HZ4 := hd ((HZ2.out.other (p := ⟨W.heap.size, s.s0.length + m - 1, none⟩) (by intro q; have q : w.heap.size = W.heap.size := q; omega) (.int .u8 ((x ^^^ turn).toNat : Int))).drew)
      have HO4 := hd ho2
      clear ho2
      have hS1 : (s.s0.length : Int) + (m : Int) ≤ (S.size : Int) := by rw [HSz.out]; push_cast; omega
      have hS2 : (S.size : Int) = (s.s0.length : Int) + (m : Int) := by rw [HSz.out]; push_cast; rfl
      have hnm : ((s.s0.length : Int) + (m : Int) - 1).toNat = s.s0.length + m - 1 := by omega
      have hb1 : IntKind.i64.wrap ((s.s0.length : Int) + (m : Int) - 1) = (s.s0.length : Int) + (m : Int) - 1 := IntWalk.i64_in _ (by omega)
      have hb2 : 0 ≤ (s.s0.length : Int) + (m : Int) - 1 := by omega
      have hb3 : (s.s0.length : Int) + (m : Int) - 1 < (S.size : Int) := by omega
      go_upto_region 9 with (fail)
      go_region
      clear hS1 hS2 hnm hb1 hb2 hb3
      rw [xor_byte]
      obtain ⟨W4, hW4⟩ : ∃ W4, (W2.setCell ⟨W.heap.size, s.s0.length + m - 1, none⟩ (.int .u8 ((x ^^^ turn).toNat : Int))).drew = W4 := ⟨_, rfl⟩
      have HO5 : Hd (W4.heap[W.heap.size]? = some o2) := hd (by rw [← hW4]; exact HO4.out)
      rw [hW4] at HF4 HZ4 ⊢
      clear hW4 HO4 cl fl ct c0 c1 c2 c3 c4 c5 cs0 cs1 cf0 cf1 HF HZ2 HoN HoT
      have HO4 := HO5
      have k0' : W4.cell? ⟨b, 0, none⟩ = some (.slice (some ⟨gs, 0, none⟩) 2 2) := HF4.out.raw.cells.1
      have k1' : W4.cell? ⟨b, 1, none⟩ = some (.slice (some ⟨gf, 0, none⟩) 2 2) := HF4.out.raw.cells.2.1
      have k2' := HF4.out.raw.strs.frozen 0
      have k3' := HF4.out.raw.nums.frozen 0
      have k4' := HF4.out.raw.strs.cell 0
      have k5' := HF4.out.raw.nums.cell 0
      have d1 := HF4.out.raw.d1
      have d2 := HF4.out.raw.d2
      have d3 := HF4.out.raw.d3
      simp only [FStr, FNum, List.getElem?_cons_zero, List.getElem?_cons_succ] at k4' k5'
      have kk : ∀ cap, (convert 60 9 (.slice (some ⟨W.heap.size, 0, none⟩) S.size cap)).run Tryz.prog W4.drew = .ok (.string (str (s.s0 ++ RS.kept s.r0 k0 turn))) W4.drew := fun cap => HT4.out.string (w := W4.drew) HO4.out _ _ HLen.out
      go_upto_region 10 with (fail)
      go_region
      all_goals
        have HX := hd ((HF4.out.drew.setS (x' := { ({ s.toF with dead := false, left := -1 } : FS) with S0 := s.s0 ++ RS.kept s.r0 k0 turn }) 0 (.string (str (s.s0 ++ RS.kept s.r0 k0 turn))) rfl rfl rfl).setF (x' := { s.toF with dead := false, left := -1, S0 := s.s0 ++ RS.kept s.r0 k0 turn, n0 := (s.s0 ++ RS.kept s.r0 k0 turn).length }) 0 (.int .i64 ((s.s0.length : Int) + (m : Int))) (by rw [HLen2.out]; rfl) rfl rfl)
        have HY := hd ((HZ4.out.drew.other (p := ⟨gs, 0, none⟩) (by intro q; have q : w.heap.size = gs := q; omega) (.string (str (s.s0 ++ RS.kept s.r0 k0 turn)))).other (p := ⟨gf, 0, none⟩) (by intro q; have q : w.heap.size = gf := q; omega) (.int .i64 ((s.s0.length : Int) + (m : Int))))
        try rw [setCell_swap _ ⟨gf, 0, none⟩ ⟨gs, 0, none⟩ _ _ (.inl (fun q => d3 q.symm))]
        clear k0' k1' k2' k3' k4' k5' kk
        go_wp2
        all_goals
          go_meet
          exact ⟨HX.out, HY.out, by omega, by omega, by omega⟩
  clear HV HZ
  clear W
  obtain ⟨V, Z, hne1, hne2, hne3⟩ := hcut
  have HV := hd V
  have HZ := hd Z
  clear V Z hne1 hne2 hne3
  obtain ⟨W, rfl⟩ : ∃ W, W = wc := ⟨_, rfl⟩
  go_wp2_with (fail)
  rw [rounds_succ]
  go_upto_block 1 with (fail)
  go_cut [] (fun wx => RCrashAt w b gs gf { s.toF with dead := false, left := -1, S0 := s.s0 ++ RS.kept s.r0 k0 turn, n0 := (s.s0 ++ RS.kept s.r0 k0 turn).length, S1 := s.s1 ++ RS.kept s.r1 k1 turn, n1 := (s.s1 ++ RS.kept s.r1 k1 turn).length } w.heap.size [.int .i64 k0, .int .i64 k1, .int .u8 turn.toNat] wx)
  case first =>
    obtain ⟨c0, c1, c2, c3, c4, c5, cs0, cs1, cf0, cf1⟩ := HV.out.raw.cells
    have ck : W.cell? ⟨w.heap.size, 1, none⟩ = some (.int .i64 k1) := HZ.out.cell 1
    have ct : W.cell? ⟨w.heap.size, 2, none⟩ = some (.int .u8 turn.toNat) := HZ.out.cell 2
    have hsm := HO.out.small
    have m1 := keep_le s.r1 k1
    have g1 := keep_if s.r1 k1
    have HK := hd (RS.kept_eq s.r1 k1 turn)
    simp only [RS.toF] at c2 c3 c4 c5 cs0 cs1 cf0 cf1
    have e1 : IntKind.i64.wrap (((str s.t1).size : Int) - (s.s1.length : Int)) = (s.r1.length : Int) := by
      rw [IntWalk.i64_in _ (by rw [str_size]; simp only [RS.t0, RS.t1, List.length_append]; omega), str_size]
      simp only [RS.t0, RS.t1, List.length_append]
      omega
    generalize RS.keepn s.r1 k1 = m at *
    have e2 : IntKind.i64.wrap ((s.s1.length : Int) + (m : Int)) = (s.s1.length : Int) + (m : Int) := IntWalk.i64_in _ (by omega)
    go_wp2
    go_quiet (fail)
    generalize (if (s.r1.length : Int) < k1 then (s.r1.length : Int) else k1) = zz at *
    obtain ⟨S, hS⟩ : ∃ S, (str s.t1).extract 0 (s.s1.length + m) = S := ⟨_, rfl⟩
    have hSl : S.data.toList = s.s1 ++ s.r1.take m := by
      rw [← hS, str_cut]
      show (s.s1 ++ s.r1).take (s.s1.length + m) = _
      rw [List.take_append, List.take_of_length_le (by omega), Nat.add_sub_cancel_left]
    have hSs : S.size = s.s1.length + m := by
      have : S.size = S.data.toList.length := by simp
      rw [this, hSl, List.length_append, List.length_take]
      omega
    have HSl := hd hSl
    have HSs := hd hSs
    have kc := fun W : World => Lib.run_convert_string_bytes (P := Tryz.prog) W 9 60 5 S Tryz.underlying9 Tryz.underlying60 Tryz.underlying5
    have hz : (str s.t1).size = s.s1.length + s.r1.length := by rw [str_size]; simp only [RS.t0, RS.t1, List.length_append]
    have hm2 : s.s1.length + m ≤ (str s.t1).size := by omega
    clear hSl hSs hz e1 e2
    go_upto_region 8 with (fail)
    have hWW : (W.drewN nq).heap.size = W.heap.size := rfl
    obtain ⟨o, hoN, hoT⟩ := Tells.new (W.drewN nq) 5 S _ HSl.out
    have HF := hd ((HV.out.drewN nq).grown (bytes_below' (W.drewN nq) 5 S))
    have HZ2 := hd (Blk.qbelow (w := W.drewN nq) HZ.out (bytes_below' (W.drewN nq) 5 S))
    have q1 := HV.out.raw.blk.lt
    have q2 := HV.out.raw.strs.lt
    have q3 := HV.out.raw.nums.lt
    have q4 := HZ.out.lt
    rw [hWW] at hoN
    have HFz := hd (fun j hj => bytes_frozen (W.drewN nq) 5 S j hj)
    have HCl := hd (fun j hj => Lib.bytesWorld_cell (W.drewN nq) 5 S j hj)
    rw [hWW] at HFz HCl
    clear hWW HV HZ c0 c1 c2 c3 c4 c5 cs0 cs1 cf0 cf1 ck ct kc hS
    generalize Lib.bytesWorld (W.drewN nq) 5 S = W2 at *
    obtain ⟨c0, c1, c2, c3, c4, c5, cs0, cs1, cf0, cf1⟩ := HF.out.raw.cells
    simp only [RS.toF] at c2 c3 c4 c5 cs0 cs1 cf0 cf1
    have HoN := hd hoN
    have HoT := hd hoT
    clear hoN hoT
    by_cases hm : m = 0
    · have hm0 : (m : Int) ≤ 0 := by omega
      have hk0 : RS.kept s.r1 k1 turn = [] := by rw [HK.out, hm]; simp
      have HLen : Hd (S.size = (s.s1 ++ RS.kept s.r1 k1 turn).length) := hd (by rw [HSs.out, hk0, hm]; simp)
      have HLen2 : Hd (((s.s1.length : Int) + (m : Int)) = ((s.s1 ++ RS.kept s.r1 k1 turn).length : Int)) := hd (by rw [hk0, hm]; simp)
      have ht4 := HoT.out
      rw [hm, List.take_zero, ← hk0] at ht4
      have HT4 := hd ht4
      have HF4 := HF
      have HZ4 := HZ2
      have HO4 := HoN
      have HMz := hd hm
      clear ht4 hm hk0 HK HFz HCl
      obtain ⟨W4, rfl⟩ : ∃ W4, W4 = W2 := ⟨_, rfl⟩
      have k0' : W4.cell? ⟨b, 0, none⟩ = some (.slice (some ⟨gs, 0, none⟩) 2 2) := HF4.out.raw.cells.1
      have k1' : W4.cell? ⟨b, 1, none⟩ = some (.slice (some ⟨gf, 0, none⟩) 2 2) := HF4.out.raw.cells.2.1
      have k2' := HF4.out.raw.strs.frozen 1
      have k3' := HF4.out.raw.nums.frozen 1
      have k4' := HF4.out.raw.strs.cell 1
      have k5' := HF4.out.raw.nums.cell 1
      have d1 := HF4.out.raw.d1
      have d2 := HF4.out.raw.d2
      have d3 := HF4.out.raw.d3
      simp only [FStr, FNum, List.getElem?_cons_zero, List.getElem?_cons_succ] at k4' k5'
      have kk : ∀ cap, (convert 60 9 (.slice (some ⟨W.heap.size, 0, none⟩) S.size cap)).run Tryz.prog W4.drew = .ok (.string (str (s.s1 ++ RS.kept s.r1 k1 turn))) W4.drew := fun cap => HT4.out.string (w := W4.drew) HO4.out _ _ HLen.out
      go_upto_region 10 with (fail)
      go_region
      all_goals
        have HX := hd ((HF4.out.drew.setS (x' := { ({ s.toF with dead := false, left := -1, S0 := s.s0 ++ RS.kept s.r0 k0 turn, n0 := (s.s0 ++ RS.kept s.r0 k0 turn).length } : FS) with S1 := s.s1 ++ RS.kept s.r1 k1 turn }) 1 (.string (str (s.s1 ++ RS.kept s.r1 k1 turn))) rfl rfl rfl).setF (x' := { s.toF with dead := false, left := -1, S0 := s.s0 ++ RS.kept s.r0 k0 turn, n0 := (s.s0 ++ RS.kept s.r0 k0 turn).length, S1 := s.s1 ++ RS.kept s.r1 k1 turn, n1 := (s.s1 ++ RS.kept s.r1 k1 turn).length }) 1 (.int .i64 ((s.s1.length : Int) + (m : Int))) (by rw [HLen2.out]; rfl) rfl rfl)
        have HY := hd ((HZ4.out.drew.other (p := ⟨gs, 1, none⟩) (by intro q; have q : w.heap.size = gs := q; omega) (.string (str (s.s1 ++ RS.kept s.r1 k1 turn)))).other (p := ⟨gf, 1, none⟩) (by intro q; have q : w.heap.size = gf := q; omega) (.int .i64 ((s.s1.length : Int) + (m : Int))))
        try rw [setCell_swap _ ⟨gf, 1, none⟩ ⟨gs, 1, none⟩ _ _ (.inl (fun q => d3 q.symm))]
        clear k0' k1' k2' k3' k4' k5' kk
        go_wp2
        all_goals
          go_meet
          exact ⟨HX.out, HY.out, by omega, by omega, by omega⟩
    · have hm' : 0 < (m : Int) := by omega
      have hlen : (s.r1.take m).length = m := by simp; omega
      have hkk : RS.kept s.r1 k1 turn = (s.r1.take m).set (m - 1) ((s.r1.take m).getD (m - 1) 0 ^^^ turn) := by rw [HK.out, hlen, if_neg hm]
      have hidx : s.s1.length + m - 1 = s.s1.length + (m - 1) := by omega
      have hget : S.data.toList.getD (s.s1.length + m - 1) 0 = (s.r1.take m).getD (m - 1) 0 := by
        rw [HSl.out, hidx]
        simp only [List.getD]
        rw [List.getElem?_append_right (by omega), Nat.add_sub_cancel_left]
      have hset : (s.s1 ++ s.r1.take m).set (s.s1.length + m - 1) ((s.r1.take m).getD (m - 1) 0 ^^^ turn) = s.s1 ++ RS.kept s.r1 k1 turn := by
        rw [hkk, hidx, List.set_append_right _ _ (by omega), Nat.add_sub_cancel_left]
      have HLen : Hd (S.size = (s.s1 ++ RS.kept s.r1 k1 turn).length) := hd (by rw [HSs.out, List.length_append, hkk, List.length_set, hlen])
      have HLen2 : Hd (((s.s1.length : Int) + (m : Int)) = ((s.s1 ++ RS.kept s.r1 k1 turn).length : Int)) := hd (by rw [List.length_append, hkk, List.length_set, hlen]; omega)
      have cl := HCl.out (s.s1.length + m - 1) (by rw [HSs.out]; omega)
      rw [hget] at cl
      have fl := HFz.out (s.s1.length + m - 1) (by rw [HSs.out]; omega)
      have ct : W2.cell? ⟨w.heap.size, 2, none⟩ = some (.int .u8 turn.toNat) := HZ2.out.cell 2
      obtain ⟨o2, ho2, hT2⟩ := HoT.out.set HoN.out (s.s1.length + m - 1) ((s.r1.take m).getD (m - 1) 0 ^^^ turn)
      rw [hset] at hT2
      have HT4 := hd hT2
      have HSz := hd HSs.out
      clear hlen hkk hidx hget hset hT2 HCl HFz HSl HK hm
      generalize (s.r1.take m).getD (m - 1) 0 = x at *
      have HF4 := hd ((HF.out.far (N := W.heap.size) (by omega) (by omega) (by omega) (by omega) (s.s1.length + m - 1) (.int .u8 ((x ^^^ turn).toNat : Int))).drew)
      have HZ4 := hd ((HZ2.out.other (p := ⟨W.heap.size, s.s1.length + m - 1, none⟩) (by intro q; have q : w.heap.size = W.heap.size := q; omega) (.int .u8 ((x ^^^ turn).toNat : Int))).drew)
      have HO4 := hd ho2
      clear ho2
      have hS1 : (s.s1.length : Int) + (m : Int) ≤ (S.size : Int) := by rw [HSz.out]; push_cast; omega
      have hS2 : (S.size : Int) = (s.s1.length : Int) + (m : Int) := by rw [HSz.out]; push_cast; rfl
      have hnm : ((s.s1.length : Int) + (m : Int) - 1).toNat = s.s1.length + m - 1 := by omega
      have hb1 : IntKind.i64.wrap ((s.s1.length : Int) + (m : Int) - 1) = (s.s1.length : Int) + (m : Int) - 1 := IntWalk.i64_in _ (by omega)
      have hb2 : 0 ≤ (s.s1.length : Int) + (m : Int) - 1 := by omega
      have hb3 : (s.s1.length : Int) + (m : Int) - 1 < (S.size : Int) := by omega
      go_upto_region 9 with (fail)
      go_region
      clear hS1 hS2 hnm hb1 hb2 hb3
      rw [xor_byte]
      obtain ⟨W4, hW4⟩ : ∃ W4, (W2.setCell ⟨W.heap.size, s.s1.length + m - 1, none⟩ (.int .u8 ((x ^^^ turn).toNat : Int))).drew = W4 := ⟨_, rfl⟩
      have HO5 : Hd (W4.heap[W.heap.size]? = some o2) := hd (by rw [← hW4]; exact HO4.out)
      rw [hW4] at HF4 HZ4 ⊢
      clear hW4 HO4 cl fl ct c0 c1 c2 c3 c4 c5 cs0 cs1 cf0 cf1 HF HZ2 HoN HoT
      have HO4 := HO5
      have k0' : W4.cell? ⟨b, 0, none⟩ = some (.slice (some ⟨gs, 0, none⟩) 2 2) := HF4.out.raw.cells.1
      have k1' : W4.cell? ⟨b, 1, none⟩ = some (.slice (some ⟨gf, 0, none⟩) 2 2) := HF4.out.raw.cells.2.1
      have k2' := HF4.out.raw.strs.frozen 1
      have k3' := HF4.out.raw.nums.frozen 1
      have k4' := HF4.out.raw.strs.cell 1
      have k5' := HF4.out.raw.nums.cell 1
      have d1 := HF4.out.raw.d1
      have d2 := HF4.out.raw.d2
      have d3 := HF4.out.raw.d3
      simp only [FStr, FNum, List.getElem?_cons_zero, List.getElem?_cons_succ] at k4' k5'
      have kk : ∀ cap, (convert 60 9 (.slice (some ⟨W.heap.size, 0, none⟩) S.size cap)).run Tryz.prog W4.drew = .ok (.string (str (s.s1 ++ RS.kept s.r1 k1 turn))) W4.drew := fun cap => HT4.out.string (w := W4.drew) HO4.out _ _ HLen.out
      go_upto_region 10 with (fail)
      go_region
      all_goals
        have HX := hd ((HF4.out.drew.setS (x' := { ({ s.toF with dead := false, left := -1, S0 := s.s0 ++ RS.kept s.r0 k0 turn, n0 := (s.s0 ++ RS.kept s.r0 k0 turn).length } : FS) with S1 := s.s1 ++ RS.kept s.r1 k1 turn }) 1 (.string (str (s.s1 ++ RS.kept s.r1 k1 turn))) rfl rfl rfl).setF (x' := { s.toF with dead := false, left := -1, S0 := s.s0 ++ RS.kept s.r0 k0 turn, n0 := (s.s0 ++ RS.kept s.r0 k0 turn).length, S1 := s.s1 ++ RS.kept s.r1 k1 turn, n1 := (s.s1 ++ RS.kept s.r1 k1 turn).length }) 1 (.int .i64 ((s.s1.length : Int) + (m : Int))) (by rw [HLen2.out]; rfl) rfl rfl)
        have HY := hd ((HZ4.out.drew.other (p := ⟨gs, 1, none⟩) (by intro q; have q : w.heap.size = gs := q; omega) (.string (str (s.s1 ++ RS.kept s.r1 k1 turn)))).other (p := ⟨gf, 1, none⟩) (by intro q; have q : w.heap.size = gf := q; omega) (.int .i64 ((s.s1.length : Int) + (m : Int))))
        try rw [setCell_swap _ ⟨gf, 1, none⟩ ⟨gs, 1, none⟩ _ _ (.inl (fun q => d3 q.symm))]
        clear k0' k1' k2' k3' k4' k5' kk
        go_wp2
        all_goals
          go_meet
          exact ⟨HX.out, HY.out, by omega, by omega, by omega⟩
  clear HV HZ
  clear W
  obtain ⟨V, Z, hne1, hne2, hne3⟩ := hcut
  have HV := hd V
  have HZ := hd Z
  clear V Z hne1 hne2 hne3
  obtain ⟨W, rfl⟩ : ∃ W, W = wc := ⟨_, rfl⟩
  go_wp2_with (fail)
  rw [rounds_succ]
  go_wp2
  go_end0
  refine ⟨rfl, ?_⟩
  rw [crash_toF]
  exact HV.out
end Go.Proofs.YtjmejamgbinigaaGreatDoor
namespace Go.Proofs.YtjmejamgbinigaaGreatDoor
set_option linter.unusedVariables false
set_option linter.unusedSimpArgs false
open Go.RowKit

set_option maxHeartbeats 800000 in
theorem rwrite_any (b gs gf : Nat) (t : Int) (s : RS) (w : World) (q : ByteArray) (hR : FRaw w b gs gf s.toF) (hok : s.Ok) (hq : (q.size : Int) ≤ 4194304) :
    Calls Tryz.prog 21 #[.pointer (some ⟨b, 0, none⟩), .int .i64 t, .string q] w fun e w' => e = .returned (.int .i64 (s.write t q.data.toList).2) ∧ FPost w b gs gf (s.write t q.data.toList).1.toF w' := by
  by_cases he : (s.begin_ t).2 = 0
  · have hw : s.write t q.data.toList = (s.begin_ t).1.write1 t q.data.toList := if_neg (by simp [he])
    rw [hw]
    have e2 : s.begin_ t = ((s.begin_ t).1, 0) := by rw [← he]
    rcases RS.begin_in he with rfl | rfl
    · exact rwrite0 b gs gf s _ w q hR hok hq e2
    · exact rwrite1 b gs gf s _ w q hR hok hq e2
  · have hB := hd (rbegin_any b gs gf t s w hR hok)
    have hw : s.write t q.data.toList = s.begin_ t := if_pos he
    rw [hw]
    generalize s.begin_ t = s1e at *
    obtain ⟨s1, e1⟩ := s1e
    have he' : (e1 != 0) = true := by simpa using he
    clear he hw hR hok
    go_enter Tryz.func21, Tryz.ntmps21
    go_wp2_with (go_at_call 48; refine hB.out.mono ?_; rintro e w1 ⟨rfl, hp⟩)
    go_ret
    exact ⟨rfl, hp⟩

set_option maxHeartbeats 800000 in
theorem rsync_any (b gs gf : Nat) (t : Int) (s : RS) (w : World) (hR : FRaw w b gs gf s.toF) (hok : s.Ok) :
    Calls Tryz.prog 41 #[.pointer (some ⟨b, 0, none⟩), .int .i64 t] w fun e w' => e = .returned (.int .i64 (s.sync t).2) ∧ FPost w b gs gf (s.sync t).1.toF w' := by
  by_cases he : (s.begin_ t).2 = 0
  · have hw : s.sync t = (s.begin_ t).1.sync1 t := if_neg (by simp [he])
    rw [hw]
    have e2 : s.begin_ t = ((s.begin_ t).1, 0) := by rw [← he]
    rcases RS.begin_in he with rfl | rfl
    · exact rsync0 b gs gf s _ w hR hok e2
    · exact rsync1 b gs gf s _ w hR hok e2
  · have hB := hd (rbegin_any b gs gf t s w hR hok)
    have hw : s.sync t = s.begin_ t := if_pos he
    rw [hw]
    generalize s.begin_ t = s1e at *
    obtain ⟨s1, e1⟩ := s1e
    have he' : (e1 == 0) = false := by simpa using he
    clear he hw hR hok
    go_enter Tryz.func41, Tryz.ntmps41
    go_wp2_with (go_at_call 48; refine hB.out.mono ?_; rintro e w1 ⟨rfl, hp⟩)
    go_ret
    exact ⟨rfl, hp⟩
set_option maxHeartbeats 800000 in
theorem rwipe_any (b gs gf : Nat) (t : Int) (s : RS) (w : World) (hR : FRaw w b gs gf s.toF) (hok : s.Ok) :
    Calls Tryz.prog 39 #[.pointer (some ⟨b, 0, none⟩), .int .i64 t] w fun e w' => e = .returned (.int .i64 (s.wipe t).2) ∧ FPost w b gs gf (s.wipe t).1.toF w' := by
  by_cases he : (s.begin_ t).2 = 0
  · have hw : s.wipe t = (s.begin_ t).1.wipe1 t := if_neg (by simp [he])
    rw [hw]
    have e2 : s.begin_ t = ((s.begin_ t).1, 0) := by rw [← he]
    rcases RS.begin_in he with rfl | rfl
    · exact rwipe0 b gs gf s _ w hR hok e2
    · exact rwipe1 b gs gf s _ w hR hok e2
  · have hB := hd (rbegin_any b gs gf t s w hR hok)
    have hw : s.wipe t = s.begin_ t := if_pos he
    rw [hw]
    generalize s.begin_ t = s1e at *
    obtain ⟨s1, e1⟩ := s1e
    have he' : (e1 == 0) = false := by simpa using he
    clear he hw hR hok
    go_enter Tryz.func39, Tryz.ntmps39
    go_wp2_with (go_at_call 48; refine hB.out.mono ?_; rintro e w1 ⟨rfl, hp⟩)
    go_ret
    exact ⟨rfl, hp⟩

set_option maxHeartbeats 800000 in
theorem rtrim_any (b gs gf : Nat) (t n : Int) (s : RS) (w : World) (hR : FRaw w b gs gf s.toF) (hok : s.Ok) :
    Calls Tryz.prog 42 #[.pointer (some ⟨b, 0, none⟩), .int .i64 t, .int .i64 n] w fun e w' => e = .returned (.int .i64 (s.trim t n).2) ∧ FPost w b gs gf (s.trim t n).1.toF w' := by
  by_cases hn : n < 0
  · have hw : s.trim t n = (s, 2) := if_pos hn
    rw [hw]
    have HP := hd hR.post
    clear hw hR hok
    go_enter Tryz.func42, Tryz.ntmps42
    go_wp2
    go_ret
    exact ⟨rfl, HP.out⟩
  have hw1 : s.trim t n = s.op t (·.trim1 t n) := if_neg hn
  have hn' : 0 ≤ n := by omega
  by_cases he : (s.begin_ t).2 = 0
  · have hw : s.trim t n = (s.begin_ t).1.trim1 t n := hw1.trans (if_neg (by simp [he]))
    rw [hw]
    have e2 : s.begin_ t = ((s.begin_ t).1, 0) := by rw [← he]
    rcases RS.begin_in he with rfl | rfl
    · exact rtrim0 b gs gf n s _ w hR hok e2 hn'
    · exact rtrim1 b gs gf n s _ w hR hok e2 hn'
  · have hB := hd (rbegin_any b gs gf t s w hR hok)
    have hw : s.trim t n = s.begin_ t := hw1.trans (if_pos he)
    rw [hw]
    generalize s.begin_ t = s1e at *
    obtain ⟨s1, e1⟩ := s1e
    have he' : (e1 != 0) = true := by simpa using he
    clear he hw hR hw1 hn hok
    go_enter Tryz.func42, Tryz.ntmps42
    go_wp2_with (go_at_call 48; refine hB.out.mono ?_; rintro e w1 ⟨rfl, hp⟩)
    go_ret
    exact ⟨rfl, hp⟩

end Go.Proofs.YtjmejamgbinigaaGreatDoor
