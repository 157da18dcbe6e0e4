/-
  The document's reel (the reference) in memory: three blocks. What its small methods do.
-/
import Derived.Test.YtjmddbhbibmjdaaWRoom
namespace Go.Proofs.Ytjmddbhbibmjdaa
set_option linter.unusedVariables false
set_option linter.unusedSimpArgs false
open Go.RowKit

structure FS where
  S0 : List UInt8
  S1 : List UInt8
  n0 : Int
  n1 : Int
  room : Int
  left : Int
  dead : Bool
  ops : Int
/-- What the reference keeps of a reel. -/
def RS.toF (s : RS) : FS := { S0 := s.t0, S1 := s.t1, n0 := s.s0.length, n1 := s.s1.length, room := s.room, left := s.left, dead := s.dead, ops := s.ops }

def FCells (gs gf : Nat) (x : FS) : List Value := [.slice (some ⟨gs, 0, none⟩) 2 2, .slice (some ⟨gf, 0, none⟩) 2 2, .int .i64 x.room, .int .i64 x.left, .bool x.dead, .int .i64 x.ops]
def FStr (x : FS) : List Value := [.string (str x.S0), .string (str x.S1)]
def FNum (x : FS) : List Value := [.int .i64 x.n0, .int .i64 x.n1]

structure FRaw (w : World) (b gs gf : Nat) (x : FS) : Prop where
  blk : Blk w b (FCells gs gf x) 52
  strs : Blk w gs (FStr x) 9
  nums : Blk w gf (FNum x) 3
  d1 : b ≠ gs
  d2 : b ≠ gf
  d3 : gs ≠ gf
def FFoot (b gs gf : Nat) : List Nat := [b, gs, gf]
structure FPost (w : World) (b gs gf : Nat) (x : FS) (w' : World) : Prop where
  raw : FRaw w' b gs gf x
  chg : Chg (· ∈ FFoot b gs gf) w w'

theorem FRaw.drewN {w : World} {b gs gf : Nat} {x : FS} (h : FRaw w b gs gf x) (n : Nat) : FRaw (w.drewN n) b gs gf x := ⟨h.blk, h.strs, h.nums, h.d1, h.d2, h.d3⟩
theorem FRaw.chg {S : Nat → Prop} {w w' : World} {b gs gf : Nat} {x : FS} (h : FRaw w b gs gf x) (k : Chg S w w') (hb : ¬ S b) (hs : ¬ S gs) (hf : ¬ S gf) : FRaw w' b gs gf x :=
  ⟨h.blk.chg k hb, h.strs.chg k hs, h.nums.chg k hf, h.d1, h.d2, h.d3⟩
theorem FRaw.alloc {w : World} {b gs gf : Nat} {x : FS} (h : FRaw w b gs gf x) (o : Obj) : FRaw (w.alloc o) b gs gf x := ⟨h.blk.alloc o, h.strs.alloc o, h.nums.alloc o, h.d1, h.d2, h.d3⟩
theorem FRaw.setB {w : World} {b gs gf : Nat} {x x' : FS} (h : FRaw w b gs gf x) (k : Nat) (u : Value) (hs : (FCells gs gf x).set k u = FCells gs gf x') (e1 : FStr x = FStr x') (e2 : FNum x = FNum x') : FRaw (w.setCell ⟨b, k, none⟩ u) b gs gf x' :=
  ⟨hs ▸ h.blk.set k u, e1 ▸ h.strs.other (p := ⟨b, k, none⟩) h.d1.symm u, e2 ▸ h.nums.other (p := ⟨b, k, none⟩) h.d2.symm u, h.d1, h.d2, h.d3⟩
theorem FRaw.setS {w : World} {b gs gf : Nat} {x x' : FS} (h : FRaw w b gs gf x) (k : Nat) (u : Value) (hs : (FStr x).set k u = FStr x') (e1 : FCells gs gf x = FCells gs gf x') (e2 : FNum x = FNum x') : FRaw (w.setCell ⟨gs, k, none⟩ u) b gs gf x' :=
  ⟨e1 ▸ h.blk.other (p := ⟨gs, k, none⟩) h.d1 u, hs ▸ h.strs.set k u, e2 ▸ h.nums.other (p := ⟨gs, k, none⟩) h.d3.symm u, h.d1, h.d2, h.d3⟩
theorem FRaw.setF {w : World} {b gs gf : Nat} {x x' : FS} (h : FRaw w b gs gf x) (k : Nat) (u : Value) (hs : (FNum x).set k u = FNum x') (e1 : FCells gs gf x = FCells gs gf x') (e2 : FStr x = FStr x') : FRaw (w.setCell ⟨gf, k, none⟩ u) b gs gf x' :=
  ⟨e1 ▸ h.blk.other (p := ⟨gf, k, none⟩) h.d2 u, e2 ▸ h.strs.other (p := ⟨gf, k, none⟩) h.d3 u, hs ▸ h.nums.set k u, h.d1, h.d2, h.d3⟩
theorem FRaw.post {w : World} {b gs gf : Nat} {x : FS} (h : FRaw w b gs gf x) : FPost w b gs gf x w := ⟨h, Chg.refl _ _⟩
theorem FPost.drewN {w w' : World} {b gs gf : Nat} {x : FS} (h : FPost w b gs gf x w') (n : Nat) : FPost w b gs gf x (w'.drewN n) := ⟨h.raw.drewN n, h.chg.drewN n⟩
theorem FPost.drew {w w' : World} {b gs gf : Nat} {x : FS} (h : FPost w b gs gf x w') : FPost w b gs gf x w'.drew := h.drewN 1
theorem FPost.setB {w w' : World} {b gs gf : Nat} {x x' : FS} (h : FPost w b gs gf x w') (k : Nat) (u : Value) (hs : (FCells gs gf x).set k u = FCells gs gf x') (e1 : FStr x = FStr x') (e2 : FNum x = FNum x') : FPost w b gs gf x' (w'.setCell ⟨b, k, none⟩ u) :=
  ⟨h.raw.setB k u hs e1 e2, h.chg.setCell (.inl (by simp [FFoot])) u⟩
theorem FPost.setS {w w' : World} {b gs gf : Nat} {x x' : FS} (h : FPost w b gs gf x w') (k : Nat) (u : Value) (hs : (FStr x).set k u = FStr x') (e1 : FCells gs gf x = FCells gs gf x') (e2 : FNum x = FNum x') : FPost w b gs gf x' (w'.setCell ⟨gs, k, none⟩ u) :=
  ⟨h.raw.setS k u hs e1 e2, h.chg.setCell (.inl (by simp [FFoot])) u⟩
theorem FPost.setF {w w' : World} {b gs gf : Nat} {x x' : FS} (h : FPost w b gs gf x w') (k : Nat) (u : Value) (hs : (FNum x).set k u = FNum x') (e1 : FCells gs gf x = FCells gs gf x') (e2 : FStr x = FStr x') : FPost w b gs gf x' (w'.setCell ⟨gf, k, none⟩ u) :=
  ⟨h.raw.setF k u hs e1 e2, h.chg.setCell (.inl (by simp [FFoot])) u⟩
theorem FRaw.cells {w : World} {b gs gf : Nat} {x : FS} (h : FRaw w b gs gf x) : w.cell? ⟨b, 0, none⟩ = some (.slice (some ⟨gs, 0, none⟩) 2 2) ∧ w.cell? ⟨b, 1, none⟩ = some (.slice (some ⟨gf, 0, none⟩) 2 2) ∧ w.cell? ⟨b, 2, none⟩ = some (.int .i64 x.room) ∧ w.cell? ⟨b, 3, none⟩ = some (.int .i64 x.left) ∧
    w.cell? ⟨b, 4, none⟩ = some (.bool x.dead) ∧ w.cell? ⟨b, 5, none⟩ = some (.int .i64 x.ops) ∧ w.cell? ⟨gs, 0, none⟩ = some (.string (str x.S0)) ∧ w.cell? ⟨gs, 1, none⟩ = some (.string (str x.S1)) ∧ w.cell? ⟨gf, 0, none⟩ = some (.int .i64 x.n0) ∧ w.cell? ⟨gf, 1, none⟩ = some (.int .i64 x.n1) :=
  ⟨h.blk.cell 0, h.blk.cell 1, h.blk.cell 2, h.blk.cell 3, h.blk.cell 4, h.blk.cell 5, h.strs.cell 0, h.strs.cell 1, h.nums.cell 0, h.nums.cell 1⟩

set_option maxHeartbeats 400000 in
theorem rbegin_any (b gs gf : Nat) (t : Int) (s : RS) (w : World) (hR : FRaw w b gs gf s.toF) (hok : s.Ok) :
    Calls Try.prog 35 #[.pointer (some ⟨b, 0, none⟩), .int .i64 t] w fun e w' => e = .returned (.int .i64 (s.begin_ t).2) ∧ FPost w b gs gf (s.begin_ t).1.toF w' := by
  obtain ⟨-, -, -, c3, c4, -⟩ := hR.cells
  have f3 := hR.blk.frozen 3
  have f4 := hR.blk.frozen 4
  have l0 := hok.left0
  have l1 := hok.left1
  have HP := hd hR
  clear hR hok
  simp only [RS.toF] at c3 c4
  by_cases ht : t < 0 ∨ 2 ≤ t
  · have e : s.begin_ t = (s, 2) := RS.begin_bad ht
    have E := hd e
    have t0 : (t != 0) = true := by simp; omega
    have t1 : (t != 1) = true := by simp; omega
    clear e ht
    go_enter Try.func35, Try.ntmps35
    go_wp2
    go_ret
    rw [E.out]
    exact ⟨rfl, HP.out.post⟩
  have e : s.begin_ t = s.start := if_neg ht
  cases hdd : s.dead with
  | true =>
    have e2 : s.start = ({ s with dead := true }, 30) := if_pos (.inl hdd)
    rw [e2] at e
    have E := hd e
    rw [hdd] at c4
    clear e e2 hdd
    rcases (show t = 0 ∨ t = 1 from by omega) with rfl | rfl
    all_goals
      clear ht
      go_enter Try.func35, Try.ntmps35
      go_wp2
      go_ret
      rw [E.out]
      exact ⟨rfl, HP.out.post.setB 4 _ rfl rfl rfl⟩
  | false =>
    rw [hdd] at c4
    by_cases hl : s.left = 0
    · have e2 : s.start = ({ s with dead := true }, 30) := if_pos (.inr hl)
      rw [e2] at e
      have E := hd e
      have hl' : (s.left == 0) = true := by simp [hl]
      clear e e2 hdd hl
      rcases (show t = 0 ∨ t = 1 from by omega) with rfl | rfl
      all_goals
        clear ht
        go_enter Try.func35, Try.ntmps35
        go_wp2
        go_ret
        rw [E.out]
        exact ⟨rfl, HP.out.post.setB 4 _ rfl rfl rfl⟩
    · have hn : ¬ (s.dead = true ∨ s.left = 0) := by simp [hdd, hl]
      have hl' : (s.left == 0) = false := by simp [hl]
      by_cases hp : 0 < s.left
      · have e2 : s.start = ({ s with left := s.left - 1 }, 0) := by unfold RS.start; rw [if_neg hn, if_pos hp]
        rw [e2] at e
        have E := hd e
        clear e e2 hdd hl hn
        rcases (show t = 0 ∨ t = 1 from by omega) with rfl | rfl
        all_goals
          clear ht
          go_enter Try.func35, Try.ntmps35
          go_wp2
          go_ret
          rw [E.out]
          exact ⟨rfl, HP.out.post.setB 3 _ rfl rfl rfl⟩
      · have e2 : s.start = (s, 0) := by unfold RS.start; rw [if_neg hn, if_neg hp]
        rw [e2] at e
        have E := hd e
        clear e e2 hdd hl hn
        rcases (show t = 0 ∨ t = 1 from by omega) with rfl | rfl
        all_goals
          clear ht
          go_enter Try.func35, Try.ntmps35
          go_wp2
          go_ret
          rw [E.out]
          exact ⟨rfl, HP.out.post⟩

set_option maxHeartbeats 400000 in
theorem rfree_any (b gs gf : Nat) (s : RS) (w : World) (hR : FRaw w b gs gf s.toF) (hok : s.Ok) :
    Calls Try.prog 24 #[.pointer (some ⟨b, 0, none⟩)] w fun e w' => e = .returned (.int .i64 s.free) ∧ Drawn w w' := by
  obtain ⟨c0, -, c2, -, -, -, cs0, cs1, -⟩ := hR.cells
  have hf := free_room s
  obtain ⟨h1, h2, h3, h4, h5⟩ := hok
  have hu : (s.t0.length + s.t1.length : Int) ≤ s.room := by simp only [RS.used] at h3; simp only [RS.t0, RS.t1, List.length_append]; omega
  have z0 : (str s.t0).size = s.t0.length := str_size _
  have z1 : (str s.t1).size = s.t1.length := str_size _
  have E : Hd (s.free = s.room - (str s.t0).size - (str s.t1).size) := hd (by rw [z0, z1]; omega)
  have y0 : (str s.t0).size ≤ 4194304 := by omega
  have y1 : (str s.t1).size ≤ 4194304 := by omega
  simp only [RS.toF] at c2 cs0 cs1
  rw [E.out]
  clear hf hu z0 z1 h3 h4 h5 hR E
  generalize str s.t0 = p0 at *
  generalize str s.t1 = p1 at *
  generalize s.room = m at *
  go_enter Try.func24, Try.ntmps24
  go_wp2
  go_quiet (fail)
  go_wp2
  go_ret
  exact ⟨by first | rfl | (rw [IntWalk.i64_in _ (by omega), IntWalk.i64_in _ (by omega)]), _, rfl⟩
end Go.Proofs.Ytjmddbhbibmjdaa
