/-
  Lemmas, joined of the texts Reel1 Reel2 Reel3 Reel4 Reel5 Reel6 Reel7 Reel8 LReel.
-/
import Derived.Test.YtopajmbblemopaaGreatDoorProg
import Derived.Test.YtopajmbblemopaaGreatDoorMB7
namespace Go.Proofs.YtopajmbblemopaaGreatDoor
set_option linter.unusedVariables false
set_option linter.unusedSimpArgs false
open Go.RowKit

theorem num_post {w : World} {b : Nat} {s s' : RS} {v0 v1 v2 v3 : Value} (h : RParts w b s v0 v1 v2 v3) (k : Nat) (u : Value) (hs : (RCells v0 v1 v2 v3 s).set k u = RCells v0 v1 v2 v3 s')
    (ht : s'.s0 = s.s0 ∧ s'.r0 = s.r0 ∧ s'.s1 = s.s1 ∧ s'.r1 = s.r1) (hok : s'.Ok) : RPost w b (RFoot b v0 v1 v2 v3) s' (w.setCell ⟨b, k, none⟩ u) :=
  ⟨_, ⟨hok, v0, v1, v2, v3, h.num k u hs ht, rfl⟩, (Chg.refl _ w).setCell (.inl (by simp [RFoot])) u, fun _ hk => .inl hk⟩
theorem same_post {w : World} {b : Nat} {s : RS} {v0 v1 v2 v3 : Value} (h : RParts w b s v0 v1 v2 v3) (hok : s.Ok) : RPost w b (RFoot b v0 v1 v2 v3) s w :=
  ⟨_, ⟨hok, v0, v1, v2, v3, h, rfl⟩, Chg.refl _ w, fun _ hk => .inl hk⟩

set_option maxHeartbeats 400000 in
theorem begin_any (b : Nat) (t : Int) (s : RS) (fp : List Nat) (w : World) (hR : ReelAt w b s fp) :
    Calls Tryz.prog 84 #[.pointer (some ⟨b, 0, none⟩), .int .i64 t] w fun e w' => e = .returned (.int .i64 (s.begin_ t).2) ∧ RPost w b fp (s.begin_ t).1 w' := by
  obtain ⟨hok, v0, v1, v2, v3, hp, rfl⟩ := hR
  obtain ⟨-, -, c5, c6, -⟩ := hp.cells
  have f5 := hp.blk.frozen 5
  have f6 := hp.blk.frozen 6
  have l0 := hok.left0
  have l1 := hok.left1
  have HP := hd hp
  have HO := hd hok
  clear hp hok
  by_cases ht0 : t < 0
  · have e : s.begin_ t = (s, 2) := RS.begin_bad (.inl ht0)
    have E := hd e
    clear e
    go_enter Tryz.func84, Tryz.ntmps84
    go_wp2
    go_ret
    rw [E.out]
    exact ⟨rfl, same_post HP.out HO.out⟩
  by_cases ht1 : 2 ≤ t
  · have e : s.begin_ t = (s, 2) := RS.begin_bad (.inr ht1)
    have E := hd e
    clear e
    go_enter Tryz.func84, Tryz.ntmps84
    go_wp2
    go_ret
    rw [E.out]
    exact ⟨rfl, same_post HP.out HO.out⟩
  have e : s.begin_ t = s.start := if_neg (by omega)
  cases hdd : s.dead with
  | true =>
    have e2 : s.start = ({ s with dead := true }, 30) := if_pos (.inl hdd)
    rw [e2] at e
    have E := hd e
    rw [hdd] at c6
    clear e e2 hdd
    go_enter Tryz.func84, Tryz.ntmps84
    go_wp2
    go_ret
    rw [E.out]
    exact ⟨rfl, num_post HP.out 6 _ rfl ⟨rfl, rfl, rfl, rfl⟩ ⟨HO.out.room0, HO.out.room1, HO.out.used, HO.out.left0, HO.out.left1⟩⟩
  | false =>
    rw [hdd] at c6
    by_cases hl : s.left = 0
    · have e2 : s.start = ({ s with dead := true }, 30) := if_pos (.inr hl)
      rw [e2] at e
      have E := hd e
      have hl' : (s.left == 0) = true := by simp [hl]
      clear e e2 hdd hl
      go_enter Tryz.func84, Tryz.ntmps84
      go_wp2
      go_ret
      rw [E.out]
      exact ⟨rfl, num_post HP.out 6 _ rfl ⟨rfl, rfl, rfl, rfl⟩ ⟨HO.out.room0, HO.out.room1, HO.out.used, HO.out.left0, HO.out.left1⟩⟩
    · have hn : ¬ (s.dead = true ∨ s.left = 0) := by simp [hdd, hl]
      have hl' : (s.left == 0) = false := by simp [hl]
      by_cases hp : 0 < s.left
      · have e2 : s.start = ({ s with left := s.left - 1 }, 0) := by unfold RS.start; rw [if_neg hn, if_pos hp]
        rw [e2] at e
        have E := hd e
        clear e e2 hdd hl hn
        go_enter Tryz.func84, Tryz.ntmps84
        go_wp2
        go_ret
        rw [E.out]
        exact ⟨rfl, num_post HP.out 5 _ rfl ⟨rfl, rfl, rfl, rfl⟩ ⟨HO.out.room0, HO.out.room1, HO.out.used, by simp; omega, by simp; omega⟩⟩
      · have e2 : s.start = (s, 0) := by unfold RS.start; rw [if_neg hn, if_neg hp]
        rw [e2] at e
        have E := hd e
        clear e e2 hdd hl hn
        go_enter Tryz.func84, Tryz.ntmps84
        go_wp2
        go_ret
        rw [E.out]
        exact ⟨rfl, same_post HP.out HO.out⟩

end Go.Proofs.YtopajmbblemopaaGreatDoor
namespace Go.Proofs.YtopajmbblemopaaGreatDoor
set_option linter.unusedVariables false
set_option linter.unusedSimpArgs false
open Go.RowKit

/-- Some orders have been drawn, no more. -/
def Drawn (w w' : World) : Prop := ∃ n, w' = w.drewN n

set_option maxHeartbeats 400000 in
theorem tapelen_any (b off : Nat) (A0 A1 : Option Addr) (n0 n1 k0 k1 : Nat) (w : World)
    (h0 : w.cell? ⟨b, off, none⟩ = some (.slice A0 n0 k0)) (h1 : w.cell? ⟨b, off + 1, none⟩ = some (.slice A1 n1 k1)) (l0 : n0 ≤ 4194304) (l1 : n1 ≤ 4194304) :
    Calls Tryz.prog 88 #[.pointer (some ⟨b, off, none⟩)] w fun e w' => e = .returned (.int .i64 ((n0 : Int) + n1)) ∧ Drawn w w' := by
  go_enter Tryz.func88, Tryz.ntmps88
  go_wp2
  go_quiet (fail)
  go_wp2
  go_ret
  exact ⟨rfl, _, rfl⟩

theorem Row.small {w : World} {e : TypeId} {v : Value} {l : List UInt8} (h : Row w e v (u8s l)) : ∃ A c, v = .slice A l.length c := by
  obtain ⟨A, c, q⟩ := h.form
  exact ⟨A, c, by rw [q, u8s_length]⟩

set_option maxHeartbeats 800000 in
theorem free_any (b : Nat) (s : RS) (fp : List Nat) (w : World) (hR : ReelAt w b s fp) :
    Calls Tryz.prog 85 #[.pointer (some ⟨b, 0, none⟩)] w fun e w' => e = .returned (.int .i64 s.free) ∧ Drawn w w' := by
  obtain ⟨hok, v0, v1, v2, v3, hp, rfl⟩ := hR
  obtain ⟨⟨c0, c1, c2, c3⟩, c4, -, -, -⟩ := hp.cells
  obtain ⟨A0, k0, rfl⟩ := hp.row0.small
  obtain ⟨A1, k1, rfl⟩ := hp.row1.small
  obtain ⟨A2, k2, rfl⟩ := hp.row2.small
  obtain ⟨A3, k3, rfl⟩ := hp.row3.small
  obtain ⟨h1, h2, h3, h4, h5⟩ := hok
  have E : Hd (s.free = s.room - (s.s0.length + s.r0.length) - (s.s1.length + s.r1.length)) := ⟨rfl⟩
  have h6 : s.s0.length + s.r0.length + (s.s1.length + s.r1.length) ≤ 4194304 := by simp only [RS.used] at h3; omega
  rw [E.out]
  clear h3 h4 h5 hp E
  generalize s.s0.length = n0 at *
  generalize s.r0.length = n1 at *
  generalize s.s1.length = n2 at *
  generalize s.r1.length = n3 at *
  generalize s.room = m at *
  go_enter Tryz.func85, Tryz.ntmps85
  go_wp2
  refine wp_loop_rounds 3 ?_
  rw [rounds_succ]
  go_wp2_with (go_at_call 88; refine (tapelen_any b 0 A0 A1 n0 n1 k0 k1 _ (by go_simp) (by go_simp) (by omega) (by omega)).mono ?_; rintro e w' ⟨rfl, n, rfl⟩)
  rw [rounds_succ]
  go_wp2_with (go_at_call 88; refine (tapelen_any b 2 A2 A3 n2 n3 k2 k3 _ (by go_simp) (by go_simp) (by omega) (by omega)).mono ?_; rintro e w' ⟨rfl, n, rfl⟩)
  rw [rounds_succ]
  go_wp2
  go_ret
  exact ⟨rfl, _, rfl⟩
end Go.Proofs.YtopajmbblemopaaGreatDoor
namespace Go.Proofs.YtopajmbblemopaaGreatDoor
set_option linter.unusedVariables false
set_option linter.unusedSimpArgs false
open Go.RowKit

theorem Tryz.u8info : (Tryz.prog.info? 5).map (fun i => (i.zero, i.size, i.bytes)) = some (some (.int .u8 0), 1, 1) := by kernel_rfl

theorem RParts.drewN {w : World} {b : Nat} {s : RS} {v0 v1 v2 v3 : Value} (h : RParts w b s v0 v1 v2 v3) (n : Nat) : RParts (w.drewN n) b s v0 v1 v2 v3 :=
  ⟨h.blk, h.row0, h.row1, h.row2, h.row3, h.apart⟩



/-- Where a row's block is now: nowhere, where it was, or in a block that is new. -/
def At (size n : Nat) (v v' : Value) : Prop := v'.ownBlock = none ∨ v'.ownBlock = v.ownBlock ∨ (v'.ownBlock = some n ∧ size ≤ n)
theorem At.same (size n : Nat) (v : Value) : At size n v v := .inr (.inl rfl)
theorem At.nil (size n : Nat) (v : Value) : At size n v (.slice none 0 0) := .inl rfl
theorem At.of {size : Nat} {v v' : Value} (h : v'.ownBlock = v.ownBlock ∨ v'.ownBlock = some size) : At size size v v' := by
  rcases h with h | h
  · exact .inr (.inl h)
  · exact .inr (.inr ⟨h, Nat.le_refl _⟩)
theorem At.ne {size n m : Nat} {v v' x x' : Value} (h : At size n v v') (k : At size m x x') (hnm : n ≠ m) (hv : ∀ g, v.ownBlock = some g → g < size) (hx : ∀ g, x.ownBlock = some g → g < size) (hne : Ne2 v.ownBlock x.ownBlock) : Ne2 v'.ownBlock x'.ownBlock := by
  intro g hg hg'
  rcases h with h | h | ⟨h, hs⟩ <;> rw [h] at hg
  · cases hg
  · rcases k with k | k | ⟨k, ks⟩ <;> rw [k] at hg'
    · cases hg'
    · exact hne g hg hg'
    · injection hg' with hg'; have := hv g hg; omega
  · injection hg with hg
    rcases k with k | k | ⟨k, ks⟩ <;> rw [k] at hg'
    · cases hg'
    · have := hx g hg'; omega
    · injection hg' with hg'; omega
theorem At.ne_b {size n b : Nat} {v v' : Value} (h : At size n v v') (hb : b < size) (hv : v.ownBlock ≠ some b) : v'.ownBlock ≠ some b := by
  rcases h with h | h | ⟨h, hs⟩ <;> rw [h]
  · intro q; cases q
  · exact hv
  · intro q; injection q with q; omega
theorem At.mem {size n : Nat} {v v' : Value} (h : At size n v v') {k : Nat} (hk : v'.ownBlock = some k) : v.ownBlock = some k ∨ size ≤ k := by
  rcases h with h | h | ⟨h, hs⟩ <;> rw [h] at hk
  · cases hk
  · exact .inl hk
  · injection hk with hk; right; omega

theorem RFoot_mono {b size n0 n1 n2 n3 : Nat} {v0 v1 v2 v3 u0 u1 u2 u3 : Value} (a0 : At size n0 v0 u0) (a1 : At size n1 v1 u1) (a2 : At size n2 v2 u2) (a3 : At size n3 v3 u3) :
    ∀ k ∈ RFoot b u0 u1 u2 u3, k ∈ RFoot b v0 v1 v2 v3 ∨ size ≤ k := by
  intro k hk
  rcases mem_RFoot.1 hk with q | q | q | q | q
  · exact .inl (mem_RFoot.2 (by simp [q]))
  · exact (a0.mem q).imp (fun q => mem_RFoot.2 (by simp [q])) id
  · exact (a1.mem q).imp (fun q => mem_RFoot.2 (by simp [q])) id
  · exact (a2.mem q).imp (fun q => mem_RFoot.2 (by simp [q])) id
  · exact (a3.mem q).imp (fun q => mem_RFoot.2 (by simp [q])) id

/-- The reel in the middle of a call that began in w. -/
structure RUp (fp : List Nat) (w : World) (b : Nat) (s : RS) (w1 : World) (v0 v1 v2 v3 : Value) : Prop where
  parts : RParts w1 b s v0 v1 v2 v3
  chg : Chg (· ∈ fp) w w1
  foot : ∀ k ∈ RFoot b v0 v1 v2 v3, k ∈ fp ∨ w.heap.size ≤ k

theorem RUp.post {fp : List Nat} {w w1 : World} {b : Nat} {s : RS} {v0 v1 v2 v3 : Value} (h : RUp fp w b s w1 v0 v1 v2 v3) (hok : s.Ok) : RPost w b fp s w1 := ⟨_, ⟨hok, v0, v1, v2, v3, h.parts, rfl⟩, h.chg, h.foot⟩
theorem RPost.up {fp : List Nat} {w w1 : World} {b : Nat} {s : RS} (h : RPost w b fp s w1) : s.Ok ∧ ∃ v0 v1 v2 v3, RUp fp w b s w1 v0 v1 v2 v3 := by
  obtain ⟨fp1, ⟨ho, v0, v1, v2, v3, hp, rfl⟩, hc, hf⟩ := h
  exact ⟨ho, v0, v1, v2, v3, hp, hc, hf⟩
theorem ReelAt.up {fp : List Nat} {w : World} {b : Nat} {s : RS} (h : ReelAt w b s fp) : s.Ok ∧ ∃ v0 v1 v2 v3, RUp fp w b s w v0 v1 v2 v3 := by
  obtain ⟨ho, v0, v1, v2, v3, hp, rfl⟩ := h
  exact ⟨ho, v0, v1, v2, v3, hp, Chg.refl _ _, fun _ hk => .inl hk⟩
theorem RUp.at {fp : List Nat} {w w1 : World} {b : Nat} {s : RS} {v0 v1 v2 v3 : Value} (h : RUp fp w b s w1 v0 v1 v2 v3) (hok : s.Ok) : ReelAt w1 b s (RFoot b v0 v1 v2 v3) := ⟨hok, _, _, _, _, h.parts, rfl⟩
theorem RUp.drewN {fp : List Nat} {w w1 : World} {b : Nat} {s : RS} {v0 v1 v2 v3 : Value} (h : RUp fp w b s w1 v0 v1 v2 v3) (n : Nat) : RUp fp w b s (w1.drewN n) v0 v1 v2 v3 := ⟨h.parts.drewN n, h.chg.drewN n, h.foot⟩
theorem RUp.drew {fp : List Nat} {w w1 : World} {b : Nat} {s : RS} {v0 v1 v2 v3 : Value} (h : RUp fp w b s w1 v0 v1 v2 v3) : RUp fp w b s w1.drew v0 v1 v2 v3 := h.drewN 1
theorem RUp.mem {fp : List Nat} {w w1 : World} {b : Nat} {s : RS} {v0 v1 v2 v3 : Value} (h : RUp fp w b s w1 v0 v1 v2 v3) : b ∈ fp ∨ w.heap.size ≤ b := h.foot b (by simp [RFoot])
/-- Behind a call of another function that leaves the reel's blocks alone. -/
theorem RUp.tick {fp : List Nat} {w w1 : World} {b : Nat} {s : RS} {v0 v1 v2 v3 : Value} (h : RUp fp w b s w1 v0 v1 v2 v3) : RUp fp w b s.tick (w1.setCell ⟨b, 7, none⟩ (.int .i64 (wrap64 (s.ops + 1)))) v0 v1 v2 v3 :=
  ⟨h.parts.num (s' := s.tick) 7 _ rfl ⟨rfl, rfl, rfl, rfl⟩, h.chg.setCell h.mem _, h.foot⟩

theorem RPost.drewN {w w' : World} {b : Nat} {fp : List Nat} {s : RS} (h : RPost w b fp s w') (n : Nat) : RPost w b fp s (w'.drewN n) := by
  obtain ⟨ho, v0, v1, v2, v3, U⟩ := h.up
  exact (U.drewN n).post ho

/-- What has become of a reel: its cells, its rows, where they are. -/
theorem RUp.upd {fp : List Nat} {w0 w w' : World} {b : Nat} {s s' : RS} {v0 v1 v2 v3 u0 u1 u2 u3 : Value} (H : RUp fp w0 b s w v0 v1 v2 v3) (hblk : Blk w' b (RCells u0 u1 u2 u3 s') 77)
    (r0 : Row w' 5 u0 (u8s s'.s0)) (r1 : Row w' 5 u1 (u8s s'.r0)) (r2 : Row w' 5 u2 (u8s s'.s1)) (r3 : Row w' 5 u3 (u8s s'.r1)) (n0 n1 n2 n3 : Nat)
    (hn : n0 ≠ n1 ∧ n0 ≠ n2 ∧ n0 ≠ n3 ∧ n1 ≠ n2 ∧ n1 ≠ n3 ∧ n2 ≠ n3) (a0 : At w.heap.size n0 v0 u0) (a1 : At w.heap.size n1 v1 u1) (a2 : At w.heap.size n2 v2 u2) (a3 : At w.heap.size n3 v3 u3)
    (hc : Chg (· ∈ RFoot b v0 v1 v2 v3) w w') : RUp fp w0 b s' w' u0 u1 u2 u3 := by
  have h := H.parts
  have ha := h.apart
  have l0 := fun k => h.row0.lt (k := k)
  have l1 := fun k => h.row1.lt (k := k)
  have l2 := fun k => h.row2.lt (k := k)
  have l3 := fun k => h.row3.lt (k := k)
  obtain ⟨d01, d02, d03, d12, d13, d23⟩ := hn
  refine ⟨⟨hblk, r0, r1, r2, r3, ⟨a0.ne_b h.blk.lt ha.b0, a1.ne_b h.blk.lt ha.b1, a2.ne_b h.blk.lt ha.b2, a3.ne_b h.blk.lt ha.b3, a0.ne a1 d01 l0 l1 ha.a01, a0.ne a2 d02 l0 l2 ha.a02, a0.ne a3 d03 l0 l3 ha.a03, a1.ne a2 d12 l1 l2 ha.a12, a1.ne a3 d13 l1 l3 ha.a13, a2.ne a3 d23 l2 l3 ha.a23⟩⟩, H.chg.trans hc (fun i hi => H.foot i hi), ?_⟩
  intro k hk
  rcases RFoot_mono a0 a1 a2 a3 k hk with q | q
  · exact H.foot k q
  · exact .inr (Nat.le_trans H.chg.size q)

theorem Apart.ne {b : Nat} {v0 v1 v2 v3 : Value} (h : Apart b v0 v1 v2 v3) : Ne2 v1.ownBlock v0.ownBlock ∧ Ne2 v2.ownBlock v0.ownBlock ∧ Ne2 v3.ownBlock v0.ownBlock ∧ Ne2 v2.ownBlock v1.ownBlock ∧ Ne2 v3.ownBlock v1.ownBlock ∧ Ne2 v3.ownBlock v2.ownBlock :=
  ⟨fun k p q => h.a01 k q p, fun k p q => h.a02 k q p, fun k p q => h.a03 k q p, fun k p q => h.a12 k q p, fun k p q => h.a13 k q p, fun k p q => h.a23 k q p⟩

/-- Row 0 was appended to, in w1; its value is stored. -/
theorem RUp.put0 {fp : List Nat} {w0 w w1 : World} {b : Nat} {s : RS} {v0 v1 v2 v3 v' : Value} {l : List UInt8} (H : RUp fp w0 b s w v0 v1 v2 v3) (hg : w.grownBy w1 v0.ownBlock) (hr : Row w1 5 v' (u8s l))
    (hat : v'.ownBlock = v0.ownBlock ∨ v'.ownBlock = some w.heap.size) : RUp fp w0 b { s with s0 := l } (w1.setCell ⟨b, 0, none⟩ v') v' v1 v2 v3 := by
  have h := H.parts
  have ha := h.apart
  have hb := h.blk.lt
  obtain ⟨e10, e20, e30, e21, e31, e32⟩ := ha.ne
  have e01 := ha.a01
  have e02 := ha.a02
  have e03 := ha.a03
  have e12 := ha.a12
  have e13 := ha.a13
  have e23 := ha.a23
  have b0 := ha.b0
  have b1 := ha.b1
  have b2 := ha.b2
  have b3 := ha.b3
  have hb' := (At.of hat).ne_b hb ha.b0
  have hc : Chg (· ∈ RFoot b v0 v1 v2 v3) w (w1.setCell ⟨b, 0, none⟩ v') := ((Chg.refl _ w).grown hg (fun k q => .inl (mem_RFoot.2 (by simp [q])))).setCell (.inl (by simp [RFoot])) _
  refine H.upd ((h.blk.grown hg ha.b0).set 0 v') ?_ ?_ ?_ ?_ (w.heap.size) (w.heap.size + 1) (w.heap.size + 2) (w.heap.size + 3) (by omega) ?_ ?_ ?_ ?_ hc
  all_goals first
    | exact At.same _ _ _
    | exact At.of hat
    | exact hr.other hb' _
    | exact (h.row0.grown hg (by assumption)).other ha.b0 _
    | exact (h.row1.grown hg (by assumption)).other ha.b1 _
    | exact (h.row2.grown hg (by assumption)).other ha.b2 _
    | exact (h.row3.grown hg (by assumption)).other ha.b3 _
/-- Row 0 is cut at its front. -/
theorem RUp.cut0 {fp : List Nat} {w0 w : World} {b : Nat} {s : RS} {v0 v1 v2 v3 : Value} {l : List UInt8} (H : RUp fp w0 b s w v0 v1 v2 v3) (v' : Value) (hr : Row w 5 v' (u8s l))
    (hat : v'.ownBlock = none ∨ v'.ownBlock = v0.ownBlock) : RUp fp w0 b { s with s0 := l } (w.setCell ⟨b, 0, none⟩ v') v' v1 v2 v3 := by
  have h := H.parts
  have ha := h.apart
  have hA : At w.heap.size w.heap.size v0 v' := hat.imp id .inl
  have hb' := hA.ne_b h.blk.lt ha.b0
  have hc : Chg (· ∈ RFoot b v0 v1 v2 v3) w (w.setCell ⟨b, 0, none⟩ v') := (Chg.refl _ w).setCell (.inl (by simp [RFoot])) _
  refine H.upd (h.blk.set 0 v') ?_ ?_ ?_ ?_ (w.heap.size) (w.heap.size + 1) (w.heap.size + 2) (w.heap.size + 3) (by omega) ?_ ?_ ?_ ?_ hc
  all_goals first
    | exact At.same _ _ _
    | exact hA
    | exact hr.other hb' _
    | exact h.row0.other ha.b0 _
    | exact h.row1.other ha.b1 _
    | exact h.row2.other ha.b2 _
    | exact h.row3.other ha.b3 _
/-- Row 1 was appended to, in w1; its value is stored. -/
theorem RUp.put1 {fp : List Nat} {w0 w w1 : World} {b : Nat} {s : RS} {v0 v1 v2 v3 v' : Value} {l : List UInt8} (H : RUp fp w0 b s w v0 v1 v2 v3) (hg : w.grownBy w1 v1.ownBlock) (hr : Row w1 5 v' (u8s l))
    (hat : v'.ownBlock = v1.ownBlock ∨ v'.ownBlock = some w.heap.size) : RUp fp w0 b { s with r0 := l } (w1.setCell ⟨b, 1, none⟩ v') v0 v' v2 v3 := by
  have h := H.parts
  have ha := h.apart
  have hb := h.blk.lt
  obtain ⟨e10, e20, e30, e21, e31, e32⟩ := ha.ne
  have e01 := ha.a01
  have e02 := ha.a02
  have e03 := ha.a03
  have e12 := ha.a12
  have e13 := ha.a13
  have e23 := ha.a23
  have b0 := ha.b0
  have b1 := ha.b1
  have b2 := ha.b2
  have b3 := ha.b3
  have hb' := (At.of hat).ne_b hb ha.b1
  have hc : Chg (· ∈ RFoot b v0 v1 v2 v3) w (w1.setCell ⟨b, 1, none⟩ v') := ((Chg.refl _ w).grown hg (fun k q => .inl (mem_RFoot.2 (by simp [q])))).setCell (.inl (by simp [RFoot])) _
  refine H.upd ((h.blk.grown hg ha.b1).set 1 v') ?_ ?_ ?_ ?_ (w.heap.size + 1) (w.heap.size) (w.heap.size + 2) (w.heap.size + 3) (by omega) ?_ ?_ ?_ ?_ hc
  all_goals first
    | exact At.same _ _ _
    | exact At.of hat
    | exact hr.other hb' _
    | exact (h.row0.grown hg (by assumption)).other ha.b0 _
    | exact (h.row1.grown hg (by assumption)).other ha.b1 _
    | exact (h.row2.grown hg (by assumption)).other ha.b2 _
    | exact (h.row3.grown hg (by assumption)).other ha.b3 _
/-- Row 1 is cut at its front. -/
theorem RUp.cut1 {fp : List Nat} {w0 w : World} {b : Nat} {s : RS} {v0 v1 v2 v3 : Value} {l : List UInt8} (H : RUp fp w0 b s w v0 v1 v2 v3) (v' : Value) (hr : Row w 5 v' (u8s l))
    (hat : v'.ownBlock = none ∨ v'.ownBlock = v1.ownBlock) : RUp fp w0 b { s with r0 := l } (w.setCell ⟨b, 1, none⟩ v') v0 v' v2 v3 := by
  have h := H.parts
  have ha := h.apart
  have hA : At w.heap.size w.heap.size v1 v' := hat.imp id .inl
  have hb' := hA.ne_b h.blk.lt ha.b1
  have hc : Chg (· ∈ RFoot b v0 v1 v2 v3) w (w.setCell ⟨b, 1, none⟩ v') := (Chg.refl _ w).setCell (.inl (by simp [RFoot])) _
  refine H.upd (h.blk.set 1 v') ?_ ?_ ?_ ?_ (w.heap.size + 1) (w.heap.size) (w.heap.size + 2) (w.heap.size + 3) (by omega) ?_ ?_ ?_ ?_ hc
  all_goals first
    | exact At.same _ _ _
    | exact hA
    | exact hr.other hb' _
    | exact h.row0.other ha.b0 _
    | exact h.row1.other ha.b1 _
    | exact h.row2.other ha.b2 _
    | exact h.row3.other ha.b3 _
/-- Row 2 was appended to, in w1; its value is stored. -/
theorem RUp.put2 {fp : List Nat} {w0 w w1 : World} {b : Nat} {s : RS} {v0 v1 v2 v3 v' : Value} {l : List UInt8} (H : RUp fp w0 b s w v0 v1 v2 v3) (hg : w.grownBy w1 v2.ownBlock) (hr : Row w1 5 v' (u8s l))
    (hat : v'.ownBlock = v2.ownBlock ∨ v'.ownBlock = some w.heap.size) : RUp fp w0 b { s with s1 := l } (w1.setCell ⟨b, 2, none⟩ v') v0 v1 v' v3 := by
  have h := H.parts
  have ha := h.apart
  have hb := h.blk.lt
  obtain ⟨e10, e20, e30, e21, e31, e32⟩ := ha.ne
  have e01 := ha.a01
  have e02 := ha.a02
  have e03 := ha.a03
  have e12 := ha.a12
  have e13 := ha.a13
  have e23 := ha.a23
  have b0 := ha.b0
  have b1 := ha.b1
  have b2 := ha.b2
  have b3 := ha.b3
  have hb' := (At.of hat).ne_b hb ha.b2
  have hc : Chg (· ∈ RFoot b v0 v1 v2 v3) w (w1.setCell ⟨b, 2, none⟩ v') := ((Chg.refl _ w).grown hg (fun k q => .inl (mem_RFoot.2 (by simp [q])))).setCell (.inl (by simp [RFoot])) _
  refine H.upd ((h.blk.grown hg ha.b2).set 2 v') ?_ ?_ ?_ ?_ (w.heap.size + 1) (w.heap.size + 2) (w.heap.size) (w.heap.size + 3) (by omega) ?_ ?_ ?_ ?_ hc
  all_goals first
    | exact At.same _ _ _
    | exact At.of hat
    | exact hr.other hb' _
    | exact (h.row0.grown hg (by assumption)).other ha.b0 _
    | exact (h.row1.grown hg (by assumption)).other ha.b1 _
    | exact (h.row2.grown hg (by assumption)).other ha.b2 _
    | exact (h.row3.grown hg (by assumption)).other ha.b3 _
/-- Row 2 is cut at its front. -/
theorem RUp.cut2 {fp : List Nat} {w0 w : World} {b : Nat} {s : RS} {v0 v1 v2 v3 : Value} {l : List UInt8} (H : RUp fp w0 b s w v0 v1 v2 v3) (v' : Value) (hr : Row w 5 v' (u8s l))
    (hat : v'.ownBlock = none ∨ v'.ownBlock = v2.ownBlock) : RUp fp w0 b { s with s1 := l } (w.setCell ⟨b, 2, none⟩ v') v0 v1 v' v3 := by
  have h := H.parts
  have ha := h.apart
  have hA : At w.heap.size w.heap.size v2 v' := hat.imp id .inl
  have hb' := hA.ne_b h.blk.lt ha.b2
  have hc : Chg (· ∈ RFoot b v0 v1 v2 v3) w (w.setCell ⟨b, 2, none⟩ v') := (Chg.refl _ w).setCell (.inl (by simp [RFoot])) _
  refine H.upd (h.blk.set 2 v') ?_ ?_ ?_ ?_ (w.heap.size + 1) (w.heap.size + 2) (w.heap.size) (w.heap.size + 3) (by omega) ?_ ?_ ?_ ?_ hc
  all_goals first
    | exact At.same _ _ _
    | exact hA
    | exact hr.other hb' _
    | exact h.row0.other ha.b0 _
    | exact h.row1.other ha.b1 _
    | exact h.row2.other ha.b2 _
    | exact h.row3.other ha.b3 _
/-- Row 3 was appended to, in w1; its value is stored. -/
theorem RUp.put3 {fp : List Nat} {w0 w w1 : World} {b : Nat} {s : RS} {v0 v1 v2 v3 v' : Value} {l : List UInt8} (H : RUp fp w0 b s w v0 v1 v2 v3) (hg : w.grownBy w1 v3.ownBlock) (hr : Row w1 5 v' (u8s l))
    (hat : v'.ownBlock = v3.ownBlock ∨ v'.ownBlock = some w.heap.size) : RUp fp w0 b { s with r1 := l } (w1.setCell ⟨b, 3, none⟩ v') v0 v1 v2 v' := by
  have h := H.parts
  have ha := h.apart
  have hb := h.blk.lt
  obtain ⟨e10, e20, e30, e21, e31, e32⟩ := ha.ne
  have e01 := ha.a01
  have e02 := ha.a02
  have e03 := ha.a03
  have e12 := ha.a12
  have e13 := ha.a13
  have e23 := ha.a23
  have b0 := ha.b0
  have b1 := ha.b1
  have b2 := ha.b2
  have b3 := ha.b3
  have hb' := (At.of hat).ne_b hb ha.b3
  have hc : Chg (· ∈ RFoot b v0 v1 v2 v3) w (w1.setCell ⟨b, 3, none⟩ v') := ((Chg.refl _ w).grown hg (fun k q => .inl (mem_RFoot.2 (by simp [q])))).setCell (.inl (by simp [RFoot])) _
  refine H.upd ((h.blk.grown hg ha.b3).set 3 v') ?_ ?_ ?_ ?_ (w.heap.size + 1) (w.heap.size + 2) (w.heap.size + 3) (w.heap.size) (by omega) ?_ ?_ ?_ ?_ hc
  all_goals first
    | exact At.same _ _ _
    | exact At.of hat
    | exact hr.other hb' _
    | exact (h.row0.grown hg (by assumption)).other ha.b0 _
    | exact (h.row1.grown hg (by assumption)).other ha.b1 _
    | exact (h.row2.grown hg (by assumption)).other ha.b2 _
    | exact (h.row3.grown hg (by assumption)).other ha.b3 _
/-- Row 3 is cut at its front. -/
theorem RUp.cut3 {fp : List Nat} {w0 w : World} {b : Nat} {s : RS} {v0 v1 v2 v3 : Value} {l : List UInt8} (H : RUp fp w0 b s w v0 v1 v2 v3) (v' : Value) (hr : Row w 5 v' (u8s l))
    (hat : v'.ownBlock = none ∨ v'.ownBlock = v3.ownBlock) : RUp fp w0 b { s with r1 := l } (w.setCell ⟨b, 3, none⟩ v') v0 v1 v2 v' := by
  have h := H.parts
  have ha := h.apart
  have hA : At w.heap.size w.heap.size v3 v' := hat.imp id .inl
  have hb' := hA.ne_b h.blk.lt ha.b3
  have hc : Chg (· ∈ RFoot b v0 v1 v2 v3) w (w.setCell ⟨b, 3, none⟩ v') := (Chg.refl _ w).setCell (.inl (by simp [RFoot])) _
  refine H.upd (h.blk.set 3 v') ?_ ?_ ?_ ?_ (w.heap.size + 1) (w.heap.size + 2) (w.heap.size + 3) (w.heap.size) (by omega) ?_ ?_ ?_ ?_ hc
  all_goals first
    | exact At.same _ _ _
    | exact hA
    | exact hr.other hb' _
    | exact h.row0.other ha.b0 _
    | exact h.row1.other ha.b1 _
    | exact h.row2.other ha.b2 _
    | exact h.row3.other ha.b3 _

theorem own_slice (A : Option Addr) (n m c d : Nat) : (Value.slice A n c).ownBlock = (Value.slice A m d).ownBlock := by cases A <;> rfl
theorem RUp.take0 {fp : List Nat} {w0 w : World} {b n c m : Nat} {A : Option Addr} {s : RS} {v0 v1 v2 v3 : Value} (H : RUp fp w0 b s w v0 v1 v2 v3) (hv : v0 = .slice A n c) (hm : m ≤ s.s0.length) :
    RUp fp w0 b { s with s0 := s.s0.take m } (w.setCell ⟨b, 0, none⟩ (.slice A m c)) (.slice A m c) (v1) (v2) (v3) := by
  subst hv
  refine H.cut0 (l := s.s0.take m) _ ?_ (.inr (own_slice _ _ _ _ _))
  rw [← u8s_take]
  exact H.parts.row0.take (by rw [u8s_length]; exact hm)
theorem RUp.take1 {fp : List Nat} {w0 w : World} {b n c m : Nat} {A : Option Addr} {s : RS} {v0 v1 v2 v3 : Value} (H : RUp fp w0 b s w v0 v1 v2 v3) (hv : v1 = .slice A n c) (hm : m ≤ s.r0.length) :
    RUp fp w0 b { s with r0 := s.r0.take m } (w.setCell ⟨b, 1, none⟩ (.slice A m c)) (v0) (.slice A m c) (v2) (v3) := by
  subst hv
  refine H.cut1 (l := s.r0.take m) _ ?_ (.inr (own_slice _ _ _ _ _))
  rw [← u8s_take]
  exact H.parts.row1.take (by rw [u8s_length]; exact hm)
theorem RUp.take2 {fp : List Nat} {w0 w : World} {b n c m : Nat} {A : Option Addr} {s : RS} {v0 v1 v2 v3 : Value} (H : RUp fp w0 b s w v0 v1 v2 v3) (hv : v2 = .slice A n c) (hm : m ≤ s.s1.length) :
    RUp fp w0 b { s with s1 := s.s1.take m } (w.setCell ⟨b, 2, none⟩ (.slice A m c)) (v0) (v1) (.slice A m c) (v3) := by
  subst hv
  refine H.cut2 (l := s.s1.take m) _ ?_ (.inr (own_slice _ _ _ _ _))
  rw [← u8s_take]
  exact H.parts.row2.take (by rw [u8s_length]; exact hm)
theorem RUp.take3 {fp : List Nat} {w0 w : World} {b n c m : Nat} {A : Option Addr} {s : RS} {v0 v1 v2 v3 : Value} (H : RUp fp w0 b s w v0 v1 v2 v3) (hv : v3 = .slice A n c) (hm : m ≤ s.r1.length) :
    RUp fp w0 b { s with r1 := s.r1.take m } (w.setCell ⟨b, 3, none⟩ (.slice A m c)) (v0) (v1) (v2) (.slice A m c) := by
  subst hv
  refine H.cut3 (l := s.r1.take m) _ ?_ (.inr (own_slice _ _ _ _ _))
  rw [← u8s_take]
  exact H.parts.row3.take (by rw [u8s_length]; exact hm)
end Go.Proofs.YtopajmbblemopaaGreatDoor
namespace Go.Proofs.YtopajmbblemopaaGreatDoor
set_option linter.unusedVariables false
set_option linter.unusedSimpArgs false
open Go.RowKit

theorem RS.Ok.small {s : RS} (h : s.Ok) : s.s0.length ≤ 4194304 ∧ s.r0.length ≤ 4194304 ∧ s.s1.length ≤ 4194304 ∧ s.r1.length ≤ 4194304 := by
  obtain ⟨h1, h2, h3, h4, h5⟩ := h
  simp only [RS.used] at h3
  omega
theorem Row.small2 {w : World} {e : TypeId} {v : Value} {l : List UInt8} (h : Row w e v (u8s l)) : ∃ A c, v = .slice A l.length c ∧ l.length ≤ c := by
  rcases h.nil_or with ⟨rfl, h0⟩ | ⟨g, cap, rfl, hc, -⟩
  · obtain rfl : l = [] := by simpa [u8s] using h0
    exact ⟨none, 0, rfl, by simp⟩
  · exact ⟨_, cap, by rw [u8s_length], by rw [u8s_length] at hc; exact hc⟩
theorem RS.Ok.fits {s : RS} (h : s.Ok) {t : Int} {q : List UInt8} (hq : (q.length : Int) ≤ s.free) : (s.put t (s.safe t) (s.rest t ++ q)).Ok := by
  refine h.put t _ _ ?_
  simp only [List.length_append, RS.safe, RS.rest, RS.free] at *
  omega

set_option maxHeartbeats 800000 in
theorem write0 (b : Nat) (s : RS) (fp : List Nat) (w : World) (q : ByteArray) (hR : ReelAt w b s fp) (hq : (q.size : Int) ≤ 4194304) :
    Calls Tryz.prog 59 #[.pointer (some ⟨b, 0, none⟩), .int .i64 0, .string q] w fun e w' => e = .returned (.int .i64 (s.write 0 q.data.toList).2) ∧ RPost w b fp (s.write 0 q.data.toList).1 w' := by
  have hB := hd (begin_any b 0 s fp w hR)
  have hw : s.write 0 q.data.toList = if (s.begin_ 0).2 ≠ 0 then s.begin_ 0 else (s.begin_ 0).1.write1 0 q.data.toList := rfl
  generalize hs1 : s.begin_ 0 = s1e at *
  obtain ⟨s1, e1⟩ := s1e
  clear hs1 hR
  by_cases he : e1 = 0
  · subst he
    rw [if_neg (by simp)] at hw
    dsimp only at hB hw
    unfold RS.write1 at hw
    by_cases hf : s1.free < q.data.toList.length
    · rw [if_pos hf] at hw
      have HW := hd hw
      have hf' : s1.free < (q.size : Int) := by simpa using hf
      clear hw hf
      go_enter Tryz.func59, Tryz.ntmps59
      go_wp2_with (go_at_call 84; refine hB.out.mono ?_; rintro e w1 ⟨rfl, hp⟩)
      have HP := hd hp
      obtain ⟨fp1, hR1, hC1, hF1⟩ := hp
      go_wp2_with (go_at_call 85; refine (free_any b s1 fp1 _ hR1).mono ?_; rintro e w2 ⟨rfl, n, rfl⟩)
      go_ret
      rw [HW.out]
      exact ⟨rfl, HP.out.drewN n⟩
    · rw [if_neg hf] at hw
      have HW := hd hw
      have hf' : ¬ s1.free < (q.size : Int) := by simpa using hf
      clear hw hf
      go_enter Tryz.func59, Tryz.ntmps59
      go_wp2_with (go_at_call 84; refine hB.out.mono ?_; rintro e w1 ⟨rfl, hp⟩)
      obtain ⟨ho, v0, v1, v2, v3, U⟩ := hp.up
      obtain ⟨-, c4, c5, c6, c7⟩ := U.parts.cells
      have f7 := U.parts.blk.frozen 7
      obtain ⟨A, k, rfl⟩ := U.parts.row1.small
      have HFR := hd (show (q.data.toList.length : Int) ≤ s1.free by simpa using hf')
      have HU := hd U
      have HO := hd ho
      clear hp U ho
      go_wp2_with (go_at_call 85; refine (free_any b s1 _ _ (HU.out.at HO.out)).mono ?_; rintro e w2 ⟨rfl, n, rfl⟩)
      have HV := hd (HU.out.drewN n).tick
      clear c4 c5 c6 c7 f7 hf' HU
      generalize (w1.drewN n).setCell ⟨b, 7, none⟩ (.int .i64 (wrap64 (s1.ops + 1))) = W at *
      have c : W.cell? ⟨b, 1, none⟩ = some (.slice A s1.r0.length k) := HV.out.parts.blk.cell 1
      have f := HV.out.parts.blk.frozen 1
      go_region_law (refine step_append_str rfl (.tmp 34) (.tmp 35) 72 9 5 rfl Tryz.underlying72 Tryz.underlying9 Tryz.u8info (.slice A s1.r0.length k) (u8s s1.r0) q rfl rfl HV.out.parts.row1.drew (by have := HO.out.small; simp only [u8s_length]; omega) ?_; intro v' w' hrow hg hat; obtain ⟨A', k', rfl⟩ := hrow.form; have c' : w'.cell? ⟨b, 1, none⟩ = some (.slice A s1.r0.length k) := (HV.out.parts.blk.drew.grown hg HV.out.parts.apart.b1).cell 1; have f' := (HV.out.parts.blk.drew.grown hg HV.out.parts.apart.b1).frozen 1; have HH := hd (And.intro hrow (And.intro hg hat)); clear hrow hg hat)
      clear c f c' f'
      rw [← u8s_append] at HH
      simp only [← u8s_append, ← List.length_append]
      have HX := hd (HV.out.drew.put1 HH.out.2.1 HH.out.1 HH.out.2.2)
      go_wp2
      go_ret
      rw [HW.out]
      exact ⟨rfl, HX.out.post (HO.out.tick.fits (t := 0) HFR.out)⟩
  · rw [if_pos he] at hw
    have HW := hd hw
    have he' : (e1 != 0) = true := by simpa using he
    clear hw he
    go_enter Tryz.func59, Tryz.ntmps59
    go_wp2_with (go_at_call 84; refine hB.out.mono ?_; rintro e w1 ⟨rfl, hp⟩)
    go_ret
    rw [HW.out]
    exact ⟨rfl, hp⟩
set_option maxHeartbeats 800000 in
theorem write1 (b : Nat) (s : RS) (fp : List Nat) (w : World) (q : ByteArray) (hR : ReelAt w b s fp) (hq : (q.size : Int) ≤ 4194304) :
    Calls Tryz.prog 59 #[.pointer (some ⟨b, 0, none⟩), .int .i64 1, .string q] w fun e w' => e = .returned (.int .i64 (s.write 1 q.data.toList).2) ∧ RPost w b fp (s.write 1 q.data.toList).1 w' := by
  have hB := hd (begin_any b 1 s fp w hR)
  have hw : s.write 1 q.data.toList = if (s.begin_ 1).2 ≠ 0 then s.begin_ 1 else (s.begin_ 1).1.write1 1 q.data.toList := rfl
  generalize hs1 : s.begin_ 1 = s1e at *
  obtain ⟨s1, e1⟩ := s1e
  clear hs1 hR
  by_cases he : e1 = 0
  · subst he
    rw [if_neg (by simp)] at hw
    dsimp only at hB hw
    unfold RS.write1 at hw
    by_cases hf : s1.free < q.data.toList.length
    · rw [if_pos hf] at hw
      have HW := hd hw
      have hf' : s1.free < (q.size : Int) := by simpa using hf
      clear hw hf
      go_enter Tryz.func59, Tryz.ntmps59
      go_wp2_with (go_at_call 84; refine hB.out.mono ?_; rintro e w1 ⟨rfl, hp⟩)
      have HP := hd hp
      obtain ⟨fp1, hR1, hC1, hF1⟩ := hp
      go_wp2_with (go_at_call 85; refine (free_any b s1 fp1 _ hR1).mono ?_; rintro e w2 ⟨rfl, n, rfl⟩)
      go_ret
      rw [HW.out]
      exact ⟨rfl, HP.out.drewN n⟩
    · rw [if_neg hf] at hw
      have HW := hd hw
      have hf' : ¬ s1.free < (q.size : Int) := by simpa using hf
      clear hw hf
      go_enter Tryz.func59, Tryz.ntmps59
      go_wp2_with (go_at_call 84; refine hB.out.mono ?_; rintro e w1 ⟨rfl, hp⟩)
      obtain ⟨ho, v0, v1, v2, v3, U⟩ := hp.up
      obtain ⟨-, c4, c5, c6, c7⟩ := U.parts.cells
      have f7 := U.parts.blk.frozen 7
      obtain ⟨A, k, rfl⟩ := U.parts.row3.small
      have HFR := hd (show (q.data.toList.length : Int) ≤ s1.free by simpa using hf')
      have HU := hd U
      have HO := hd ho
      clear hp U ho
      go_wp2_with (go_at_call 85; refine (free_any b s1 _ _ (HU.out.at HO.out)).mono ?_; rintro e w2 ⟨rfl, n, rfl⟩)
      have HV := hd (HU.out.drewN n).tick
      clear c4 c5 c6 c7 f7 hf' HU
      generalize (w1.drewN n).setCell ⟨b, 7, none⟩ (.int .i64 (wrap64 (s1.ops + 1))) = W at *
      have c : W.cell? ⟨b, 3, none⟩ = some (.slice A s1.r1.length k) := HV.out.parts.blk.cell 3
      have f := HV.out.parts.blk.frozen 3
      go_region_law (refine step_append_str rfl (.tmp 34) (.tmp 35) 72 9 5 rfl Tryz.underlying72 Tryz.underlying9 Tryz.u8info (.slice A s1.r1.length k) (u8s s1.r1) q rfl rfl HV.out.parts.row3.drew (by have := HO.out.small; simp only [u8s_length]; omega) ?_; intro v' w' hrow hg hat; obtain ⟨A', k', rfl⟩ := hrow.form; have c' : w'.cell? ⟨b, 3, none⟩ = some (.slice A s1.r1.length k) := (HV.out.parts.blk.drew.grown hg HV.out.parts.apart.b3).cell 3; have f' := (HV.out.parts.blk.drew.grown hg HV.out.parts.apart.b3).frozen 3; have HH := hd (And.intro hrow (And.intro hg hat)); clear hrow hg hat)
      clear c f c' f'
      rw [← u8s_append] at HH
      simp only [← u8s_append, ← List.length_append]
      have HX := hd (HV.out.drew.put3 HH.out.2.1 HH.out.1 HH.out.2.2)
      go_wp2
      go_ret
      rw [HW.out]
      exact ⟨rfl, HX.out.post (HO.out.tick.fits (t := 1) HFR.out)⟩
  · rw [if_pos he] at hw
    have HW := hd hw
    have he' : (e1 != 0) = true := by simpa using he
    clear hw he
    go_enter Tryz.func59, Tryz.ntmps59
    go_wp2_with (go_at_call 84; refine hB.out.mono ?_; rintro e w1 ⟨rfl, hp⟩)
    go_ret
    rw [HW.out]
    exact ⟨rfl, hp⟩

set_option maxHeartbeats 800000 in
theorem write_any (b : Nat) (t : Int) (s : RS) (fp : List Nat) (w : World) (q : ByteArray) (hR : ReelAt w b s fp) (hq : (q.size : Int) ≤ 4194304) :
    Calls Tryz.prog 59 #[.pointer (some ⟨b, 0, none⟩), .int .i64 t, .string q] w fun e w' => e = .returned (.int .i64 (s.write t q.data.toList).2) ∧ RPost w b fp (s.write t q.data.toList).1 w' := by
  by_cases he : (s.begin_ t).2 = 0
  · rcases RS.begin_in he with rfl | rfl
    · exact write0 b s fp w q hR hq
    · exact write1 b s fp w q hR hq
  · have hB := hd (begin_any b t s fp w hR)
    have hw : s.write t q.data.toList = s.begin_ t := if_pos he
    rw [hw]
    generalize s.begin_ t = s1e at *
    obtain ⟨s1, e1⟩ := s1e
    have he' : (e1 != 0) = true := by simpa using he
    clear he hw hR
    go_enter Tryz.func59, Tryz.ntmps59
    go_wp2_with (go_at_call 84; refine hB.out.mono ?_; rintro e w1 ⟨rfl, hp⟩)
    go_ret
    exact ⟨rfl, hp⟩
end Go.Proofs.YtopajmbblemopaaGreatDoor
namespace Go.Proofs.YtopajmbblemopaaGreatDoor
set_option linter.unusedVariables false
set_option linter.unusedSimpArgs false
open Go.RowKit

theorem RS.Ok.joins {s : RS} (h : s.Ok) (t : Int) : (s.put t (s.safe t ++ s.rest t) []).Ok := by
  have := h.free
  refine h.put t _ _ ?_
  simp only [List.length_append, List.length_nil]
  omega
theorem RS.Ok.clears {s : RS} (h : s.Ok) (t : Int) : (s.put t [] []).Ok := by
  have := h.free
  refine h.put t _ _ ?_
  simp only [List.length_nil]
  omega

set_option maxHeartbeats 800000 in
theorem sync0 (b : Nat) (s s1 : RS) (fp : List Nat) (w : World) (hR : ReelAt w b s fp) (he : s.begin_ 0 = (s1, 0)) :
    Calls Tryz.prog 62 #[.pointer (some ⟨b, 0, none⟩), .int .i64 0] w fun e w' => e = .returned (.int .i64 0) ∧ RPost w b fp (s1.tick.put 0 (s1.safe 0 ++ s1.rest 0) []) w' := by
  have hB := begin_any b 0 s fp w hR
  rw [he] at hB
  have HB := hd hB
  clear hB hR he
  go_enter Tryz.func62, Tryz.ntmps62
  go_wp2_with (go_at_call 84; refine HB.out.mono ?_; rintro e w1 ⟨rfl, hp⟩; obtain ⟨ho, v0, v1, v2, v3, U⟩ := hp.up; obtain ⟨-, c4, c5, c6, c7⟩ := U.parts.cells; have f7 := U.parts.blk.frozen 7; obtain ⟨A, k, rfl⟩ := U.parts.row0.small; obtain ⟨B, l, rfl⟩ := U.parts.row1.small; have HU := hd U; have HO := hd ho; clear hp U ho)
  have HV := hd HU.out.tick
  clear c4 c5 c6 c7 f7 HU
  generalize w1.setCell ⟨b, 7, none⟩ (.int .i64 (wrap64 (s1.ops + 1))) = W at *
  have c : W.cell? ⟨b, 0, none⟩ = some (.slice A s1.s0.length k) := HV.out.parts.blk.cell 0
  have d : W.cell? ⟨b, 1, none⟩ = some (.slice B s1.r0.length l) := HV.out.parts.blk.cell 1
  go_region_law (refine step_append_row rfl (.tmp 30) (.tmp 34) 72 5 (.int .u8 0) 1 rfl Tryz.underlying72 Tryz.u8info rfl (.slice A s1.s0.length k) (.slice B s1.r0.length l) (u8s s1.s0) (u8s s1.r0) rfl rfl HV.out.parts.row0.drew HV.out.parts.row1.drew (u8s_oneCell _) (by have := HO.out.small; simp only [u8s_length]; omega) (by have := HO.out.small; simp only [u8s_length]; omega) ?_; intro v' w' hrow hg hat; obtain ⟨A', k', rfl⟩ := hrow.form; have c' : w'.cell? ⟨b, 0, none⟩ = some (.slice A s1.s0.length k) := (HV.out.parts.blk.drew.grown hg HV.out.parts.apart.b0).cell 0; have f' := (HV.out.parts.blk.drew.grown hg HV.out.parts.apart.b0).frozen 0; have d' : w'.cell? ⟨b, 1, none⟩ = some (.slice B s1.r0.length l) := (HV.out.parts.blk.drew.grown hg HV.out.parts.apart.b0).cell 1; have g' := (HV.out.parts.blk.drew.grown hg HV.out.parts.apart.b0).frozen 1; have HH := hd (And.intro hrow (And.intro hg hat)); clear hrow hg hat)
  all_goals
    clear c d c' f' d' g'
    rw [← u8s_append] at HH
    simp only [← u8s_append, ← List.length_append]
    have HX := hd ((HV.out.drew.put0 HH.out.2.1 HH.out.1 HH.out.2.2).cut1 (l := []) (.slice none 0 0) (Row.nil _ _) (.inl rfl))
    try rw [setCell_swap _ ⟨b, 1, none⟩ ⟨b, 0, none⟩ _ _ (.inr ⟨rfl, rfl, by decide⟩)]
    go_wp2
    go_ret
    exact ⟨rfl, HX.out.post (HO.out.tick.joins 0)⟩

set_option maxHeartbeats 800000 in
theorem wipe0 (b : Nat) (s s1 : RS) (fp : List Nat) (w : World) (hR : ReelAt w b s fp) (he : s.begin_ 0 = (s1, 0)) :
    Calls Tryz.prog 56 #[.pointer (some ⟨b, 0, none⟩), .int .i64 0] w fun e w' => e = .returned (.int .i64 0) ∧ RPost w b fp (s1.tick.put 0 [] []) w' := by
  have hB := begin_any b 0 s fp w hR
  rw [he] at hB
  have HB := hd hB
  clear hB hR he
  go_enter Tryz.func56, Tryz.ntmps56
  go_wp2_with (go_at_call 84; refine HB.out.mono ?_; rintro e w1 ⟨rfl, hp⟩; obtain ⟨ho, v0, v1, v2, v3, U⟩ := hp.up; obtain ⟨⟨c0, c1, c2, c3⟩, c4, c5, c6, c7⟩ := U.parts.cells; have f7 := U.parts.blk.frozen 7; have fi := U.parts.blk.frozen 0; have fk := U.parts.blk.frozen 1; have HU := hd U; have HO := hd ho; clear hp U ho)
  have HX := hd ((HU.out.tick.cut0 (l := []) (.slice none 0 0) (Row.nil _ _) (.inl rfl)).cut1 (l := []) (.slice none 0 0) (Row.nil _ _) (.inl rfl))
  go_ret
  exact ⟨rfl, HX.out.post (HO.out.tick.clears 0)⟩
set_option maxHeartbeats 800000 in
theorem sync1 (b : Nat) (s s1 : RS) (fp : List Nat) (w : World) (hR : ReelAt w b s fp) (he : s.begin_ 1 = (s1, 0)) :
    Calls Tryz.prog 62 #[.pointer (some ⟨b, 0, none⟩), .int .i64 1] w fun e w' => e = .returned (.int .i64 0) ∧ RPost w b fp (s1.tick.put 1 (s1.safe 1 ++ s1.rest 1) []) w' := by
  have hB := begin_any b 1 s fp w hR
  rw [he] at hB
  have HB := hd hB
  clear hB hR he
  go_enter Tryz.func62, Tryz.ntmps62
  go_wp2_with (go_at_call 84; refine HB.out.mono ?_; rintro e w1 ⟨rfl, hp⟩; obtain ⟨ho, v0, v1, v2, v3, U⟩ := hp.up; obtain ⟨-, c4, c5, c6, c7⟩ := U.parts.cells; have f7 := U.parts.blk.frozen 7; obtain ⟨A, k, rfl⟩ := U.parts.row2.small; obtain ⟨B, l, rfl⟩ := U.parts.row3.small; have HU := hd U; have HO := hd ho; clear hp U ho)
  have HV := hd HU.out.tick
  clear c4 c5 c6 c7 f7 HU
  generalize w1.setCell ⟨b, 7, none⟩ (.int .i64 (wrap64 (s1.ops + 1))) = W at *
  have c : W.cell? ⟨b, 2, none⟩ = some (.slice A s1.s1.length k) := HV.out.parts.blk.cell 2
  have d : W.cell? ⟨b, 3, none⟩ = some (.slice B s1.r1.length l) := HV.out.parts.blk.cell 3
  go_region_law (refine step_append_row rfl (.tmp 30) (.tmp 34) 72 5 (.int .u8 0) 1 rfl Tryz.underlying72 Tryz.u8info rfl (.slice A s1.s1.length k) (.slice B s1.r1.length l) (u8s s1.s1) (u8s s1.r1) rfl rfl HV.out.parts.row2.drew HV.out.parts.row3.drew (u8s_oneCell _) (by have := HO.out.small; simp only [u8s_length]; omega) (by have := HO.out.small; simp only [u8s_length]; omega) ?_; intro v' w' hrow hg hat; obtain ⟨A', k', rfl⟩ := hrow.form; have c' : w'.cell? ⟨b, 2, none⟩ = some (.slice A s1.s1.length k) := (HV.out.parts.blk.drew.grown hg HV.out.parts.apart.b2).cell 2; have f' := (HV.out.parts.blk.drew.grown hg HV.out.parts.apart.b2).frozen 2; have d' : w'.cell? ⟨b, 3, none⟩ = some (.slice B s1.r1.length l) := (HV.out.parts.blk.drew.grown hg HV.out.parts.apart.b2).cell 3; have g' := (HV.out.parts.blk.drew.grown hg HV.out.parts.apart.b2).frozen 3; have HH := hd (And.intro hrow (And.intro hg hat)); clear hrow hg hat)
  all_goals
    clear c d c' f' d' g'
    rw [← u8s_append] at HH
    simp only [← u8s_append, ← List.length_append]
    have HX := hd ((HV.out.drew.put2 HH.out.2.1 HH.out.1 HH.out.2.2).cut3 (l := []) (.slice none 0 0) (Row.nil _ _) (.inl rfl))
    try rw [setCell_swap _ ⟨b, 3, none⟩ ⟨b, 2, none⟩ _ _ (.inr ⟨rfl, rfl, by decide⟩)]
    go_wp2
    go_ret
    exact ⟨rfl, HX.out.post (HO.out.tick.joins 1)⟩

set_option maxHeartbeats 800000 in
theorem wipe1 (b : Nat) (s s1 : RS) (fp : List Nat) (w : World) (hR : ReelAt w b s fp) (he : s.begin_ 1 = (s1, 0)) :
    Calls Tryz.prog 56 #[.pointer (some ⟨b, 0, none⟩), .int .i64 1] w fun e w' => e = .returned (.int .i64 0) ∧ RPost w b fp (s1.tick.put 1 [] []) w' := by
  have hB := begin_any b 1 s fp w hR
  rw [he] at hB
  have HB := hd hB
  clear hB hR he
  go_enter Tryz.func56, Tryz.ntmps56
  go_wp2_with (go_at_call 84; refine HB.out.mono ?_; rintro e w1 ⟨rfl, hp⟩; obtain ⟨ho, v0, v1, v2, v3, U⟩ := hp.up; obtain ⟨⟨c0, c1, c2, c3⟩, c4, c5, c6, c7⟩ := U.parts.cells; have f7 := U.parts.blk.frozen 7; have fi := U.parts.blk.frozen 2; have fk := U.parts.blk.frozen 3; have HU := hd U; have HO := hd ho; clear hp U ho)
  have HX := hd ((HU.out.tick.cut2 (l := []) (.slice none 0 0) (Row.nil _ _) (.inl rfl)).cut3 (l := []) (.slice none 0 0) (Row.nil _ _) (.inl rfl))
  go_ret
  exact ⟨rfl, HX.out.post (HO.out.tick.clears 1)⟩

theorem sync_any (b : Nat) (t : Int) (s : RS) (fp : List Nat) (w : World) (hR : ReelAt w b s fp) :
    Calls Tryz.prog 62 #[.pointer (some ⟨b, 0, none⟩), .int .i64 t] w fun e w' => e = .returned (.int .i64 (s.sync t).2) ∧ RPost w b fp (s.sync t).1 w' := by
  by_cases he : (s.begin_ t).2 = 0
  · have hw : s.sync t = (s.begin_ t).1.sync1 t := if_neg (by simp [he])
    rw [hw]
    have e2 : s.begin_ t = ((s.begin_ t).1, 0) := by rw [← he]
    rcases RS.begin_in he with rfl | rfl
    · exact sync0 b s _ fp w hR e2
    · exact sync1 b s _ fp w hR e2
  · have hB := hd (begin_any b t s fp w hR)
    have hw : s.sync t = s.begin_ t := if_pos he
    rw [hw]
    generalize s.begin_ t = s1e at *
    obtain ⟨s1, e1⟩ := s1e
    have he' : (e1 != 0) = true := by simpa using he
    clear he hw hR
    go_enter Tryz.func62, Tryz.ntmps62
    go_wp2_with (go_at_call 84; refine hB.out.mono ?_; rintro e w1 ⟨rfl, hp⟩)
    go_ret
    exact ⟨rfl, hp⟩
theorem wipe_any (b : Nat) (t : Int) (s : RS) (fp : List Nat) (w : World) (hR : ReelAt w b s fp) :
    Calls Tryz.prog 56 #[.pointer (some ⟨b, 0, none⟩), .int .i64 t] w fun e w' => e = .returned (.int .i64 (s.wipe t).2) ∧ RPost w b fp (s.wipe t).1 w' := by
  by_cases he : (s.begin_ t).2 = 0
  · have hw : s.wipe t = (s.begin_ t).1.wipe1 t := if_neg (by simp [he])
    rw [hw]
    have e2 : s.begin_ t = ((s.begin_ t).1, 0) := by rw [← he]
    rcases RS.begin_in he with rfl | rfl
    · exact wipe0 b s _ fp w hR e2
    · exact wipe1 b s _ fp w hR e2
  · have hB := hd (begin_any b t s fp w hR)
    have hw : s.wipe t = s.begin_ t := if_pos he
    rw [hw]
    generalize s.begin_ t = s1e at *
    obtain ⟨s1, e1⟩ := s1e
    have he' : (e1 != 0) = true := by simpa using he
    clear he hw hR
    go_enter Tryz.func56, Tryz.ntmps56
    go_wp2_with (go_at_call 84; refine hB.out.mono ?_; rintro e w1 ⟨rfl, hp⟩)
    go_ret
    exact ⟨rfl, hp⟩
end Go.Proofs.YtopajmbblemopaaGreatDoor
namespace Go.Proofs.YtopajmbblemopaaGreatDoor
set_option linter.unusedVariables false
set_option linter.unusedSimpArgs false
open Go.RowKit

theorem RS.Ok.trims {s : RS} (h : s.Ok) (t : Int) (m m' : Nat) : (s.put t ((s.safe t).take m) ((s.rest t).take m')).Ok := by
  have := h.free
  refine h.put t _ _ ?_
  simp only [List.length_take]
  omega
theorem trim1_of {s : RS} {t n : Int} (h : n ≤ (s.safe t).length + (s.rest t).length) : s.trim1 t n = (s.tick.put t ((s.safe t).take n.toNat) ((s.rest t).take (n.toNat - (s.safe t).length)), 0) := if_neg (by omega)

set_option maxHeartbeats 1600000 in
theorem trim0 (b : Nat) (n : Int) (s s1 : RS) (fp : List Nat) (w : World) (hR : ReelAt w b s fp) (he : s.begin_ 0 = (s1, 0)) (h0 : 0 ≤ n) (h1 : n ≤ s1.s0.length + s1.r0.length) :
    Calls Tryz.prog 64 #[.pointer (some ⟨b, 0, none⟩), .int .i64 0, .int .i64 n] w fun e w' => e = .returned (.int .i64 0) ∧ RPost w b fp (s1.trim1 0 n).1 w' := by
  have hB := begin_any b 0 s fp w hR
  rw [he] at hB
  have HB := hd hB
  have ht : s1.trim1 0 n = (s1.tick.put 0 (s1.s0.take n.toNat) (s1.r0.take (n.toNat - s1.s0.length)), 0) := trim1_of h1
  clear hB hR he
  by_cases hlt : (s1.s0.length : Int) < n
  · rw [show s1.s0.take n.toNat = s1.s0.take s1.s0.length from by rw [List.take_of_length_le (by omega), List.take_of_length_le (by omega)]] at ht
    have HT := hd ht
    clear ht
    go_enter Tryz.func64, Tryz.ntmps64
    go_wp2_with (first | (go_at_call 84; refine HB.out.mono ?_; rintro e w1 ⟨rfl, hp⟩; obtain ⟨ho, v0, v1, v2, v3, U⟩ := hp.up; obtain ⟨⟨c0, c1, c2, c3⟩, c4, c5, c6, c7⟩ := U.parts.cells; have f7 := U.parts.blk.frozen 7; have fi := U.parts.blk.frozen 0; have fk := U.parts.blk.frozen 1; obtain ⟨A, k, rfl, hk⟩ := U.parts.row0.small2; obtain ⟨B, l, rfl, hl⟩ := U.parts.row1.small2; have HU := hd U; have HO := hd ho; have l0 := ho.small; clear hp U ho) | (go_at_call 88; refine (tapelen_any b 0 A B s1.s0.length s1.r0.length k l _ (by go_simp) (by go_simp) (by omega) (by omega)).mono ?_; rintro e w' ⟨rfl, nn, rfl⟩))
    have e1 : IntKind.i64.wrap (n - s1.s0.length) = n - s1.s0.length := IntWalk.i64_in _ (by omega)
    have e2 : (0 : Int) < n - s1.s0.length := by omega
    have e3 : 0 ≤ n - s1.s0.length := by omega
    have e4 : n - s1.s0.length ≤ (l : Int) := by omega
    go_region
    go_wp2
    go_region
    have hl1 : n.toNat - s1.s0.length ≤ s1.r0.length := by omega
    have HX := hd (((HU.out.drewN nn).tick.take1 rfl hl1).take0 rfl (Nat.le_refl _))
    clear hl1 e1 e2 e3 e4 c0 c1 c2 c3 c4 c5 c6 c7 hlt h1
    go_wp2
    go_ret
    rw [HT.out]
    exact ⟨rfl, HX.out.drew.drew.post (HO.out.tick.trims 0 _ _)⟩
  · rw [show n.toNat - s1.s0.length = 0 from by omega] at ht
    have HT := hd ht
    clear ht
    go_enter Tryz.func64, Tryz.ntmps64
    go_wp2_with (first | (go_at_call 84; refine HB.out.mono ?_; rintro e w1 ⟨rfl, hp⟩; obtain ⟨ho, v0, v1, v2, v3, U⟩ := hp.up; obtain ⟨⟨c0, c1, c2, c3⟩, c4, c5, c6, c7⟩ := U.parts.cells; have f7 := U.parts.blk.frozen 7; have fi := U.parts.blk.frozen 0; have fk := U.parts.blk.frozen 1; obtain ⟨A, k, rfl, hk⟩ := U.parts.row0.small2; obtain ⟨B, l, rfl, hl⟩ := U.parts.row1.small2; have HU := hd U; have HO := hd ho; have l0 := ho.small; clear hp U ho) | (go_at_call 88; refine (tapelen_any b 0 A B s1.s0.length s1.r0.length k l _ (by go_simp) (by go_simp) (by omega) (by omega)).mono ?_; rintro e w' ⟨rfl, nn, rfl⟩))
    have e1 : IntKind.i64.wrap (n - s1.s0.length) = n - s1.s0.length := IntWalk.i64_in _ (by omega)
    have e2 : ¬ (0 : Int) < n - s1.s0.length := by omega
    have e4 : n ≤ (k : Int) := by omega
    go_region
    go_wp2
    by_cases hlt2 : n < (s1.s0.length : Int)
    · go_region
      have hl1 : n.toNat ≤ s1.s0.length := by omega
      have HX := hd (((HU.out.drewN nn).tick.take1 rfl (Nat.zero_le _)).take0 rfl hl1)
      clear hl1 e1 e2 e4 c0 c1 c2 c3 c4 c5 c6 c7 hlt h1
      go_wp2
      go_ret
      rw [HT.out]
      exact ⟨rfl, HX.out.drew.drew.post (HO.out.tick.trims 0 _ _)⟩
    · go_region
      have hl1 : n.toNat = s1.s0.length := by omega
      have HX := hd (((HU.out.drewN nn).tick.take1 rfl (Nat.zero_le _)).take0 rfl (Nat.le_refl _))
      have HL := hd hl1
      clear hl1 e1 e2 e4 c0 c1 c2 c3 c4 c5 c6 c7 hlt h1
      go_wp2
      go_ret
      rw [HT.out, HL.out]
      exact ⟨rfl, HX.out.drew.drew.post (HO.out.tick.trims 0 _ _)⟩

set_option maxHeartbeats 800000 in
theorem trimlong0 (b : Nat) (n : Int) (s s1 : RS) (fp : List Nat) (w : World) (hR : ReelAt w b s fp) (he : s.begin_ 0 = (s1, 0)) (h0 : 0 ≤ n) (h1 : (s1.s0.length + s1.r0.length : Int) < n) :
    Calls Tryz.prog 64 #[.pointer (some ⟨b, 0, none⟩), .int .i64 0, .int .i64 n] w fun e w' => e = .returned (.int .i64 2) ∧ RPost w b fp s1 w' := by
  have hB := begin_any b 0 s fp w hR
  rw [he] at hB
  have HB := hd hB
  clear hB hR he
  go_enter Tryz.func64, Tryz.ntmps64
  go_wp2_with (first | (go_at_call 84; refine HB.out.mono ?_; rintro e w1 ⟨rfl, hp⟩; obtain ⟨ho, v0, v1, v2, v3, U⟩ := hp.up; obtain ⟨⟨c0, c1, c2, c3⟩, c4, c5, c6, c7⟩ := U.parts.cells; obtain ⟨A, k, rfl, hk⟩ := U.parts.row0.small2; obtain ⟨B, l, rfl, hl⟩ := U.parts.row1.small2; have HP := hd hp; have l0 := ho.small; clear hp U ho) | (go_at_call 88; refine (tapelen_any b 0 A B s1.s0.length s1.r0.length k l _ (by go_simp) (by go_simp) (by omega) (by omega)).mono ?_; rintro e w' ⟨rfl, nn, rfl⟩))
  go_ret
  exact ⟨rfl, HP.out.drewN nn⟩
set_option maxHeartbeats 1600000 in
theorem trim1 (b : Nat) (n : Int) (s s1 : RS) (fp : List Nat) (w : World) (hR : ReelAt w b s fp) (he : s.begin_ 1 = (s1, 0)) (h0 : 0 ≤ n) (h1 : n ≤ s1.s1.length + s1.r1.length) :
    Calls Tryz.prog 64 #[.pointer (some ⟨b, 0, none⟩), .int .i64 1, .int .i64 n] w fun e w' => e = .returned (.int .i64 0) ∧ RPost w b fp (s1.trim1 1 n).1 w' := by
  have hB := begin_any b 1 s fp w hR
  rw [he] at hB
  have HB := hd hB
  have ht : s1.trim1 1 n = (s1.tick.put 1 (s1.s1.take n.toNat) (s1.r1.take (n.toNat - s1.s1.length)), 0) := trim1_of h1
  clear hB hR he
  by_cases hlt : (s1.s1.length : Int) < n
  · rw [show s1.s1.take n.toNat = s1.s1.take s1.s1.length from by rw [List.take_of_length_le (by omega), List.take_of_length_le (by omega)]] at ht
    have HT := hd ht
    clear ht
    go_enter Tryz.func64, Tryz.ntmps64
    go_wp2_with (first | (go_at_call 84; refine HB.out.mono ?_; rintro e w1 ⟨rfl, hp⟩; obtain ⟨ho, v0, v1, v2, v3, U⟩ := hp.up; obtain ⟨⟨c0, c1, c2, c3⟩, c4, c5, c6, c7⟩ := U.parts.cells; have f7 := U.parts.blk.frozen 7; have fi := U.parts.blk.frozen 2; have fk := U.parts.blk.frozen 3; obtain ⟨A, k, rfl, hk⟩ := U.parts.row2.small2; obtain ⟨B, l, rfl, hl⟩ := U.parts.row3.small2; have HU := hd U; have HO := hd ho; have l0 := ho.small; clear hp U ho) | (go_at_call 88; refine (tapelen_any b 2 A B s1.s1.length s1.r1.length k l _ (by go_simp) (by go_simp) (by omega) (by omega)).mono ?_; rintro e w' ⟨rfl, nn, rfl⟩))
    have e1 : IntKind.i64.wrap (n - s1.s1.length) = n - s1.s1.length := IntWalk.i64_in _ (by omega)
    have e2 : (0 : Int) < n - s1.s1.length := by omega
    have e3 : 0 ≤ n - s1.s1.length := by omega
    have e4 : n - s1.s1.length ≤ (l : Int) := by omega
    go_region
    go_wp2
    go_region
    have hl1 : n.toNat - s1.s1.length ≤ s1.r1.length := by omega
    have HX := hd (((HU.out.drewN nn).tick.take3 rfl hl1).take2 rfl (Nat.le_refl _))
    clear hl1 e1 e2 e3 e4 c0 c1 c2 c3 c4 c5 c6 c7 hlt h1
    go_wp2
    go_ret
    rw [HT.out]
    exact ⟨rfl, HX.out.drew.drew.post (HO.out.tick.trims 1 _ _)⟩
  · rw [show n.toNat - s1.s1.length = 0 from by omega] at ht
    have HT := hd ht
    clear ht
    go_enter Tryz.func64, Tryz.ntmps64
    go_wp2_with (first | (go_at_call 84; refine HB.out.mono ?_; rintro e w1 ⟨rfl, hp⟩; obtain ⟨ho, v0, v1, v2, v3, U⟩ := hp.up; obtain ⟨⟨c0, c1, c2, c3⟩, c4, c5, c6, c7⟩ := U.parts.cells; have f7 := U.parts.blk.frozen 7; have fi := U.parts.blk.frozen 2; have fk := U.parts.blk.frozen 3; obtain ⟨A, k, rfl, hk⟩ := U.parts.row2.small2; obtain ⟨B, l, rfl, hl⟩ := U.parts.row3.small2; have HU := hd U; have HO := hd ho; have l0 := ho.small; clear hp U ho) | (go_at_call 88; refine (tapelen_any b 2 A B s1.s1.length s1.r1.length k l _ (by go_simp) (by go_simp) (by omega) (by omega)).mono ?_; rintro e w' ⟨rfl, nn, rfl⟩))
    have e1 : IntKind.i64.wrap (n - s1.s1.length) = n - s1.s1.length := IntWalk.i64_in _ (by omega)
    have e2 : ¬ (0 : Int) < n - s1.s1.length := by omega
    have e4 : n ≤ (k : Int) := by omega
    go_region
    go_wp2
    by_cases hlt2 : n < (s1.s1.length : Int)
    · go_region
      have hl1 : n.toNat ≤ s1.s1.length := by omega
      have HX := hd (((HU.out.drewN nn).tick.take3 rfl (Nat.zero_le _)).take2 rfl hl1)
      clear hl1 e1 e2 e4 c0 c1 c2 c3 c4 c5 c6 c7 hlt h1
      go_wp2
      go_ret
      rw [HT.out]
      exact ⟨rfl, HX.out.drew.drew.post (HO.out.tick.trims 1 _ _)⟩
    · go_region
      have hl1 : n.toNat = s1.s1.length := by omega
      have HX := hd (((HU.out.drewN nn).tick.take3 rfl (Nat.zero_le _)).take2 rfl (Nat.le_refl _))
      have HL := hd hl1
      clear hl1 e1 e2 e4 c0 c1 c2 c3 c4 c5 c6 c7 hlt h1
      go_wp2
      go_ret
      rw [HT.out, HL.out]
      exact ⟨rfl, HX.out.drew.drew.post (HO.out.tick.trims 1 _ _)⟩

set_option maxHeartbeats 800000 in
theorem trimlong1 (b : Nat) (n : Int) (s s1 : RS) (fp : List Nat) (w : World) (hR : ReelAt w b s fp) (he : s.begin_ 1 = (s1, 0)) (h0 : 0 ≤ n) (h1 : (s1.s1.length + s1.r1.length : Int) < n) :
    Calls Tryz.prog 64 #[.pointer (some ⟨b, 0, none⟩), .int .i64 1, .int .i64 n] w fun e w' => e = .returned (.int .i64 2) ∧ RPost w b fp s1 w' := by
  have hB := begin_any b 1 s fp w hR
  rw [he] at hB
  have HB := hd hB
  clear hB hR he
  go_enter Tryz.func64, Tryz.ntmps64
  go_wp2_with (first | (go_at_call 84; refine HB.out.mono ?_; rintro e w1 ⟨rfl, hp⟩; obtain ⟨ho, v0, v1, v2, v3, U⟩ := hp.up; obtain ⟨⟨c0, c1, c2, c3⟩, c4, c5, c6, c7⟩ := U.parts.cells; obtain ⟨A, k, rfl, hk⟩ := U.parts.row2.small2; obtain ⟨B, l, rfl, hl⟩ := U.parts.row3.small2; have HP := hd hp; have l0 := ho.small; clear hp U ho) | (go_at_call 88; refine (tapelen_any b 2 A B s1.s1.length s1.r1.length k l _ (by go_simp) (by go_simp) (by omega) (by omega)).mono ?_; rintro e w' ⟨rfl, nn, rfl⟩))
  go_ret
  exact ⟨rfl, HP.out.drewN nn⟩

set_option maxHeartbeats 800000 in
theorem trim_any (b : Nat) (t n : Int) (s : RS) (fp : List Nat) (w : World) (hR : ReelAt w b s fp) :
    Calls Tryz.prog 64 #[.pointer (some ⟨b, 0, none⟩), .int .i64 t, .int .i64 n] w fun e w' => e = .returned (.int .i64 (s.trim t n).2) ∧ RPost w b fp (s.trim t n).1 w' := by
  by_cases hn : n < 0
  · have hw : s.trim t n = (s, 2) := if_pos hn
    rw [hw]
    obtain ⟨hok, v0, v1, v2, v3, hp, rfl⟩ := hR
    have HP := hd (same_post hp hok)
    clear hw hp hok
    go_enter Tryz.func64, Tryz.ntmps64
    go_wp2
    go_ret
    exact ⟨rfl, HP.out⟩
  have hw1 : s.trim t n = s.op t (·.trim1 t n) := if_neg hn
  have hn' : 0 ≤ n := by omega
  by_cases he : (s.begin_ t).2 = 0
  · have hw : s.trim t n = (s.begin_ t).1.trim1 t n := hw1.trans (if_neg (by simp [he]))
    rw [hw]
    have e2 : s.begin_ t = ((s.begin_ t).1, 0) := by rw [← he]
    generalize (s.begin_ t).1 = s1 at *
    by_cases hl : ((s1.safe t).length + (s1.rest t).length : Int) < n
    · rw [show s1.trim1 t n = (s1, 2) from if_pos hl]
      rcases RS.begin_in he with rfl | rfl
      · exact trimlong0 b n s s1 fp w hR e2 hn' hl
      · exact trimlong1 b n s s1 fp w hR e2 hn' hl
    · have e3 : (s1.trim1 t n).2 = 0 := by rw [trim1_of (by omega)]
      rw [e3]
      rcases RS.begin_in he with rfl | rfl
      · exact trim0 b n s s1 fp w hR e2 hn' (by simp only [RS.safe, RS.rest, if_true] at hl; omega)
      · exact trim1 b n s s1 fp w hR e2 hn' (by simp only [RS.safe, RS.rest] at hl; simp at hl; omega)
  · have hB := hd (begin_any b t s fp w hR)
    have hw : s.trim t n = s.begin_ t := hw1.trans (if_pos he)
    rw [hw]
    generalize s.begin_ t = s1e at *
    obtain ⟨s1, e1⟩ := s1e
    have he' : (e1 != 0) = true := by simpa using he
    clear he hw hR hw1 hn
    go_enter Tryz.func64, Tryz.ntmps64
    go_wp2_with (go_at_call 84; refine hB.out.mono ?_; rintro e w1 ⟨rfl, hp⟩)
    go_ret
    exact ⟨rfl, hp⟩
end Go.Proofs.YtopajmbblemopaaGreatDoor
namespace Go.Proofs.YtopajmbblemopaaGreatDoor
set_option linter.unusedVariables false
set_option linter.unusedSimpArgs false
open Go.RowKit

theorem str_cat (l m : List UInt8) : str l ++ str m = str (l ++ m) := ByteArray.mk_append_mk l m

set_option maxHeartbeats 800000 in
theorem read0 (b : Nat) (s : RS) (fp : List Nat) (w : World) (hR : ReelAt w b s fp) (hd0 : s.dead = false) :
    Calls Tryz.prog 52 #[.pointer (some ⟨b, 0, none⟩), .int .i64 0] w fun e w' => e = .returned (.tuple #[.string (str (s.s0 ++ s.r0)), .int .i64 0]) ∧ Drawn w w' := by
  obtain ⟨hok, v0, v1, v2, v3, hp, rfl⟩ := hR
  obtain ⟨⟨c0, c1, c2, c3⟩, c4, c5, c6, c7⟩ := hp.cells
  rw [hd0] at c6
  have hs := hok.small
  have k0 : ∀ n, (convert 72 9 v0).run Tryz.prog (w.drewN n) = .ok (.string (str s.s0)) (w.drewN n) := fun n => run_string_row Tryz.underlying72 Tryz.underlying5 Tryz.underlying9 (hp.row0.drewN n)
  have k1 : ∀ n, (convert 72 9 v1).run Tryz.prog (w.drewN n) = .ok (.string (str s.r0)) (w.drewN n) := fun n => run_string_row Tryz.underlying72 Tryz.underlying5 Tryz.underlying9 (hp.row1.drewN n)
  have z0 : (str s.s0).size ≤ 4194304 := by rw [str_size]; omega
  have z1 : (str s.r0).size ≤ 4194304 := by rw [str_size]; omega
  have HC := hd (str_cat s.s0 s.r0)
  clear hp hok hd0 hs
  go_enter Tryz.func52, Tryz.ntmps52
  go_wp2
  go_quiet (fail)
  go_wp2
  go_ret2
  rw [← HC.out]
  exact ⟨rfl, _, rfl⟩
set_option maxHeartbeats 800000 in
theorem read1 (b : Nat) (s : RS) (fp : List Nat) (w : World) (hR : ReelAt w b s fp) (hd0 : s.dead = false) :
    Calls Tryz.prog 52 #[.pointer (some ⟨b, 0, none⟩), .int .i64 1] w fun e w' => e = .returned (.tuple #[.string (str (s.s1 ++ s.r1)), .int .i64 0]) ∧ Drawn w w' := by
  obtain ⟨hok, v0, v1, v2, v3, hp, rfl⟩ := hR
  obtain ⟨⟨c0, c1, c2, c3⟩, c4, c5, c6, c7⟩ := hp.cells
  rw [hd0] at c6
  have hs := hok.small
  have k0 : ∀ n, (convert 72 9 v2).run Tryz.prog (w.drewN n) = .ok (.string (str s.s1)) (w.drewN n) := fun n => run_string_row Tryz.underlying72 Tryz.underlying5 Tryz.underlying9 (hp.row2.drewN n)
  have k1 : ∀ n, (convert 72 9 v3).run Tryz.prog (w.drewN n) = .ok (.string (str s.r1)) (w.drewN n) := fun n => run_string_row Tryz.underlying72 Tryz.underlying5 Tryz.underlying9 (hp.row3.drewN n)
  have z0 : (str s.s1).size ≤ 4194304 := by rw [str_size]; omega
  have z1 : (str s.r1).size ≤ 4194304 := by rw [str_size]; omega
  have HC := hd (str_cat s.s1 s.r1)
  clear hp hok hd0 hs
  go_enter Tryz.func52, Tryz.ntmps52
  go_wp2
  go_quiet (fail)
  go_wp2
  go_ret2
  rw [← HC.out]
  exact ⟨rfl, _, rfl⟩

set_option maxHeartbeats 800000 in
theorem read_any (b : Nat) (t : Int) (s : RS) (fp : List Nat) (w : World) (hR : ReelAt w b s fp) :
    Calls Tryz.prog 52 #[.pointer (some ⟨b, 0, none⟩), .int .i64 t] w fun e w' => e = .returned (.tuple #[.string (str (s.read t).1), .int .i64 (s.read t).2]) ∧ Drawn w w' := by
  by_cases ht : t < 0 ∨ 2 ≤ t
  · have e : s.read t = ([], 2) := if_pos ht
    rw [e]
    rcases ht with ht | ht
    · go_enter Tryz.func52, Tryz.ntmps52
      go_wp2
      go_ret2
      exact ⟨rfl, 0, rfl⟩
    · go_enter Tryz.func52, Tryz.ntmps52
      go_wp2
      go_ret2
      exact ⟨rfl, 0, rfl⟩
  · cases hdd : s.dead with
    | true =>
      have e : s.read t = ([], 30) := by unfold RS.read; rw [if_neg ht, if_pos hdd]
      rw [e]
      obtain ⟨hok, v0, v1, v2, v3, hp, rfl⟩ := hR
      have c6 := hp.cells.2.2.2.1
      rw [hdd] at c6
      clear hp hok e hdd
      have h0 : 0 ≤ t := by omega
      have h1 : t < 2 := by omega
      clear ht
      go_enter Tryz.func52, Tryz.ntmps52
      go_wp2
      go_ret2
      exact ⟨rfl, 0, rfl⟩
    | false =>
      have e : s.read t = (s.safe t ++ s.rest t, 0) := by unfold RS.read; rw [if_neg ht, if_neg (by simp [hdd])]
      rw [e]
      rcases (show t = 0 ∨ t = 1 from by omega) with rfl | rfl
      · exact read0 b s fp w hR hdd
      · exact read1 b s fp w hR hdd
theorem arm_any (b : Nat) (n : Int) (s : RS) (fp : List Nat) (w : World) (hR : ReelAt w b s fp) (h0 : -9223372036854775808 ≤ n) (h1 : n ≤ 9223372036854775807) :
    Calls Tryz.prog 25 #[.pointer (some ⟨b, 0, none⟩), .int .i64 n] w fun e w' => e = .returned (.tuple #[]) ∧ RPost w b fp (s.arm n) w' := by
  obtain ⟨hok, v0, v1, v2, v3, hp, rfl⟩ := hR
  have c5 := hp.cells.2.2.1
  have f5 := hp.blk.frozen 5
  have HP := hd (num_post hp (s' := s.arm n) 5 (.int .i64 n) rfl ⟨rfl, rfl, rfl, rfl⟩ (hok.arm h0 h1))
  clear hp hok
  go_enter Tryz.func25, Tryz.ntmps25
  go_wp2
  go_end0
  exact ⟨rfl, HP.out⟩
/-- A reel that is new. -/
def RS.new (room : Int) : RS := { s0 := [], r0 := [], s1 := [], r1 := [], room := room, left := -1, dead := false, ops := 0 }
theorem RS.new_ok {room : Int} (h0 : 0 ≤ room) (h1 : room ≤ 4194304) : (RS.new room).Ok :=
  ⟨h0, h1, by simp [RS.used, RS.new]; exact h0, by show (-9223372036854775808 : Int) ≤ -1; decide, by show (-1 : Int) ≤ 9223372036854775807; decide⟩

def NewPost (w : World) (room : Int) (e : Ending) (w' : World) : Prop := ∃ b fp, e = .returned (.tuple #[.pointer (some ⟨b, 0, none⟩), .int .i64 0]) ∧ ReelAt w' b (RS.new room) fp ∧ Chg (fun _ => False) w w' ∧ ∀ k ∈ fp, w.heap.size ≤ k
set_option maxHeartbeats 800000 in
theorem new_any (room : Int) (w : World) (h0 : 0 ≤ room) (h1 : room ≤ 4194304) :
    Calls Tryz.prog 11 #[.int .i64 room] w (NewPost w room) := by
  go_enter Tryz.func11, Tryz.ntmps11
  go_wp2
  go_ret2
  refine ⟨w.heap.size, _, rfl, ⟨RS.new_ok h0 h1, .slice none 0 0, .slice none 0 0, .slice none 0 0, .slice none 0 0, ⟨Blk.new w (RCells (.slice none 0 0) (.slice none 0 0) (.slice none 0 0) (.slice none 0 0) (RS.new room)) 77, Row.nil _ _, Row.nil _ _, Row.nil _ _, Row.nil _ _, ?_⟩, rfl⟩, (Chg.refl _ w).alloc _, ?_⟩
  · constructor <;> first | (intro k h; cases h; done) | (intro h; cases h; done)
  · intro k hk
    rcases mem_RFoot.1 hk with q | q | q | q | q
    · omega
    all_goals cases q
end Go.Proofs.YtopajmbblemopaaGreatDoor
namespace Go.Proofs.YtopajmbblemopaaGreatDoor
set_option linter.unusedVariables false
set_option linter.unusedSimpArgs false
open Go.RowKit

theorem RUp.alloc {fp : List Nat} {w w1 : World} {b : Nat} {s : RS} {v0 v1 v2 v3 : Value} (h : RUp fp w b s w1 v0 v1 v2 v3) (o : Obj) : RUp fp w b s (w1.alloc o) v0 v1 v2 v3 :=
  ⟨⟨h.parts.blk.alloc o, h.parts.row0.alloc o, h.parts.row1.alloc o, h.parts.row2.alloc o, h.parts.row3.alloc o, h.parts.apart⟩, h.chg.alloc o, h.foot⟩
theorem RUp.alive {fp : List Nat} {w w1 : World} {b : Nat} {s : RS} {v0 v1 v2 v3 : Value} (h : RUp fp w b s w1 v0 v1 v2 v3) : RUp fp w b { s with dead := false, left := -1 } ((w1.setCell ⟨b, 6, none⟩ (.bool false)).setCell ⟨b, 5, none⟩ (.int .i64 (-1))) v0 v1 v2 v3 :=
  ⟨(h.parts.num (s' := { s with dead := false }) 6 _ rfl ⟨rfl, rfl, rfl, rfl⟩).num (s' := { s with dead := false, left := -1 }) 5 _ rfl ⟨rfl, rfl, rfl, rfl⟩, (h.chg.setCell h.mem _).setCell h.mem _, h.foot⟩

theorem keep_le (l : List UInt8) (k : Int) : RS.keepn l k ≤ l.length := by unfold RS.keepn; omega
theorem keep_if (l : List UInt8) (k : Int) : (if 0 < (if (l.length : Int) < k then (l.length : Int) else k) then (if (l.length : Int) < k then (l.length : Int) else k) else 0) = (RS.keepn l k : Int) := by
  unfold RS.keepn
  split <;> split <;> omega
theorem RS.kept_eq (l : List UInt8) (k : Int) (turn : UInt8) : RS.kept l k turn = if (l.take (RS.keepn l k)).length = 0 then [] else (l.take (RS.keepn l k)).set ((l.take (RS.keepn l k)).length - 1) ((l.take (RS.keepn l k)).getD ((l.take (RS.keepn l k)).length - 1) 0 ^^^ turn) := rfl
theorem Row.poke {w : World} {e : TypeId} {v : Value} {l : List UInt8} {g : Nat} (h : Row w e v (u8s l)) (hg : v.ownBlock = some g) (j : Nat) (x : UInt8) : Row (w.setCell ⟨g, j, none⟩ (.int .u8 x.toNat)) e v (u8s (l.set j x)) := by
  rcases h.nil_or with ⟨rfl, _⟩ | ⟨g', cap, rfl, -⟩
  · cases hg
  · obtain rfl : g' = g := by injection hg
    have := (World.ownsRow.stored h j (.int .u8 x.toNat)).1
    have hs : (u8s l).set j (.int .u8 x.toNat) = u8s (l.set j x) := by simp [u8s, List.map_set]
    rw [hs] at this
    unfold Row
    rw [show (u8s (l.set j x)).length = (u8s l).length by simp [u8s]]
    exact this
theorem RUp.poke1 {fp : List Nat} {w0 w : World} {b g : Nat} {s : RS} {v0 v1 v2 v3 : Value} (H : RUp fp w0 b s w v0 v1 v2 v3) (hg : v1.ownBlock = some g) (j : Nat) (x : UInt8) :
    RUp fp w0 b { s with r0 := s.r0.set j x } (w.setCell ⟨g, j, none⟩ (.int .u8 x.toNat)) v0 v1 v2 v3 := by
  have h := H.parts
  have ha := h.apart
  obtain ⟨e10, e20, e30, e21, e31, e32⟩ := ha.ne
  have e01 := ha.a01
  have e02 := ha.a02
  have e03 := ha.a03
  have e12 := ha.a12
  have e13 := ha.a13
  have e23 := ha.a23
  have hbg : b ≠ g := fun q => ha.b1 (by rw [hg, q])
  have hc : Chg (· ∈ RFoot b v0 v1 v2 v3) w (w.setCell ⟨g, j, none⟩ (.int .u8 x.toNat)) := (Chg.refl _ w).setCell (.inl (mem_RFoot.2 (by simp [hg]))) _
  refine H.upd (h.blk.other hbg _) ?_ ?_ ?_ ?_ w.heap.size (w.heap.size + 1) (w.heap.size + 2) (w.heap.size + 3) (by omega) (At.same _ _ _) (At.same _ _ _) (At.same _ _ _) (At.same _ _ _) hc
  all_goals first
    | exact h.row1.poke hg j x
    | exact h.row0.other (by intro q; exact (show Ne2 v0.ownBlock v1.ownBlock from by assumption) _ q hg) _
    | exact h.row2.other (by intro q; exact (show Ne2 v2.ownBlock v1.ownBlock from by assumption) _ q hg) _
    | exact h.row3.other (by intro q; exact (show Ne2 v3.ownBlock v1.ownBlock from by assumption) _ q hg) _
theorem RUp.poke3 {fp : List Nat} {w0 w : World} {b g : Nat} {s : RS} {v0 v1 v2 v3 : Value} (H : RUp fp w0 b s w v0 v1 v2 v3) (hg : v3.ownBlock = some g) (j : Nat) (x : UInt8) :
    RUp fp w0 b { s with r1 := s.r1.set j x } (w.setCell ⟨g, j, none⟩ (.int .u8 x.toNat)) v0 v1 v2 v3 := by
  have h := H.parts
  have ha := h.apart
  obtain ⟨e10, e20, e30, e21, e31, e32⟩ := ha.ne
  have e01 := ha.a01
  have e02 := ha.a02
  have e03 := ha.a03
  have e12 := ha.a12
  have e13 := ha.a13
  have e23 := ha.a23
  have hbg : b ≠ g := fun q => ha.b3 (by rw [hg, q])
  have hc : Chg (· ∈ RFoot b v0 v1 v2 v3) w (w.setCell ⟨g, j, none⟩ (.int .u8 x.toNat)) := (Chg.refl _ w).setCell (.inl (mem_RFoot.2 (by simp [hg]))) _
  refine H.upd (h.blk.other hbg _) ?_ ?_ ?_ ?_ w.heap.size (w.heap.size + 1) (w.heap.size + 2) (w.heap.size + 3) (by omega) (At.same _ _ _) (At.same _ _ _) (At.same _ _ _) (At.same _ _ _) hc
  all_goals first
    | exact h.row3.poke hg j x
    | exact h.row0.other (by intro q; exact (show Ne2 v0.ownBlock v3.ownBlock from by assumption) _ q hg) _
    | exact h.row1.other (by intro q; exact (show Ne2 v1.ownBlock v3.ownBlock from by assumption) _ q hg) _
    | exact h.row2.other (by intro q; exact (show Ne2 v2.ownBlock v3.ownBlock from by assumption) _ q hg) _

theorem u8s_get (l : List UInt8) (j : Nat) (h : j < l.length) : (u8s l)[j]? = some (.int .u8 (l.getD j 0).toNat) := by
  simp [u8s, List.getD, h]
theorem Row.not_blk {w : World} {e T : TypeId} {v : Value} {xs cs : List Value} {N : Nat} (h : Row w e v xs) (hb : Blk w N cs T) (hT : T ≠ e) : v.ownBlock ≠ some N := by
  intro q
  rcases h.2 with ⟨rfl, _⟩ | ⟨g, cap, cur, rfl, _, hh, _⟩
  · cases q
  · obtain rfl : g = N := by injection q
    unfold Blk at hb
    rw [hb] at hh
    injection hh with hh
    injection hh with _ ht
    exact hT ht
theorem xor_byte (x y : UInt8) : bits .xor .u8 (x.toNat : Int) (y.toNat : Int) = ((x ^^^ y).toNat : Int) := by
  rw [u8_xor_nat _ _ x.toNat_lt y.toNat_lt, UInt8.toNat_xor]
/-- Behind a round of Crash: the state, and the tail's block is there still. -/
def CrashAt (fp : List Nat) (w : World) (b : Nat) (s : RS) (N : Nat) (cs : List Value) (wx : World) : Prop := (∃ u0 u1 u2 u3, RUp fp w b s wx u0 u1 u2 u3) ∧ Blk wx N cs 26 ∧ b ≠ N ∧ w.heap.size ≤ N

set_option maxHeartbeats 1600000 in
theorem crash_any (b : Nat) (k0 k1 : Int) (turn : UInt8) (s : RS) (fp : List Nat) (w : World) (hR : ReelAt w b s fp) :
    Calls Tryz.prog 22 #[.pointer (some ⟨b, 0, none⟩), .agg #[.int .i64 k0, .int .i64 k1, .int .u8 turn.toNat]] w fun e w' => e = .returned (.tuple #[]) ∧ RPost w b fp (s.crash k0 k1 turn) w' := by
  obtain ⟨hok, v0, v1, v2, v3, U⟩ := hR.up
  obtain ⟨⟨c0, c1, c2, c3⟩, c4, c5, c6, c7⟩ := U.parts.cells
  have f5 := U.parts.blk.frozen 5
  have f6 := U.parts.blk.frozen 6
  have hb := U.parts.blk.lt
  have HU := hd U
  have HO := hd hok
  clear U hok hR
  go_enter Tryz.func22, Tryz.ntmps22
  go_wp2
  have HV := hd (HU.out.alive.alloc (.cells #[.int .i64 k0, .int .i64 k1, .int .u8 turn.toNat] 26))
  have HZ := hd (Blk.new ((w.setCell ⟨b, 6, none⟩ (.bool false)).setCell ⟨b, 5, none⟩ (.int .i64 (-1))) [.int .i64 k0, .int .i64 k1, .int .u8 turn.toNat] 26)
  rw [World.size_setCell, World.size_setCell] at HZ
  clear HU c0 c1 c2 c3 c4 c5 c6 c7 f5 f6
  generalize ((w.setCell ⟨b, 6, none⟩ (.bool false)).setCell ⟨b, 5, none⟩ (.int .i64 (-1))).alloc (.cells #[.int .i64 k0, .int .i64 k1, .int .u8 turn.toNat] 26) = W at *
  have i0 : ∀ w, (Instr.index 24 (.agg #[.int .i64 k0, .int .i64 k1]) (.int .i64 0)).run Tryz.prog w = .ok (.int .i64 k0) w := fun _ => by kernel_rfl
  have i1 : ∀ w, (Instr.index 24 (.agg #[.int .i64 k0, .int .i64 k1]) (.int .i64 1)).run Tryz.prog w = .ok (.int .i64 k1) w := fun _ => by kernel_rfl
  refine wp_loop_rounds 3 ?_
  rw [rounds_succ]
  go_upto_block 1 with (fail)
  go_cut [] (fun wx => CrashAt fp w b { s with dead := false, left := -1, s0 := s.s0 ++ RS.kept s.r0 k0 turn, r0 := [] } w.heap.size [.int .i64 k0, .int .i64 k1, .int .u8 turn.toNat] wx)
  case first =>
    obtain ⟨A, k, rfl, hk⟩ := HV.out.parts.row0.small2
    obtain ⟨B, l, rfl, hl⟩ := HV.out.parts.row1.small2
    have d0 : W.cell? ⟨b, 0, none⟩ = some (.slice A s.s0.length k) := HV.out.parts.blk.cell 0
    have d1 : W.cell? ⟨b, 1, none⟩ = some (.slice B s.r0.length l) := HV.out.parts.blk.cell 1
    have f1 := HV.out.parts.blk.frozen 1
    have m1 := keep_le s.r0 k0
    have g1 := keep_if s.r0 k0
    have HK := hd (RS.kept_eq s.r0 k0 turn)
    have hsm := HO.out.small
    generalize RS.keepn s.r0 k0 = m at *
    go_wp2
    go_region
    have HV2 := hd (HV.out.take1 rfl m1)
    have HZ2 := hd (HZ.out.other (p := ⟨b, 1, none⟩) (by intro q; have : w.heap.size = b := q; omega) (.slice B m l))
    clear HV f1 g1 d0 d1 HZ
    generalize W.setCell ⟨b, 1, none⟩ (.slice B m l) = W2 at *
    have d0 : W2.cell? ⟨b, 0, none⟩ = some (.slice A s.s0.length k) := HV2.out.parts.blk.cell 0
    have d1 : W2.cell? ⟨b, 1, none⟩ = some (.slice B m l) := HV2.out.parts.blk.cell 1
    by_cases hm : m = 0
    · subst hm
      have HV4 := hd (HV2.out.drew)
      rw [show s.r0.take 0 = RS.kept s.r0 k0 turn from by rw [HK.out]; simp] at HV4
      have HZ4 := hd HZ2.out.drew
      clear HV2 HZ2 d0 d1 HK
      generalize W2.drew = W4 at *

      have HZ4n := hd (HV4.out.parts.row0.not_blk HZ4.out (by decide))
      have d0 : W4.cell? ⟨b, 0, none⟩ = some (.slice A s.s0.length k) := HV4.out.parts.blk.cell 0
      have d1 : W4.cell? ⟨b, 1, none⟩ = some (.slice B 0 l) := HV4.out.parts.blk.cell 1
      have hkl := RS.kept_length s.r0 k0 turn
      go_upto_region 11 with (fail)
      go_region_law (refine step_append_row rfl (.tmp 67) (.tmp 71) 72 5 (.int .u8 0) 1 rfl Tryz.underlying72 Tryz.u8info rfl (.slice A s.s0.length k) (.slice B 0 l) (u8s s.s0) (u8s (RS.kept s.r0 k0 turn)) rfl rfl HV4.out.parts.row0.drew HV4.out.parts.row1.drew (u8s_oneCell _) (by simp only [u8s_length]; omega) (by simp only [u8s_length]; omega) ?_; intro v' w' hrow hg hat; obtain ⟨A', k', rfl⟩ := hrow.form; have c' : w'.cell? ⟨b, 0, none⟩ = some (.slice A s.s0.length k) := (HV4.out.parts.blk.drew.grown hg HV4.out.parts.apart.b0).cell 0; have f' := (HV4.out.parts.blk.drew.grown hg HV4.out.parts.apart.b0).frozen 0; have d' : w'.cell? ⟨b, 1, none⟩ = some (.slice B 0 l) := (HV4.out.parts.blk.drew.grown hg HV4.out.parts.apart.b0).cell 1; have g' := (HV4.out.parts.blk.drew.grown hg HV4.out.parts.apart.b0).frozen 1; have HH := hd (And.intro hrow (And.intro hg hat)); clear hrow hg hat)
      all_goals
        clear d0 d1 c' f' d' g'
        rw [← u8s_append] at HH
        simp only [← u8s_append, ← List.length_append]
        have HX := hd ((HV4.out.drew.put0 HH.out.2.1 HH.out.1 HH.out.2.2).cut1 (l := []) (.slice none 0 0) (Row.nil _ _) (.inl rfl))
        have HY := hd (((HZ4.out.drew.grown HH.out.2.1 HZ4n.out).other (p := ⟨b, 0, none⟩) (by intro q; have : w.heap.size = b := q; omega) (.slice A' (u8s (s.s0 ++ RS.kept s.r0 k0 turn)).length k')).other (p := ⟨b, 1, none⟩) (by intro q; have : w.heap.size = b := q; omega) (.slice none 0 0))
        try rw [setCell_swap _ ⟨b, 1, none⟩ ⟨b, 0, none⟩ _ _ (.inr ⟨rfl, rfl, by decide⟩)]
        go_wp2
        all_goals
          go_meet
          exact ⟨⟨_, _, _, _, HX.out⟩, HY.out, by omega, by omega⟩
    · have hm' : 0 < m := by omega
      have hlen : (s.r0.take m).length = m := by simp; omega
      obtain ⟨g, hg, hcell, hfz⟩ : ∃ g, B = some ⟨g, 0, none⟩ ∧ (∀ j u, (u8s (s.r0.take m))[j]? = some u → W2.cell? ⟨g, j, none⟩ = some u) ∧ (∀ j, W2.frozen? ⟨g, j, none⟩ = false) := by
        rcases HV2.out.parts.row1.nil_or with ⟨q, q2⟩ | ⟨g, cap, q, _, _, hcell, hfz⟩
        · injection q with q; omega
        · injection q with q; exact ⟨g, q, hcell, hfz⟩
      subst hg
      have cl : W2.cell? ⟨g, m - 1, none⟩ = some (.int .u8 ((s.r0.take m).getD (m - 1) 0).toNat) := hcell _ _ (u8s_get _ _ (by omega))
      have fl := hfz (m - 1)
      have ct : W2.cell? ⟨w.heap.size, 2, none⟩ = some (.int .u8 turn.toNat) := HZ2.out.cell 2
      have hkk : RS.kept s.r0 k0 turn = (s.r0.take m).set (m - 1) ((s.r0.take m).getD (m - 1) 0 ^^^ turn) := by rw [HK.out, hlen, if_neg hm]
      clear hcell hfz
      generalize (s.r0.take m).getD (m - 1) 0 = x at *
      have HKK := hd hkk
      clear hkk hlen HK
      go_upto_region 10 with (fail)
      go_region
      rw [xor_byte]
      have HV4 := hd ((HV2.out.poke1 rfl (m - 1) (x ^^^ turn)).drew.drew)
      have HZ4 := hd ((HZ2.out.other (p := ⟨g, m - 1, none⟩) (fun q => HV2.out.parts.row1.not_blk HZ2.out (by decide) (by have q : w.heap.size = g := q; rw [q]; rfl)) (.int .u8 (x ^^^ turn).toNat)).drew.drew)
      simp only [← HKK.out] at HV4
      clear HV2 HZ2 d0 d1 HKK cl fl ct
      generalize (W2.setCell ⟨g, m - 1, none⟩ (.int .u8 (x ^^^ turn).toNat)).drew.drew = W4 at *
      have HZ4n := hd (HV4.out.parts.row0.not_blk HZ4.out (by decide))
      have d0 : W4.cell? ⟨b, 0, none⟩ = some (.slice A s.s0.length k) := HV4.out.parts.blk.cell 0
      have d1 : W4.cell? ⟨b, 1, none⟩ = some (.slice (some ⟨g, 0, none⟩) m l) := HV4.out.parts.blk.cell 1
      have hkl := RS.kept_length s.r0 k0 turn
      go_upto_region 11 with (fail)
      go_region_law (refine step_append_row rfl (.tmp 67) (.tmp 71) 72 5 (.int .u8 0) 1 rfl Tryz.underlying72 Tryz.u8info rfl (.slice A s.s0.length k) (.slice (some ⟨g, 0, none⟩) m l) (u8s s.s0) (u8s (RS.kept s.r0 k0 turn)) rfl rfl HV4.out.parts.row0.drew HV4.out.parts.row1.drew (u8s_oneCell _) (by simp only [u8s_length]; omega) (by simp only [u8s_length]; omega) ?_; intro v' w' hrow hg hat; obtain ⟨A', k', rfl⟩ := hrow.form; have c' : w'.cell? ⟨b, 0, none⟩ = some (.slice A s.s0.length k) := (HV4.out.parts.blk.drew.grown hg HV4.out.parts.apart.b0).cell 0; have f' := (HV4.out.parts.blk.drew.grown hg HV4.out.parts.apart.b0).frozen 0; have d' : w'.cell? ⟨b, 1, none⟩ = some (.slice (some ⟨g, 0, none⟩) m l) := (HV4.out.parts.blk.drew.grown hg HV4.out.parts.apart.b0).cell 1; have g' := (HV4.out.parts.blk.drew.grown hg HV4.out.parts.apart.b0).frozen 1; have HH := hd (And.intro hrow (And.intro hg hat)); clear hrow hg hat)
      all_goals
        clear d0 d1 c' f' d' g'
        rw [← u8s_append] at HH
        simp only [← u8s_append, ← List.length_append]
        have HX := hd ((HV4.out.drew.put0 HH.out.2.1 HH.out.1 HH.out.2.2).cut1 (l := []) (.slice none 0 0) (Row.nil _ _) (.inl rfl))
        have HY := hd (((HZ4.out.drew.grown HH.out.2.1 HZ4n.out).other (p := ⟨b, 0, none⟩) (by intro q; have : w.heap.size = b := q; omega) (.slice A' (u8s (s.s0 ++ RS.kept s.r0 k0 turn)).length k')).other (p := ⟨b, 1, none⟩) (by intro q; have : w.heap.size = b := q; omega) (.slice none 0 0))
        try rw [setCell_swap _ ⟨b, 1, none⟩ ⟨b, 0, none⟩ _ _ (.inr ⟨rfl, rfl, by decide⟩)]
        go_wp2
        all_goals
          go_meet
          exact ⟨⟨_, _, _, _, HX.out⟩, HY.out, by omega, by omega⟩
  clear HV HZ
  clear W
  obtain ⟨⟨v0, v1, v2, v3, U⟩, HZ2, hne, hge⟩ := hcut
  have HV := hd U
  have HZ := hd HZ2
  clear U HZ2 hne hge
  obtain ⟨W, rfl⟩ : ∃ W, W = wc := ⟨_, rfl⟩
  go_wp2_with (fail)
  rw [rounds_succ]
  go_upto_block 1 with (fail)
  go_cut [] (fun wx => CrashAt fp w b (s.crash k0 k1 turn) w.heap.size [.int .i64 k0, .int .i64 k1, .int .u8 turn.toNat] wx)
  case first =>
    obtain ⟨A, k, rfl, hk⟩ := HV.out.parts.row2.small2
    obtain ⟨B, l, rfl, hl⟩ := HV.out.parts.row3.small2
    have d0 : W.cell? ⟨b, 2, none⟩ = some (.slice A s.s1.length k) := HV.out.parts.blk.cell 2
    have d1 : W.cell? ⟨b, 3, none⟩ = some (.slice B s.r1.length l) := HV.out.parts.blk.cell 3
    have f1 := HV.out.parts.blk.frozen 3
    have m1 := keep_le s.r1 k1
    have g1 := keep_if s.r1 k1
    have HK := hd (RS.kept_eq s.r1 k1 turn)
    have hsm := HO.out.small
    generalize RS.keepn s.r1 k1 = m at *
    go_wp2
    go_region
    have HV2 := hd (HV.out.take3 rfl m1)
    have HZ2 := hd (HZ.out.other (p := ⟨b, 3, none⟩) (by intro q; have : w.heap.size = b := q; omega) (.slice B m l))
    clear HV f1 g1 d0 d1 HZ
    generalize W.setCell ⟨b, 3, none⟩ (.slice B m l) = W2 at *
    have d0 : W2.cell? ⟨b, 2, none⟩ = some (.slice A s.s1.length k) := HV2.out.parts.blk.cell 2
    have d1 : W2.cell? ⟨b, 3, none⟩ = some (.slice B m l) := HV2.out.parts.blk.cell 3
    by_cases hm : m = 0
    · subst hm
      have HV4 := hd (HV2.out.drew)
      rw [show s.r1.take 0 = RS.kept s.r1 k1 turn from by rw [HK.out]; simp] at HV4
      have HZ4 := hd HZ2.out.drew
      clear HV2 HZ2 d0 d1 HK
      generalize W2.drew = W4 at *

      have HZ4n := hd (HV4.out.parts.row2.not_blk HZ4.out (by decide))
      have d0 : W4.cell? ⟨b, 2, none⟩ = some (.slice A s.s1.length k) := HV4.out.parts.blk.cell 2
      have d1 : W4.cell? ⟨b, 3, none⟩ = some (.slice B 0 l) := HV4.out.parts.blk.cell 3
      have hkl := RS.kept_length s.r1 k1 turn
      go_upto_region 11 with (fail)
      go_region_law (refine step_append_row rfl (.tmp 67) (.tmp 71) 72 5 (.int .u8 0) 1 rfl Tryz.underlying72 Tryz.u8info rfl (.slice A s.s1.length k) (.slice B 0 l) (u8s s.s1) (u8s (RS.kept s.r1 k1 turn)) rfl rfl HV4.out.parts.row2.drew HV4.out.parts.row3.drew (u8s_oneCell _) (by simp only [u8s_length]; omega) (by simp only [u8s_length]; omega) ?_; intro v' w' hrow hg hat; obtain ⟨A', k', rfl⟩ := hrow.form; have c' : w'.cell? ⟨b, 2, none⟩ = some (.slice A s.s1.length k) := (HV4.out.parts.blk.drew.grown hg HV4.out.parts.apart.b2).cell 2; have f' := (HV4.out.parts.blk.drew.grown hg HV4.out.parts.apart.b2).frozen 2; have d' : w'.cell? ⟨b, 3, none⟩ = some (.slice B 0 l) := (HV4.out.parts.blk.drew.grown hg HV4.out.parts.apart.b2).cell 3; have g' := (HV4.out.parts.blk.drew.grown hg HV4.out.parts.apart.b2).frozen 3; have HH := hd (And.intro hrow (And.intro hg hat)); clear hrow hg hat)
      all_goals
        clear d0 d1 c' f' d' g'
        rw [← u8s_append] at HH
        simp only [← u8s_append, ← List.length_append]
        have HX := hd ((HV4.out.drew.put2 HH.out.2.1 HH.out.1 HH.out.2.2).cut3 (l := []) (.slice none 0 0) (Row.nil _ _) (.inl rfl))
        have HY := hd (((HZ4.out.drew.grown HH.out.2.1 HZ4n.out).other (p := ⟨b, 2, none⟩) (by intro q; have : w.heap.size = b := q; omega) (.slice A' (u8s (s.s1 ++ RS.kept s.r1 k1 turn)).length k')).other (p := ⟨b, 3, none⟩) (by intro q; have : w.heap.size = b := q; omega) (.slice none 0 0))
        try rw [setCell_swap _ ⟨b, 3, none⟩ ⟨b, 2, none⟩ _ _ (.inr ⟨rfl, rfl, by decide⟩)]
        go_wp2
        all_goals
          go_meet
          exact ⟨⟨_, _, _, _, HX.out⟩, HY.out, by omega, by omega⟩
    · have hm' : 0 < m := by omega
      have hlen : (s.r1.take m).length = m := by simp; omega
      obtain ⟨g, hg, hcell, hfz⟩ : ∃ g, B = some ⟨g, 0, none⟩ ∧ (∀ j u, (u8s (s.r1.take m))[j]? = some u → W2.cell? ⟨g, j, none⟩ = some u) ∧ (∀ j, W2.frozen? ⟨g, j, none⟩ = false) := by
        rcases HV2.out.parts.row3.nil_or with ⟨q, q2⟩ | ⟨g, cap, q, _, _, hcell, hfz⟩
        · injection q with q; omega
        · injection q with q; exact ⟨g, q, hcell, hfz⟩
      subst hg
      have cl : W2.cell? ⟨g, m - 1, none⟩ = some (.int .u8 ((s.r1.take m).getD (m - 1) 0).toNat) := hcell _ _ (u8s_get _ _ (by omega))
      have fl := hfz (m - 1)
      have ct : W2.cell? ⟨w.heap.size, 2, none⟩ = some (.int .u8 turn.toNat) := HZ2.out.cell 2
      have hkk : RS.kept s.r1 k1 turn = (s.r1.take m).set (m - 1) ((s.r1.take m).getD (m - 1) 0 ^^^ turn) := by rw [HK.out, hlen, if_neg hm]
      clear hcell hfz
      generalize (s.r1.take m).getD (m - 1) 0 = x at *
      have HKK := hd hkk
      clear hkk hlen HK
      go_upto_region 10 with (fail)
      go_region
      rw [xor_byte]
      have HV4 := hd ((HV2.out.poke3 rfl (m - 1) (x ^^^ turn)).drew.drew)
      have HZ4 := hd ((HZ2.out.other (p := ⟨g, m - 1, none⟩) (fun q => HV2.out.parts.row3.not_blk HZ2.out (by decide) (by have q : w.heap.size = g := q; rw [q]; rfl)) (.int .u8 (x ^^^ turn).toNat)).drew.drew)
      simp only [← HKK.out] at HV4
      clear HV2 HZ2 d0 d1 HKK cl fl ct
      generalize (W2.setCell ⟨g, m - 1, none⟩ (.int .u8 (x ^^^ turn).toNat)).drew.drew = W4 at *
      have HZ4n := hd (HV4.out.parts.row2.not_blk HZ4.out (by decide))
      have d0 : W4.cell? ⟨b, 2, none⟩ = some (.slice A s.s1.length k) := HV4.out.parts.blk.cell 2
      have d1 : W4.cell? ⟨b, 3, none⟩ = some (.slice (some ⟨g, 0, none⟩) m l) := HV4.out.parts.blk.cell 3
      have hkl := RS.kept_length s.r1 k1 turn
      go_upto_region 11 with (fail)
      go_region_law (refine step_append_row rfl (.tmp 67) (.tmp 71) 72 5 (.int .u8 0) 1 rfl Tryz.underlying72 Tryz.u8info rfl (.slice A s.s1.length k) (.slice (some ⟨g, 0, none⟩) m l) (u8s s.s1) (u8s (RS.kept s.r1 k1 turn)) rfl rfl HV4.out.parts.row2.drew HV4.out.parts.row3.drew (u8s_oneCell _) (by simp only [u8s_length]; omega) (by simp only [u8s_length]; omega) ?_; intro v' w' hrow hg hat; obtain ⟨A', k', rfl⟩ := hrow.form; have c' : w'.cell? ⟨b, 2, none⟩ = some (.slice A s.s1.length k) := (HV4.out.parts.blk.drew.grown hg HV4.out.parts.apart.b2).cell 2; have f' := (HV4.out.parts.blk.drew.grown hg HV4.out.parts.apart.b2).frozen 2; have d' : w'.cell? ⟨b, 3, none⟩ = some (.slice (some ⟨g, 0, none⟩) m l) := (HV4.out.parts.blk.drew.grown hg HV4.out.parts.apart.b2).cell 3; have g' := (HV4.out.parts.blk.drew.grown hg HV4.out.parts.apart.b2).frozen 3; have HH := hd (And.intro hrow (And.intro hg hat)); clear hrow hg hat)
      all_goals
        clear d0 d1 c' f' d' g'
        rw [← u8s_append] at HH
        simp only [← u8s_append, ← List.length_append]
        have HX := hd ((HV4.out.drew.put2 HH.out.2.1 HH.out.1 HH.out.2.2).cut3 (l := []) (.slice none 0 0) (Row.nil _ _) (.inl rfl))
        have HY := hd (((HZ4.out.drew.grown HH.out.2.1 HZ4n.out).other (p := ⟨b, 2, none⟩) (by intro q; have : w.heap.size = b := q; omega) (.slice A' (u8s (s.s1 ++ RS.kept s.r1 k1 turn)).length k')).other (p := ⟨b, 3, none⟩) (by intro q; have : w.heap.size = b := q; omega) (.slice none 0 0))
        try rw [setCell_swap _ ⟨b, 3, none⟩ ⟨b, 2, none⟩ _ _ (.inr ⟨rfl, rfl, by decide⟩)]
        go_wp2
        all_goals
          go_meet
          exact ⟨⟨_, _, _, _, HX.out⟩, HY.out, by omega, by omega⟩
  clear HV HZ
  clear W
  obtain ⟨⟨v0, v1, v2, v3, U⟩, HZ2, hne, hge⟩ := hcut
  have HV := hd U
  have HZ := hd HZ2
  clear U HZ2 hne hge
  obtain ⟨W, rfl⟩ : ∃ W, W = wc := ⟨_, rfl⟩
  go_wp2_with (fail)
  rw [rounds_succ]
  go_wp2
  go_end0
  exact ⟨rfl, HV.out.post (HO.out.crash k0 k1 turn)⟩
end Go.Proofs.YtopajmbblemopaaGreatDoor
namespace Go.Proofs.YtopajmbblemopaaGreatDoor
set_option linter.unusedVariables false
set_option linter.unusedSimpArgs false
open Go.RowKit

/-- The law began in w0; since then it has made this reel, and changed nothing that there was. -/
structure Mine (w0 w : World) (b : Nat) (s : RS) : Prop where
  below : Below w0.heap.size w0 w
  at_ : ∃ fp, ReelAt w b s fp ∧ ∀ k ∈ fp, w0.heap.size ≤ k

theorem Mine.drewN {w0 w : World} {b : Nat} {s : RS} (h : Mine w0 w b s) (n : Nat) : Mine w0 (w.drewN n) b s := by
  obtain ⟨hb, fp, ⟨ho, v0, v1, v2, v3, hp, hfp⟩, hf⟩ := h
  exact ⟨⟨hb.os, hb.tape, hb.output, hb.size, hb.block⟩, fp, ⟨ho, v0, v1, v2, v3, hp.drewN n, hfp⟩, hf⟩
theorem Mine.of_drawn {w0 w w' : World} {b : Nat} {s : RS} (h : Mine w0 w b s) (hd : Drawn w w') : Mine w0 w' b s := by
  obtain ⟨n, rfl⟩ := hd
  exact h.drewN n
theorem Mine.next {w0 w w' : World} {b : Nat} {s' : RS} {fp : List Nat} (hb : Below w0.heap.size w0 w) (hf : ∀ k ∈ fp, w0.heap.size ≤ k) (h : RPost w b fp s' w') : Mine w0 w' b s' := by
  obtain ⟨fp', hR, hC, hF⟩ := h
  have hs := hb.size
  refine ⟨hb.trans (hC.below hs hf), fp', hR, fun k hk => ?_⟩
  rcases hF k hk with q | q
  · exact hf k q
  · omega
theorem Mine.ok {w0 w : World} {b : Nat} {s : RS} (h : Mine w0 w b s) : s.Ok := by
  obtain ⟨hb, fp, hR, hf⟩ := h
  exact hR.1

theorem Mine.new (room : Int) (w0 w : World) (hb : Below w0.heap.size w0 w) (h0 : 0 ≤ room) (h1 : room ≤ 4194304) :
    Calls Tryz.prog 11 #[.int .i64 room] w fun e w' => ∃ b, e = .returned (.tuple #[.pointer (some ⟨b, 0, none⟩), .int .i64 0]) ∧ Mine w0 w' b (RS.new room) := by
  refine (new_any room w h0 h1).mono ?_
  rintro e w' ⟨b, fp, rfl, hR, hC, hf⟩
  have hs := hb.size
  exact ⟨b, rfl, hb.trans (hC.below hs (fun _ q => q.elim)), fp, hR, fun k hk => by have := hf k hk; omega⟩
theorem Mine.write {w0 w : World} {b : Nat} {s : RS} (h : Mine w0 w b s) (t : Int) (q : ByteArray) (s' : RS) (e : Int) (he : s.write t q.data.toList = (s', e)) (hq : (q.size : Int) ≤ 4194304) :
    Calls Tryz.prog 59 #[.pointer (some ⟨b, 0, none⟩), .int .i64 t, .string q] w fun r w' => r = .returned (.int .i64 e) ∧ Mine w0 w' b s' := by
  obtain ⟨hb, fp, hR, hf⟩ := h
  refine (write_any b t s fp w q hR hq).mono ?_
  rintro r w' ⟨rfl, hp⟩
  rw [he] at hp ⊢
  exact ⟨rfl, Mine.next hb hf hp⟩
theorem Mine.sync {w0 w : World} {b : Nat} {s : RS} (h : Mine w0 w b s) (t : Int) (s' : RS) (e : Int) (he : s.sync t = (s', e)) :
    Calls Tryz.prog 62 #[.pointer (some ⟨b, 0, none⟩), .int .i64 t] w fun r w' => r = .returned (.int .i64 e) ∧ Mine w0 w' b s' := by
  obtain ⟨hb, fp, hR, hf⟩ := h
  refine (sync_any b t s fp w hR).mono ?_
  rintro r w' ⟨rfl, hp⟩
  rw [he] at hp ⊢
  exact ⟨rfl, Mine.next hb hf hp⟩
theorem Mine.wipe {w0 w : World} {b : Nat} {s : RS} (h : Mine w0 w b s) (t : Int) (s' : RS) (e : Int) (he : s.wipe t = (s', e)) :
    Calls Tryz.prog 56 #[.pointer (some ⟨b, 0, none⟩), .int .i64 t] w fun r w' => r = .returned (.int .i64 e) ∧ Mine w0 w' b s' := by
  obtain ⟨hb, fp, hR, hf⟩ := h
  refine (wipe_any b t s fp w hR).mono ?_
  rintro r w' ⟨rfl, hp⟩
  rw [he] at hp ⊢
  exact ⟨rfl, Mine.next hb hf hp⟩
theorem Mine.trim {w0 w : World} {b : Nat} {s : RS} (h : Mine w0 w b s) (t n : Int) (s' : RS) (e : Int) (he : s.trim t n = (s', e)) :
    Calls Tryz.prog 64 #[.pointer (some ⟨b, 0, none⟩), .int .i64 t, .int .i64 n] w fun r w' => r = .returned (.int .i64 e) ∧ Mine w0 w' b s' := by
  obtain ⟨hb, fp, hR, hf⟩ := h
  refine (trim_any b t n s fp w hR).mono ?_
  rintro r w' ⟨rfl, hp⟩
  rw [he] at hp ⊢
  exact ⟨rfl, Mine.next hb hf hp⟩
theorem Mine.crash {w0 w : World} {b : Nat} {s : RS} (h : Mine w0 w b s) (k0 k1 : Int) (turn : UInt8) (v : Value) (hv : v = .agg #[.int .i64 k0, .int .i64 k1, .int .u8 turn.toNat]) (s' : RS) (he : s.crash k0 k1 turn = s') :
    Calls Tryz.prog 22 #[.pointer (some ⟨b, 0, none⟩), v] w fun r w' => r = .returned (.tuple #[]) ∧ Mine w0 w' b s' := by
  obtain ⟨hb, fp, hR, hf⟩ := h
  subst hv
  subst he
  refine (crash_any b k0 k1 turn s fp w hR).mono ?_
  rintro r w' ⟨rfl, hp⟩
  exact ⟨rfl, Mine.next hb hf hp⟩
theorem Mine.arm {w0 w : World} {b : Nat} {s : RS} (h : Mine w0 w b s) (n : Int) (s' : RS) (he : s.arm n = s') (h0 : -9223372036854775808 ≤ n) (h1 : n ≤ 9223372036854775807) :
    Calls Tryz.prog 25 #[.pointer (some ⟨b, 0, none⟩), .int .i64 n] w fun r w' => r = .returned (.tuple #[]) ∧ Mine w0 w' b s' := by
  obtain ⟨hb, fp, hR, hf⟩ := h
  subst he
  refine (arm_any b n s fp w hR h0 h1).mono ?_
  rintro r w' ⟨rfl, hp⟩
  exact ⟨rfl, Mine.next hb hf hp⟩
theorem Mine.read {w0 w : World} {b : Nat} {s : RS} (h : Mine w0 w b s) (t : Int) (l : List UInt8) (e : Int) (he : s.read t = (l, e)) :
    Calls Tryz.prog 52 #[.pointer (some ⟨b, 0, none⟩), .int .i64 t] w fun r w' => r = .returned (.tuple #[.string (str l), .int .i64 e]) ∧ Mine w0 w' b s := by
  obtain ⟨hb, fp, hR, hf⟩ := h
  refine (read_any b t s fp w hR).mono ?_
  rintro r w' ⟨rfl, hp⟩
  rw [he]
  exact ⟨rfl, Mine.of_drawn ⟨hb, fp, hR, hf⟩ hp⟩
theorem Mine.free {w0 w : World} {b : Nat} {s : RS} (h : Mine w0 w b s) (n : Int) (he : s.free = n) :
    Calls Tryz.prog 85 #[.pointer (some ⟨b, 0, none⟩)] w fun r w' => r = .returned (.int .i64 n) ∧ Mine w0 w' b s := by
  obtain ⟨hb, fp, hR, hf⟩ := h
  subst he
  refine (free_any b s fp w hR).mono ?_
  rintro r w' ⟨rfl, hp⟩
  exact ⟨rfl, Mine.of_drawn ⟨hb, fp, hR, hf⟩ hp⟩
end Go.Proofs.YtopajmbblemopaaGreatDoor
