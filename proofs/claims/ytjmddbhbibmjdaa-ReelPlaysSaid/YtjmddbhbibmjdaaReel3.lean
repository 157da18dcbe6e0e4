/-
  Write, Sync, Wipe.
-/
import Derived.Test.YtjmddbhbibmjdaaReel2
namespace Go.Proofs.Ytjmddbhbibmjdaa
set_option linter.unusedVariables false
set_option linter.unusedSimpArgs false
open Go.RowKit

theorem Try.u8info : (Try.prog.info? 5).map (fun i => (i.zero, i.size, i.bytes)) = some (some (.int .u8 0), 1, 1) := by kernel_rfl

theorem drawn_chg {w w' : World} (h : Drawn w w') (S : Nat → Prop) : Chg S w w' := by
  obtain ⟨n, rfl⟩ := h
  exact (Chg.refl S w).drewN n
theorem RParts.drewN {w : World} {b : Nat} {s : RS} {v0 v1 v2 v3 : Value} (h : RParts w b s v0 v1 v2 v3) (n : Nat) : RParts (w.drewN n) b s v0 v1 v2 v3 :=
  ⟨h.blk, h.row0, h.row1, h.row2, h.row3, h.apart⟩



/-- Where a row's block is now: nowhere, where it was, or in a block that is new. -/
def At (size n : Nat) (v v' : Value) : Prop := v'.ownBlock = none ∨ v'.ownBlock = v.ownBlock ∨ (v'.ownBlock = some n ∧ size ≤ n)
theorem At.same (size n : Nat) (v : Value) : At size n v v := .inr (.inl rfl)
theorem At.nil (size n : Nat) (v : Value) : At size n v (.slice none 0 0) := .inl rfl
theorem At.of {size : Nat} {v v' : Value} (h : v'.ownBlock = v.ownBlock ∨ v'.ownBlock = some size) : At size size v v' := by
  rcases h with h | h
  · exact .inr (.inl h)
  · exact .inr (.inr ⟨h, Nat.le_refl _⟩)
theorem At.ne {size n m : Nat} {v v' x x' : Value} (h : At size n v v') (k : At size m x x') (hnm : n ≠ m) (hv : ∀ g, v.ownBlock = some g → g < size) (hx : ∀ g, x.ownBlock = some g → g < size) (hne : Ne2 v.ownBlock x.ownBlock) : Ne2 v'.ownBlock x'.ownBlock := by
  intro g hg hg'
  rcases h with h | h | ⟨h, hs⟩ <;> rw [h] at hg
  · cases hg
  · rcases k with k | k | ⟨k, ks⟩ <;> rw [k] at hg'
    · cases hg'
    · exact hne g hg hg'
    · injection hg' with hg'; have := hv g hg; omega
  · injection hg with hg
    rcases k with k | k | ⟨k, ks⟩ <;> rw [k] at hg'
    · cases hg'
    · have := hx g hg'; omega
    · injection hg' with hg'; omega
theorem At.ne_b {size n b : Nat} {v v' : Value} (h : At size n v v') (hb : b < size) (hv : v.ownBlock ≠ some b) : v'.ownBlock ≠ some b := by
  rcases h with h | h | ⟨h, hs⟩ <;> rw [h]
  · intro q; cases q
  · exact hv
  · intro q; injection q with q; omega
theorem At.mem {size n : Nat} {v v' : Value} (h : At size n v v') {k : Nat} (hk : v'.ownBlock = some k) : v.ownBlock = some k ∨ size ≤ k := by
  rcases h with h | h | ⟨h, hs⟩ <;> rw [h] at hk
  · cases hk
  · exact .inl hk
  · injection hk with hk; right; omega

theorem RFoot_mono {b size n0 n1 n2 n3 : Nat} {v0 v1 v2 v3 u0 u1 u2 u3 : Value} (a0 : At size n0 v0 u0) (a1 : At size n1 v1 u1) (a2 : At size n2 v2 u2) (a3 : At size n3 v3 u3) :
    ∀ k ∈ RFoot b u0 u1 u2 u3, k ∈ RFoot b v0 v1 v2 v3 ∨ size ≤ k := by
  intro k hk
  rcases mem_RFoot.1 hk with q | q | q | q | q
  · exact .inl (mem_RFoot.2 (by simp [q]))
  · exact (a0.mem q).imp (fun q => mem_RFoot.2 (by simp [q])) id
  · exact (a1.mem q).imp (fun q => mem_RFoot.2 (by simp [q])) id
  · exact (a2.mem q).imp (fun q => mem_RFoot.2 (by simp [q])) id
  · exact (a3.mem q).imp (fun q => mem_RFoot.2 (by simp [q])) id

/-- The reel in the middle of a call that began in w. -/
structure RUp (fp : List Nat) (w : World) (b : Nat) (s : RS) (w1 : World) (v0 v1 v2 v3 : Value) : Prop where
  parts : RParts w1 b s v0 v1 v2 v3
  chg : Chg (· ∈ fp) w w1
  foot : ∀ k ∈ RFoot b v0 v1 v2 v3, k ∈ fp ∨ w.heap.size ≤ k

theorem RUp.post {fp : List Nat} {w w1 : World} {b : Nat} {s : RS} {v0 v1 v2 v3 : Value} (h : RUp fp w b s w1 v0 v1 v2 v3) (hok : s.Ok) : RPost w b fp s w1 := ⟨_, ⟨hok, v0, v1, v2, v3, h.parts, rfl⟩, h.chg, h.foot⟩
theorem RPost.up {fp : List Nat} {w w1 : World} {b : Nat} {s : RS} (h : RPost w b fp s w1) : s.Ok ∧ ∃ v0 v1 v2 v3, RUp fp w b s w1 v0 v1 v2 v3 := by
  obtain ⟨fp1, ⟨ho, v0, v1, v2, v3, hp, rfl⟩, hc, hf⟩ := h
  exact ⟨ho, v0, v1, v2, v3, hp, hc, hf⟩
theorem ReelAt.up {fp : List Nat} {w : World} {b : Nat} {s : RS} (h : ReelAt w b s fp) : s.Ok ∧ ∃ v0 v1 v2 v3, RUp fp w b s w v0 v1 v2 v3 := by
  obtain ⟨ho, v0, v1, v2, v3, hp, rfl⟩ := h
  exact ⟨ho, v0, v1, v2, v3, hp, Chg.refl _ _, fun _ hk => .inl hk⟩
theorem RUp.at {fp : List Nat} {w w1 : World} {b : Nat} {s : RS} {v0 v1 v2 v3 : Value} (h : RUp fp w b s w1 v0 v1 v2 v3) (hok : s.Ok) : ReelAt w1 b s (RFoot b v0 v1 v2 v3) := ⟨hok, _, _, _, _, h.parts, rfl⟩
theorem RUp.drewN {fp : List Nat} {w w1 : World} {b : Nat} {s : RS} {v0 v1 v2 v3 : Value} (h : RUp fp w b s w1 v0 v1 v2 v3) (n : Nat) : RUp fp w b s (w1.drewN n) v0 v1 v2 v3 := ⟨h.parts.drewN n, h.chg.drewN n, h.foot⟩
theorem RUp.drew {fp : List Nat} {w w1 : World} {b : Nat} {s : RS} {v0 v1 v2 v3 : Value} (h : RUp fp w b s w1 v0 v1 v2 v3) : RUp fp w b s w1.drew v0 v1 v2 v3 := h.drewN 1
theorem RUp.mem {fp : List Nat} {w w1 : World} {b : Nat} {s : RS} {v0 v1 v2 v3 : Value} (h : RUp fp w b s w1 v0 v1 v2 v3) : b ∈ fp ∨ w.heap.size ≤ b := h.foot b (by simp [RFoot])
/-- Behind a call of another function that leaves the reel's blocks alone. -/
theorem RUp.tick {fp : List Nat} {w w1 : World} {b : Nat} {s : RS} {v0 v1 v2 v3 : Value} (h : RUp fp w b s w1 v0 v1 v2 v3) : RUp fp w b s.tick (w1.setCell ⟨b, 7, none⟩ (.int .i64 (wrap64 (s.ops + 1)))) v0 v1 v2 v3 :=
  ⟨h.parts.num (s' := s.tick) 7 _ rfl ⟨rfl, rfl, rfl, rfl⟩, h.chg.setCell h.mem _, h.foot⟩

theorem RPost.drewN {w w' : World} {b : Nat} {fp : List Nat} {s : RS} (h : RPost w b fp s w') (n : Nat) : RPost w b fp s (w'.drewN n) := by
  obtain ⟨ho, v0, v1, v2, v3, U⟩ := h.up
  exact (U.drewN n).post ho

/-- What has become of a reel: its cells, its rows, where they are. -/
theorem RUp.upd {fp : List Nat} {w0 w w' : World} {b : Nat} {s s' : RS} {v0 v1 v2 v3 u0 u1 u2 u3 : Value} (H : RUp fp w0 b s w v0 v1 v2 v3) (hblk : Blk w' b (RCells u0 u1 u2 u3 s') 63)
    (r0 : Row w' 5 u0 (u8s s'.s0)) (r1 : Row w' 5 u1 (u8s s'.r0)) (r2 : Row w' 5 u2 (u8s s'.s1)) (r3 : Row w' 5 u3 (u8s s'.r1)) (n0 n1 n2 n3 : Nat)
    (hn : n0 ≠ n1 ∧ n0 ≠ n2 ∧ n0 ≠ n3 ∧ n1 ≠ n2 ∧ n1 ≠ n3 ∧ n2 ≠ n3) (a0 : At w.heap.size n0 v0 u0) (a1 : At w.heap.size n1 v1 u1) (a2 : At w.heap.size n2 v2 u2) (a3 : At w.heap.size n3 v3 u3)
    (hc : Chg (· ∈ RFoot b v0 v1 v2 v3) w w') : RUp fp w0 b s' w' u0 u1 u2 u3 := by
  have h := H.parts
  have ha := h.apart
  have l0 := fun k => h.row0.lt (k := k)
  have l1 := fun k => h.row1.lt (k := k)
  have l2 := fun k => h.row2.lt (k := k)
  have l3 := fun k => h.row3.lt (k := k)
  obtain ⟨d01, d02, d03, d12, d13, d23⟩ := hn
  refine ⟨⟨hblk, r0, r1, r2, r3, ⟨a0.ne_b h.blk.lt ha.b0, a1.ne_b h.blk.lt ha.b1, a2.ne_b h.blk.lt ha.b2, a3.ne_b h.blk.lt ha.b3, a0.ne a1 d01 l0 l1 ha.a01, a0.ne a2 d02 l0 l2 ha.a02, a0.ne a3 d03 l0 l3 ha.a03, a1.ne a2 d12 l1 l2 ha.a12, a1.ne a3 d13 l1 l3 ha.a13, a2.ne a3 d23 l2 l3 ha.a23⟩⟩, H.chg.trans hc (fun i hi => H.foot i hi), ?_⟩
  intro k hk
  rcases RFoot_mono a0 a1 a2 a3 k hk with q | q
  · exact H.foot k q
  · exact .inr (Nat.le_trans H.chg.size q)

theorem Apart.ne {b : Nat} {v0 v1 v2 v3 : Value} (h : Apart b v0 v1 v2 v3) : Ne2 v1.ownBlock v0.ownBlock ∧ Ne2 v2.ownBlock v0.ownBlock ∧ Ne2 v3.ownBlock v0.ownBlock ∧ Ne2 v2.ownBlock v1.ownBlock ∧ Ne2 v3.ownBlock v1.ownBlock ∧ Ne2 v3.ownBlock v2.ownBlock :=
  ⟨fun k p q => h.a01 k q p, fun k p q => h.a02 k q p, fun k p q => h.a03 k q p, fun k p q => h.a12 k q p, fun k p q => h.a13 k q p, fun k p q => h.a23 k q p⟩

/-- Row 0 was appended to, in w1; its value is stored. -/
theorem RUp.put0 {fp : List Nat} {w0 w w1 : World} {b : Nat} {s : RS} {v0 v1 v2 v3 v' : Value} {l : List UInt8} (H : RUp fp w0 b s w v0 v1 v2 v3) (hg : w.grownBy w1 v0.ownBlock) (hr : Row w1 5 v' (u8s l))
    (hat : v'.ownBlock = v0.ownBlock ∨ v'.ownBlock = some w.heap.size) : RUp fp w0 b { s with s0 := l } (w1.setCell ⟨b, 0, none⟩ v') v' v1 v2 v3 := by
  have h := H.parts
  have ha := h.apart
  have hb := h.blk.lt
  obtain ⟨e10, e20, e30, e21, e31, e32⟩ := ha.ne
  have e01 := ha.a01
  have e02 := ha.a02
  have e03 := ha.a03
  have e12 := ha.a12
  have e13 := ha.a13
  have e23 := ha.a23
  have b0 := ha.b0
  have b1 := ha.b1
  have b2 := ha.b2
  have b3 := ha.b3
  have hb' := (At.of hat).ne_b hb ha.b0
  have hc : Chg (· ∈ RFoot b v0 v1 v2 v3) w (w1.setCell ⟨b, 0, none⟩ v') := ((Chg.refl _ w).grown hg (fun k q => .inl (mem_RFoot.2 (by simp [q])))).setCell (.inl (by simp [RFoot])) _
  refine H.upd ((h.blk.grown hg ha.b0).set 0 v') ?_ ?_ ?_ ?_ (w.heap.size) (w.heap.size + 1) (w.heap.size + 2) (w.heap.size + 3) (by omega) ?_ ?_ ?_ ?_ hc
  all_goals first
    | exact At.same _ _ _
    | exact At.of hat
    | exact hr.other hb' _
    | exact (h.row0.grown hg (by assumption)).other ha.b0 _
    | exact (h.row1.grown hg (by assumption)).other ha.b1 _
    | exact (h.row2.grown hg (by assumption)).other ha.b2 _
    | exact (h.row3.grown hg (by assumption)).other ha.b3 _
/-- Row 0 is cut at its front. -/
theorem RUp.cut0 {fp : List Nat} {w0 w : World} {b : Nat} {s : RS} {v0 v1 v2 v3 : Value} {l : List UInt8} (H : RUp fp w0 b s w v0 v1 v2 v3) (v' : Value) (hr : Row w 5 v' (u8s l))
    (hat : v'.ownBlock = none ∨ v'.ownBlock = v0.ownBlock) : RUp fp w0 b { s with s0 := l } (w.setCell ⟨b, 0, none⟩ v') v' v1 v2 v3 := by
  have h := H.parts
  have ha := h.apart
  have hA : At w.heap.size w.heap.size v0 v' := hat.imp id .inl
  have hb' := hA.ne_b h.blk.lt ha.b0
  have hc : Chg (· ∈ RFoot b v0 v1 v2 v3) w (w.setCell ⟨b, 0, none⟩ v') := (Chg.refl _ w).setCell (.inl (by simp [RFoot])) _
  refine H.upd (h.blk.set 0 v') ?_ ?_ ?_ ?_ (w.heap.size) (w.heap.size + 1) (w.heap.size + 2) (w.heap.size + 3) (by omega) ?_ ?_ ?_ ?_ hc
  all_goals first
    | exact At.same _ _ _
    | exact hA
    | exact hr.other hb' _
    | exact h.row0.other ha.b0 _
    | exact h.row1.other ha.b1 _
    | exact h.row2.other ha.b2 _
    | exact h.row3.other ha.b3 _
/-- Row 1 was appended to, in w1; its value is stored. -/
theorem RUp.put1 {fp : List Nat} {w0 w w1 : World} {b : Nat} {s : RS} {v0 v1 v2 v3 v' : Value} {l : List UInt8} (H : RUp fp w0 b s w v0 v1 v2 v3) (hg : w.grownBy w1 v1.ownBlock) (hr : Row w1 5 v' (u8s l))
    (hat : v'.ownBlock = v1.ownBlock ∨ v'.ownBlock = some w.heap.size) : RUp fp w0 b { s with r0 := l } (w1.setCell ⟨b, 1, none⟩ v') v0 v' v2 v3 := by
  have h := H.parts
  have ha := h.apart
  have hb := h.blk.lt
  obtain ⟨e10, e20, e30, e21, e31, e32⟩ := ha.ne
  have e01 := ha.a01
  have e02 := ha.a02
  have e03 := ha.a03
  have e12 := ha.a12
  have e13 := ha.a13
  have e23 := ha.a23
  have b0 := ha.b0
  have b1 := ha.b1
  have b2 := ha.b2
  have b3 := ha.b3
  have hb' := (At.of hat).ne_b hb ha.b1
  have hc : Chg (· ∈ RFoot b v0 v1 v2 v3) w (w1.setCell ⟨b, 1, none⟩ v') := ((Chg.refl _ w).grown hg (fun k q => .inl (mem_RFoot.2 (by simp [q])))).setCell (.inl (by simp [RFoot])) _
  refine H.upd ((h.blk.grown hg ha.b1).set 1 v') ?_ ?_ ?_ ?_ (w.heap.size + 1) (w.heap.size) (w.heap.size + 2) (w.heap.size + 3) (by omega) ?_ ?_ ?_ ?_ hc
  all_goals first
    | exact At.same _ _ _
    | exact At.of hat
    | exact hr.other hb' _
    | exact (h.row0.grown hg (by assumption)).other ha.b0 _
    | exact (h.row1.grown hg (by assumption)).other ha.b1 _
    | exact (h.row2.grown hg (by assumption)).other ha.b2 _
    | exact (h.row3.grown hg (by assumption)).other ha.b3 _
/-- Row 1 is cut at its front. -/
theorem RUp.cut1 {fp : List Nat} {w0 w : World} {b : Nat} {s : RS} {v0 v1 v2 v3 : Value} {l : List UInt8} (H : RUp fp w0 b s w v0 v1 v2 v3) (v' : Value) (hr : Row w 5 v' (u8s l))
    (hat : v'.ownBlock = none ∨ v'.ownBlock = v1.ownBlock) : RUp fp w0 b { s with r0 := l } (w.setCell ⟨b, 1, none⟩ v') v0 v' v2 v3 := by
  have h := H.parts
  have ha := h.apart
  have hA : At w.heap.size w.heap.size v1 v' := hat.imp id .inl
  have hb' := hA.ne_b h.blk.lt ha.b1
  have hc : Chg (· ∈ RFoot b v0 v1 v2 v3) w (w.setCell ⟨b, 1, none⟩ v') := (Chg.refl _ w).setCell (.inl (by simp [RFoot])) _
  refine H.upd (h.blk.set 1 v') ?_ ?_ ?_ ?_ (w.heap.size + 1) (w.heap.size) (w.heap.size + 2) (w.heap.size + 3) (by omega) ?_ ?_ ?_ ?_ hc
  all_goals first
    | exact At.same _ _ _
    | exact hA
    | exact hr.other hb' _
    | exact h.row0.other ha.b0 _
    | exact h.row1.other ha.b1 _
    | exact h.row2.other ha.b2 _
    | exact h.row3.other ha.b3 _
/-- Row 2 was appended to, in w1; its value is stored. -/
theorem RUp.put2 {fp : List Nat} {w0 w w1 : World} {b : Nat} {s : RS} {v0 v1 v2 v3 v' : Value} {l : List UInt8} (H : RUp fp w0 b s w v0 v1 v2 v3) (hg : w.grownBy w1 v2.ownBlock) (hr : Row w1 5 v' (u8s l))
    (hat : v'.ownBlock = v2.ownBlock ∨ v'.ownBlock = some w.heap.size) : RUp fp w0 b { s with s1 := l } (w1.setCell ⟨b, 2, none⟩ v') v0 v1 v' v3 := by
  have h := H.parts
  have ha := h.apart
  have hb := h.blk.lt
  obtain ⟨e10, e20, e30, e21, e31, e32⟩ := ha.ne
  have e01 := ha.a01
  have e02 := ha.a02
  have e03 := ha.a03
  have e12 := ha.a12
  have e13 := ha.a13
  have e23 := ha.a23
  have b0 := ha.b0
  have b1 := ha.b1
  have b2 := ha.b2
  have b3 := ha.b3
  have hb' := (At.of hat).ne_b hb ha.b2
  have hc : Chg (· ∈ RFoot b v0 v1 v2 v3) w (w1.setCell ⟨b, 2, none⟩ v') := ((Chg.refl _ w).grown hg (fun k q => .inl (mem_RFoot.2 (by simp [q])))).setCell (.inl (by simp [RFoot])) _
  refine H.upd ((h.blk.grown hg ha.b2).set 2 v') ?_ ?_ ?_ ?_ (w.heap.size + 1) (w.heap.size + 2) (w.heap.size) (w.heap.size + 3) (by omega) ?_ ?_ ?_ ?_ hc
  all_goals first
    | exact At.same _ _ _
    | exact At.of hat
    | exact hr.other hb' _
    | exact (h.row0.grown hg (by assumption)).other ha.b0 _
    | exact (h.row1.grown hg (by assumption)).other ha.b1 _
    | exact (h.row2.grown hg (by assumption)).other ha.b2 _
    | exact (h.row3.grown hg (by assumption)).other ha.b3 _
/-- Row 2 is cut at its front. -/
theorem RUp.cut2 {fp : List Nat} {w0 w : World} {b : Nat} {s : RS} {v0 v1 v2 v3 : Value} {l : List UInt8} (H : RUp fp w0 b s w v0 v1 v2 v3) (v' : Value) (hr : Row w 5 v' (u8s l))
    (hat : v'.ownBlock = none ∨ v'.ownBlock = v2.ownBlock) : RUp fp w0 b { s with s1 := l } (w.setCell ⟨b, 2, none⟩ v') v0 v1 v' v3 := by
  have h := H.parts
  have ha := h.apart
  have hA : At w.heap.size w.heap.size v2 v' := hat.imp id .inl
  have hb' := hA.ne_b h.blk.lt ha.b2
  have hc : Chg (· ∈ RFoot b v0 v1 v2 v3) w (w.setCell ⟨b, 2, none⟩ v') := (Chg.refl _ w).setCell (.inl (by simp [RFoot])) _
  refine H.upd (h.blk.set 2 v') ?_ ?_ ?_ ?_ (w.heap.size + 1) (w.heap.size + 2) (w.heap.size) (w.heap.size + 3) (by omega) ?_ ?_ ?_ ?_ hc
  all_goals first
    | exact At.same _ _ _
    | exact hA
    | exact hr.other hb' _
    | exact h.row0.other ha.b0 _
    | exact h.row1.other ha.b1 _
    | exact h.row2.other ha.b2 _
    | exact h.row3.other ha.b3 _
/-- Row 3 was appended to, in w1; its value is stored. -/
theorem RUp.put3 {fp : List Nat} {w0 w w1 : World} {b : Nat} {s : RS} {v0 v1 v2 v3 v' : Value} {l : List UInt8} (H : RUp fp w0 b s w v0 v1 v2 v3) (hg : w.grownBy w1 v3.ownBlock) (hr : Row w1 5 v' (u8s l))
    (hat : v'.ownBlock = v3.ownBlock ∨ v'.ownBlock = some w.heap.size) : RUp fp w0 b { s with r1 := l } (w1.setCell ⟨b, 3, none⟩ v') v0 v1 v2 v' := by
  have h := H.parts
  have ha := h.apart
  have hb := h.blk.lt
  obtain ⟨e10, e20, e30, e21, e31, e32⟩ := ha.ne
  have e01 := ha.a01
  have e02 := ha.a02
  have e03 := ha.a03
  have e12 := ha.a12
  have e13 := ha.a13
  have e23 := ha.a23
  have b0 := ha.b0
  have b1 := ha.b1
  have b2 := ha.b2
  have b3 := ha.b3
  have hb' := (At.of hat).ne_b hb ha.b3
  have hc : Chg (· ∈ RFoot b v0 v1 v2 v3) w (w1.setCell ⟨b, 3, none⟩ v') := ((Chg.refl _ w).grown hg (fun k q => .inl (mem_RFoot.2 (by simp [q])))).setCell (.inl (by simp [RFoot])) _
  refine H.upd ((h.blk.grown hg ha.b3).set 3 v') ?_ ?_ ?_ ?_ (w.heap.size + 1) (w.heap.size + 2) (w.heap.size + 3) (w.heap.size) (by omega) ?_ ?_ ?_ ?_ hc
  all_goals first
    | exact At.same _ _ _
    | exact At.of hat
    | exact hr.other hb' _
    | exact (h.row0.grown hg (by assumption)).other ha.b0 _
    | exact (h.row1.grown hg (by assumption)).other ha.b1 _
    | exact (h.row2.grown hg (by assumption)).other ha.b2 _
    | exact (h.row3.grown hg (by assumption)).other ha.b3 _
/-- Row 3 is cut at its front. -/
theorem RUp.cut3 {fp : List Nat} {w0 w : World} {b : Nat} {s : RS} {v0 v1 v2 v3 : Value} {l : List UInt8} (H : RUp fp w0 b s w v0 v1 v2 v3) (v' : Value) (hr : Row w 5 v' (u8s l))
    (hat : v'.ownBlock = none ∨ v'.ownBlock = v3.ownBlock) : RUp fp w0 b { s with r1 := l } (w.setCell ⟨b, 3, none⟩ v') v0 v1 v2 v' := by
  have h := H.parts
  have ha := h.apart
  have hA : At w.heap.size w.heap.size v3 v' := hat.imp id .inl
  have hb' := hA.ne_b h.blk.lt ha.b3
  have hc : Chg (· ∈ RFoot b v0 v1 v2 v3) w (w.setCell ⟨b, 3, none⟩ v') := (Chg.refl _ w).setCell (.inl (by simp [RFoot])) _
  refine H.upd (h.blk.set 3 v') ?_ ?_ ?_ ?_ (w.heap.size + 1) (w.heap.size + 2) (w.heap.size + 3) (w.heap.size) (by omega) ?_ ?_ ?_ ?_ hc
  all_goals first
    | exact At.same _ _ _
    | exact hA
    | exact hr.other hb' _
    | exact h.row0.other ha.b0 _
    | exact h.row1.other ha.b1 _
    | exact h.row2.other ha.b2 _
    | exact h.row3.other ha.b3 _

theorem own_slice (A : Option Addr) (n m c d : Nat) : (Value.slice A n c).ownBlock = (Value.slice A m d).ownBlock := by cases A <;> rfl
theorem RUp.take0 {fp : List Nat} {w0 w : World} {b n c m : Nat} {A : Option Addr} {s : RS} {v0 v1 v2 v3 : Value} (H : RUp fp w0 b s w v0 v1 v2 v3) (hv : v0 = .slice A n c) (hm : m ≤ s.s0.length) :
    RUp fp w0 b { s with s0 := s.s0.take m } (w.setCell ⟨b, 0, none⟩ (.slice A m c)) (.slice A m c) (v1) (v2) (v3) := by
  subst hv
  refine H.cut0 (l := s.s0.take m) _ ?_ (.inr (own_slice _ _ _ _ _))
  rw [← u8s_take]
  exact H.parts.row0.take (by rw [u8s_length]; exact hm)
theorem RUp.take1 {fp : List Nat} {w0 w : World} {b n c m : Nat} {A : Option Addr} {s : RS} {v0 v1 v2 v3 : Value} (H : RUp fp w0 b s w v0 v1 v2 v3) (hv : v1 = .slice A n c) (hm : m ≤ s.r0.length) :
    RUp fp w0 b { s with r0 := s.r0.take m } (w.setCell ⟨b, 1, none⟩ (.slice A m c)) (v0) (.slice A m c) (v2) (v3) := by
  subst hv
  refine H.cut1 (l := s.r0.take m) _ ?_ (.inr (own_slice _ _ _ _ _))
  rw [← u8s_take]
  exact H.parts.row1.take (by rw [u8s_length]; exact hm)
theorem RUp.take2 {fp : List Nat} {w0 w : World} {b n c m : Nat} {A : Option Addr} {s : RS} {v0 v1 v2 v3 : Value} (H : RUp fp w0 b s w v0 v1 v2 v3) (hv : v2 = .slice A n c) (hm : m ≤ s.s1.length) :
    RUp fp w0 b { s with s1 := s.s1.take m } (w.setCell ⟨b, 2, none⟩ (.slice A m c)) (v0) (v1) (.slice A m c) (v3) := by
  subst hv
  refine H.cut2 (l := s.s1.take m) _ ?_ (.inr (own_slice _ _ _ _ _))
  rw [← u8s_take]
  exact H.parts.row2.take (by rw [u8s_length]; exact hm)
theorem RUp.take3 {fp : List Nat} {w0 w : World} {b n c m : Nat} {A : Option Addr} {s : RS} {v0 v1 v2 v3 : Value} (H : RUp fp w0 b s w v0 v1 v2 v3) (hv : v3 = .slice A n c) (hm : m ≤ s.r1.length) :
    RUp fp w0 b { s with r1 := s.r1.take m } (w.setCell ⟨b, 3, none⟩ (.slice A m c)) (v0) (v1) (v2) (.slice A m c) := by
  subst hv
  refine H.cut3 (l := s.r1.take m) _ ?_ (.inr (own_slice _ _ _ _ _))
  rw [← u8s_take]
  exact H.parts.row3.take (by rw [u8s_length]; exact hm)
end Go.Proofs.Ytjmddbhbibmjdaa
