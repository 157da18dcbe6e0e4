/-
  Crash.
-/
import Derived.Test.YtjmddbhbibmjdaaReel7
namespace Go.Proofs.Ytjmddbhbibmjdaa
set_option linter.unusedVariables false
set_option linter.unusedSimpArgs false
open Go.RowKit

theorem RUp.alloc {fp : List Nat} {w w1 : World} {b : Nat} {s : RS} {v0 v1 v2 v3 : Value} (h : RUp fp w b s w1 v0 v1 v2 v3) (o : Obj) : RUp fp w b s (w1.alloc o) v0 v1 v2 v3 :=
  ⟨⟨h.parts.blk.alloc o, h.parts.row0.alloc o, h.parts.row1.alloc o, h.parts.row2.alloc o, h.parts.row3.alloc o, h.parts.apart⟩, h.chg.alloc o, h.foot⟩
theorem RUp.alive {fp : List Nat} {w w1 : World} {b : Nat} {s : RS} {v0 v1 v2 v3 : Value} (h : RUp fp w b s w1 v0 v1 v2 v3) : RUp fp w b { s with dead := false, left := -1 } ((w1.setCell ⟨b, 6, none⟩ (.bool false)).setCell ⟨b, 5, none⟩ (.int .i64 (-1))) v0 v1 v2 v3 :=
  ⟨(h.parts.num (s' := { s with dead := false }) 6 _ rfl ⟨rfl, rfl, rfl, rfl⟩).num (s' := { s with dead := false, left := -1 }) 5 _ rfl ⟨rfl, rfl, rfl, rfl⟩, (h.chg.setCell h.mem _).setCell h.mem _, h.foot⟩

theorem keep_le (l : List UInt8) (k : Int) : RS.keepn l k ≤ l.length := by unfold RS.keepn; omega
theorem keep_if (l : List UInt8) (k : Int) : (if 0 < (if (l.length : Int) < k then (l.length : Int) else k) then (if (l.length : Int) < k then (l.length : Int) else k) else 0) = (RS.keepn l k : Int) := by
  unfold RS.keepn
  split <;> split <;> omega
theorem RS.kept_eq (l : List UInt8) (k : Int) (turn : UInt8) : RS.kept l k turn = if (l.take (RS.keepn l k)).length = 0 then [] else (l.take (RS.keepn l k)).set ((l.take (RS.keepn l k)).length - 1) ((l.take (RS.keepn l k)).getD ((l.take (RS.keepn l k)).length - 1) 0 ^^^ turn) := rfl
theorem Row.poke {w : World} {e : TypeId} {v : Value} {l : List UInt8} {g : Nat} (h : Row w e v (u8s l)) (hg : v.ownBlock = some g) (j : Nat) (x : UInt8) : Row (w.setCell ⟨g, j, none⟩ (.int .u8 x.toNat)) e v (u8s (l.set j x)) := by
  rcases h.nil_or with ⟨rfl, _⟩ | ⟨g', cap, rfl, -⟩
  · cases hg
  · obtain rfl : g' = g := by injection hg
    have := (World.ownsRow.stored h j (.int .u8 x.toNat)).1
    have hs : (u8s l).set j (.int .u8 x.toNat) = u8s (l.set j x) := by simp [u8s, List.map_set]
    rw [hs] at this
    unfold Row
    rw [show (u8s (l.set j x)).length = (u8s l).length by simp [u8s]]
    exact this
theorem RUp.poke0 {fp : List Nat} {w0 w : World} {b g : Nat} {s : RS} {v0 v1 v2 v3 : Value} (H : RUp fp w0 b s w v0 v1 v2 v3) (hg : v0.ownBlock = some g) (j : Nat) (x : UInt8) :
    RUp fp w0 b { s with s0 := s.s0.set j x } (w.setCell ⟨g, j, none⟩ (.int .u8 x.toNat)) v0 v1 v2 v3 := by
  have h := H.parts
  have ha := h.apart
  obtain ⟨e10, e20, e30, e21, e31, e32⟩ := ha.ne
  have e01 := ha.a01
  have e02 := ha.a02
  have e03 := ha.a03
  have e12 := ha.a12
  have e13 := ha.a13
  have e23 := ha.a23
  have hbg : b ≠ g := fun q => ha.b0 (by rw [hg, q])
  have hc : Chg (· ∈ RFoot b v0 v1 v2 v3) w (w.setCell ⟨g, j, none⟩ (.int .u8 x.toNat)) := (Chg.refl _ w).setCell (.inl (mem_RFoot.2 (by simp [hg]))) _
  refine H.upd (h.blk.other hbg _) ?_ ?_ ?_ ?_ w.heap.size (w.heap.size + 1) (w.heap.size + 2) (w.heap.size + 3) (by omega) (At.same _ _ _) (At.same _ _ _) (At.same _ _ _) (At.same _ _ _) hc
  all_goals first
    | exact h.row0.poke hg j x
    | exact h.row1.other (by intro q; exact (show Ne2 v1.ownBlock v0.ownBlock from by assumption) _ q hg) _
    | exact h.row2.other (by intro q; exact (show Ne2 v2.ownBlock v0.ownBlock from by assumption) _ q hg) _
    | exact h.row3.other (by intro q; exact (show Ne2 v3.ownBlock v0.ownBlock from by assumption) _ q hg) _
theorem RUp.poke1 {fp : List Nat} {w0 w : World} {b g : Nat} {s : RS} {v0 v1 v2 v3 : Value} (H : RUp fp w0 b s w v0 v1 v2 v3) (hg : v1.ownBlock = some g) (j : Nat) (x : UInt8) :
    RUp fp w0 b { s with r0 := s.r0.set j x } (w.setCell ⟨g, j, none⟩ (.int .u8 x.toNat)) v0 v1 v2 v3 := by
  have h := H.parts
  have ha := h.apart
  obtain ⟨e10, e20, e30, e21, e31, e32⟩ := ha.ne
  have e01 := ha.a01
  have e02 := ha.a02
  have e03 := ha.a03
  have e12 := ha.a12
  have e13 := ha.a13
  have e23 := ha.a23
  have hbg : b ≠ g := fun q => ha.b1 (by rw [hg, q])
  have hc : Chg (· ∈ RFoot b v0 v1 v2 v3) w (w.setCell ⟨g, j, none⟩ (.int .u8 x.toNat)) := (Chg.refl _ w).setCell (.inl (mem_RFoot.2 (by simp [hg]))) _
  refine H.upd (h.blk.other hbg _) ?_ ?_ ?_ ?_ w.heap.size (w.heap.size + 1) (w.heap.size + 2) (w.heap.size + 3) (by omega) (At.same _ _ _) (At.same _ _ _) (At.same _ _ _) (At.same _ _ _) hc
  all_goals first
    | exact h.row1.poke hg j x
    | exact h.row0.other (by intro q; exact (show Ne2 v0.ownBlock v1.ownBlock from by assumption) _ q hg) _
    | exact h.row2.other (by intro q; exact (show Ne2 v2.ownBlock v1.ownBlock from by assumption) _ q hg) _
    | exact h.row3.other (by intro q; exact (show Ne2 v3.ownBlock v1.ownBlock from by assumption) _ q hg) _
theorem RUp.poke2 {fp : List Nat} {w0 w : World} {b g : Nat} {s : RS} {v0 v1 v2 v3 : Value} (H : RUp fp w0 b s w v0 v1 v2 v3) (hg : v2.ownBlock = some g) (j : Nat) (x : UInt8) :
    RUp fp w0 b { s with s1 := s.s1.set j x } (w.setCell ⟨g, j, none⟩ (.int .u8 x.toNat)) v0 v1 v2 v3 := by
  have h := H.parts
  have ha := h.apart
  obtain ⟨e10, e20, e30, e21, e31, e32⟩ := ha.ne
  have e01 := ha.a01
  have e02 := ha.a02
  have e03 := ha.a03
  have e12 := ha.a12
  have e13 := ha.a13
  have e23 := ha.a23
  have hbg : b ≠ g := fun q => ha.b2 (by rw [hg, q])
  have hc : Chg (· ∈ RFoot b v0 v1 v2 v3) w (w.setCell ⟨g, j, none⟩ (.int .u8 x.toNat)) := (Chg.refl _ w).setCell (.inl (mem_RFoot.2 (by simp [hg]))) _
  refine H.upd (h.blk.other hbg _) ?_ ?_ ?_ ?_ w.heap.size (w.heap.size + 1) (w.heap.size + 2) (w.heap.size + 3) (by omega) (At.same _ _ _) (At.same _ _ _) (At.same _ _ _) (At.same _ _ _) hc
  all_goals first
    | exact h.row2.poke hg j x
    | exact h.row0.other (by intro q; exact (show Ne2 v0.ownBlock v2.ownBlock from by assumption) _ q hg) _
    | exact h.row1.other (by intro q; exact (show Ne2 v1.ownBlock v2.ownBlock from by assumption) _ q hg) _
    | exact h.row3.other (by intro q; exact (show Ne2 v3.ownBlock v2.ownBlock from by assumption) _ q hg) _
theorem RUp.poke3 {fp : List Nat} {w0 w : World} {b g : Nat} {s : RS} {v0 v1 v2 v3 : Value} (H : RUp fp w0 b s w v0 v1 v2 v3) (hg : v3.ownBlock = some g) (j : Nat) (x : UInt8) :
    RUp fp w0 b { s with r1 := s.r1.set j x } (w.setCell ⟨g, j, none⟩ (.int .u8 x.toNat)) v0 v1 v2 v3 := by
  have h := H.parts
  have ha := h.apart
  obtain ⟨e10, e20, e30, e21, e31, e32⟩ := ha.ne
  have e01 := ha.a01
  have e02 := ha.a02
  have e03 := ha.a03
  have e12 := ha.a12
  have e13 := ha.a13
  have e23 := ha.a23
  have hbg : b ≠ g := fun q => ha.b3 (by rw [hg, q])
  have hc : Chg (· ∈ RFoot b v0 v1 v2 v3) w (w.setCell ⟨g, j, none⟩ (.int .u8 x.toNat)) := (Chg.refl _ w).setCell (.inl (mem_RFoot.2 (by simp [hg]))) _
  refine H.upd (h.blk.other hbg _) ?_ ?_ ?_ ?_ w.heap.size (w.heap.size + 1) (w.heap.size + 2) (w.heap.size + 3) (by omega) (At.same _ _ _) (At.same _ _ _) (At.same _ _ _) (At.same _ _ _) hc
  all_goals first
    | exact h.row3.poke hg j x
    | exact h.row0.other (by intro q; exact (show Ne2 v0.ownBlock v3.ownBlock from by assumption) _ q hg) _
    | exact h.row1.other (by intro q; exact (show Ne2 v1.ownBlock v3.ownBlock from by assumption) _ q hg) _
    | exact h.row2.other (by intro q; exact (show Ne2 v2.ownBlock v3.ownBlock from by assumption) _ q hg) _

theorem u8s_get (l : List UInt8) (j : Nat) (h : j < l.length) : (u8s l)[j]? = some (.int .u8 (l.getD j 0).toNat) := by
  simp [u8s, List.getD, h]
theorem Row.not_blk {w : World} {e T : TypeId} {v : Value} {xs cs : List Value} {N : Nat} (h : Row w e v xs) (hb : Blk w N cs T) (hT : T ≠ e) : v.ownBlock ≠ some N := by
  intro q
  rcases h.2 with ⟨rfl, _⟩ | ⟨g, cap, cur, rfl, _, hh, _⟩
  · cases q
  · obtain rfl : g = N := by injection q
    unfold Blk at hb
    rw [hb] at hh
    injection hh with hh
    injection hh with _ ht
    exact hT ht
theorem xor_byte (x y : UInt8) : bits .xor .u8 (x.toNat : Int) (y.toNat : Int) = ((x ^^^ y).toNat : Int) := by
  rw [u8_xor_nat _ _ x.toNat_lt y.toNat_lt, UInt8.toNat_xor]
/-- Behind a round of Crash: the state, and the tail's block is there still. -/
def CrashAt (fp : List Nat) (w : World) (b : Nat) (s : RS) (N : Nat) (cs : List Value) (wx : World) : Prop := (∃ u0 u1 u2 u3, RUp fp w b s wx u0 u1 u2 u3) ∧ Blk wx N cs 32 ∧ b ≠ N ∧ w.heap.size ≤ N

set_option maxHeartbeats 1600000 in
theorem crash_any (b : Nat) (k0 k1 : Int) (turn : UInt8) (s : RS) (fp : List Nat) (w : World) (hR : ReelAt w b s fp) :
    Calls Try.prog 14 #[.pointer (some ⟨b, 0, none⟩), .agg #[.int .i64 k0, .int .i64 k1, .int .u8 turn.toNat]] w fun e w' => e = .returned (.tuple #[]) ∧ RPost w b fp (s.crash k0 k1 turn) w' := by
  obtain ⟨hok, v0, v1, v2, v3, U⟩ := hR.up
  obtain ⟨⟨c0, c1, c2, c3⟩, c4, c5, c6, c7⟩ := U.parts.cells
  have f5 := U.parts.blk.frozen 5
  have f6 := U.parts.blk.frozen 6
  have hb := U.parts.blk.lt
  have HU := hd U
  have HO := hd hok
  clear U hok hR
  go_enter Try.func14, Try.ntmps14
  go_wp2
  have HV := hd (HU.out.alive.alloc (.cells #[.int .i64 k0, .int .i64 k1, .int .u8 turn.toNat] 32))
  have HZ := hd (Blk.new ((w.setCell ⟨b, 6, none⟩ (.bool false)).setCell ⟨b, 5, none⟩ (.int .i64 (-1))) [.int .i64 k0, .int .i64 k1, .int .u8 turn.toNat] 32)
  rw [World.size_setCell, World.size_setCell] at HZ
  clear HU c0 c1 c2 c3 c4 c5 c6 c7 f5 f6
  generalize ((w.setCell ⟨b, 6, none⟩ (.bool false)).setCell ⟨b, 5, none⟩ (.int .i64 (-1))).alloc (.cells #[.int .i64 k0, .int .i64 k1, .int .u8 turn.toNat] 32) = W at *
  have i0 : ∀ w, (Instr.index 30 (.agg #[.int .i64 k0, .int .i64 k1]) (.int .i64 0)).run Try.prog w = .ok (.int .i64 k0) w := fun _ => by kernel_rfl
  have i1 : ∀ w, (Instr.index 30 (.agg #[.int .i64 k0, .int .i64 k1]) (.int .i64 1)).run Try.prog w = .ok (.int .i64 k1) w := fun _ => by kernel_rfl
  refine wp_loop_rounds 3 ?_
  rw [rounds_succ]
  go_upto_block 1 with (fail)
  go_cut [] (fun wx => CrashAt fp w b { s with dead := false, left := -1, s0 := s.s0 ++ RS.kept s.r0 k0 turn, r0 := [] } w.heap.size [.int .i64 k0, .int .i64 k1, .int .u8 turn.toNat] wx)
  case first =>
    obtain ⟨A, k, rfl, hk⟩ := HV.out.parts.row0.small2
    obtain ⟨B, l, rfl, hl⟩ := HV.out.parts.row1.small2
    have d0 : W.cell? ⟨b, 0, none⟩ = some (.slice A s.s0.length k) := HV.out.parts.blk.cell 0
    have d1 : W.cell? ⟨b, 1, none⟩ = some (.slice B s.r0.length l) := HV.out.parts.blk.cell 1
    have f1 := HV.out.parts.blk.frozen 1
    have m1 := keep_le s.r0 k0
    have g1 := keep_if s.r0 k0
    have HK := hd (RS.kept_eq s.r0 k0 turn)
    have hsm := HO.out.small
    generalize RS.keepn s.r0 k0 = m at *
    go_wp2
    go_region
    have HV2 := hd (HV.out.take1 rfl m1)
    have HZ2 := hd (HZ.out.other (p := ⟨b, 1, none⟩) (by intro q; have : w.heap.size = b := q; omega) (.slice B m l))
    clear HV f1 g1 d0 d1 HZ
    generalize W.setCell ⟨b, 1, none⟩ (.slice B m l) = W2 at *
    have d0 : W2.cell? ⟨b, 0, none⟩ = some (.slice A s.s0.length k) := HV2.out.parts.blk.cell 0
    have d1 : W2.cell? ⟨b, 1, none⟩ = some (.slice B m l) := HV2.out.parts.blk.cell 1
    by_cases hm : m = 0
    · subst hm
      have HV4 := hd (HV2.out.drew)
      rw [show s.r0.take 0 = RS.kept s.r0 k0 turn from by rw [HK.out]; simp] at HV4
      have HZ4 := hd HZ2.out.drew
      clear HV2 HZ2 d0 d1 HK
      generalize W2.drew = W4 at *

      have HZ4n := hd (HV4.out.parts.row0.not_blk HZ4.out (by decide))
      have d0 : W4.cell? ⟨b, 0, none⟩ = some (.slice A s.s0.length k) := HV4.out.parts.blk.cell 0
      have d1 : W4.cell? ⟨b, 1, none⟩ = some (.slice B 0 l) := HV4.out.parts.blk.cell 1
      have hkl := RS.kept_length s.r0 k0 turn
      go_upto_region 11 with (fail)
      go_region_law (refine step_append_row rfl (.tmp 67) (.tmp 71) 34 5 (.int .u8 0) 1 rfl Try.underlying34 Try.u8info rfl (.slice A s.s0.length k) (.slice B 0 l) (u8s s.s0) (u8s (RS.kept s.r0 k0 turn)) rfl rfl HV4.out.parts.row0.drew HV4.out.parts.row1.drew (u8s_oneCell _) (by simp only [u8s_length]; omega) (by simp only [u8s_length]; omega) ?_; intro v' w' hrow hg hat; obtain ⟨A', k', rfl⟩ := hrow.form; have c' : w'.cell? ⟨b, 0, none⟩ = some (.slice A s.s0.length k) := (HV4.out.parts.blk.drew.grown hg HV4.out.parts.apart.b0).cell 0; have f' := (HV4.out.parts.blk.drew.grown hg HV4.out.parts.apart.b0).frozen 0; have d' : w'.cell? ⟨b, 1, none⟩ = some (.slice B 0 l) := (HV4.out.parts.blk.drew.grown hg HV4.out.parts.apart.b0).cell 1; have g' := (HV4.out.parts.blk.drew.grown hg HV4.out.parts.apart.b0).frozen 1; have HH := hd (And.intro hrow (And.intro hg hat)); clear hrow hg hat)
      all_goals
        clear d0 d1 c' f' d' g'
        rw [← u8s_append] at HH
        simp only [← u8s_append, ← List.length_append]
        have HX := hd ((HV4.out.drew.put0 HH.out.2.1 HH.out.1 HH.out.2.2).cut1 (l := []) (.slice none 0 0) (Row.nil _ _) (.inl rfl))
        have HY := hd (((HZ4.out.drew.grown HH.out.2.1 HZ4n.out).other (p := ⟨b, 0, none⟩) (by intro q; have : w.heap.size = b := q; omega) (.slice A' (u8s (s.s0 ++ RS.kept s.r0 k0 turn)).length k')).other (p := ⟨b, 1, none⟩) (by intro q; have : w.heap.size = b := q; omega) (.slice none 0 0))
        try rw [setCell_swap _ ⟨b, 1, none⟩ ⟨b, 0, none⟩ _ _ (.inr ⟨rfl, rfl, by decide⟩)]
        go_wp2
        all_goals
          go_meet
          exact ⟨⟨_, _, _, _, HX.out⟩, HY.out, by omega, by omega⟩
    · have hm' : 0 < m := by omega
      have hlen : (s.r0.take m).length = m := by simp; omega
      obtain ⟨g, hg, hcell, hfz⟩ : ∃ g, B = some ⟨g, 0, none⟩ ∧ (∀ j u, (u8s (s.r0.take m))[j]? = some u → W2.cell? ⟨g, j, none⟩ = some u) ∧ (∀ j, W2.frozen? ⟨g, j, none⟩ = false) := by
        rcases HV2.out.parts.row1.nil_or with ⟨q, q2⟩ | ⟨g, cap, q, _, _, hcell, hfz⟩
        · injection q with q; omega
        · injection q with q; exact ⟨g, q, hcell, hfz⟩
      subst hg
      have cl : W2.cell? ⟨g, m - 1, none⟩ = some (.int .u8 ((s.r0.take m).getD (m - 1) 0).toNat) := hcell _ _ (u8s_get _ _ (by omega))
      have fl := hfz (m - 1)
      have ct : W2.cell? ⟨w.heap.size, 2, none⟩ = some (.int .u8 turn.toNat) := HZ2.out.cell 2
      have hkk : RS.kept s.r0 k0 turn = (s.r0.take m).set (m - 1) ((s.r0.take m).getD (m - 1) 0 ^^^ turn) := by rw [HK.out, hlen, if_neg hm]
      clear hcell hfz
      generalize (s.r0.take m).getD (m - 1) 0 = x at *
      have HKK := hd hkk
      clear hkk hlen HK
      go_upto_region 10 with (fail)
      go_region
      rw [xor_byte]
      have HV4 := hd ((HV2.out.poke1 rfl (m - 1) (x ^^^ turn)).drew.drew)
      have HZ4 := hd ((HZ2.out.other (p := ⟨g, m - 1, none⟩) (fun q => HV2.out.parts.row1.not_blk HZ2.out (by decide) (by have q : w.heap.size = g := q; rw [q]; rfl)) (.int .u8 (x ^^^ turn).toNat)).drew.drew)
      simp only [← HKK.out] at HV4
      clear HV2 HZ2 d0 d1 HKK cl fl ct
      generalize (W2.setCell ⟨g, m - 1, none⟩ (.int .u8 (x ^^^ turn).toNat)).drew.drew = W4 at *
      have HZ4n := hd (HV4.out.parts.row0.not_blk HZ4.out (by decide))
      have d0 : W4.cell? ⟨b, 0, none⟩ = some (.slice A s.s0.length k) := HV4.out.parts.blk.cell 0
      have d1 : W4.cell? ⟨b, 1, none⟩ = some (.slice (some ⟨g, 0, none⟩) m l) := HV4.out.parts.blk.cell 1
      have hkl := RS.kept_length s.r0 k0 turn
      go_upto_region 11 with (fail)
      go_region_law (refine step_append_row rfl (.tmp 67) (.tmp 71) 34 5 (.int .u8 0) 1 rfl Try.underlying34 Try.u8info rfl (.slice A s.s0.length k) (.slice (some ⟨g, 0, none⟩) m l) (u8s s.s0) (u8s (RS.kept s.r0 k0 turn)) rfl rfl HV4.out.parts.row0.drew HV4.out.parts.row1.drew (u8s_oneCell _) (by simp only [u8s_length]; omega) (by simp only [u8s_length]; omega) ?_; intro v' w' hrow hg hat; obtain ⟨A', k', rfl⟩ := hrow.form; have c' : w'.cell? ⟨b, 0, none⟩ = some (.slice A s.s0.length k) := (HV4.out.parts.blk.drew.grown hg HV4.out.parts.apart.b0).cell 0; have f' := (HV4.out.parts.blk.drew.grown hg HV4.out.parts.apart.b0).frozen 0; have d' : w'.cell? ⟨b, 1, none⟩ = some (.slice (some ⟨g, 0, none⟩) m l) := (HV4.out.parts.blk.drew.grown hg HV4.out.parts.apart.b0).cell 1; have g' := (HV4.out.parts.blk.drew.grown hg HV4.out.parts.apart.b0).frozen 1; have HH := hd (And.intro hrow (And.intro hg hat)); clear hrow hg hat)
      all_goals
        clear d0 d1 c' f' d' g'
        rw [← u8s_append] at HH
        simp only [← u8s_append, ← List.length_append]
        have HX := hd ((HV4.out.drew.put0 HH.out.2.1 HH.out.1 HH.out.2.2).cut1 (l := []) (.slice none 0 0) (Row.nil _ _) (.inl rfl))
        have HY := hd (((HZ4.out.drew.grown HH.out.2.1 HZ4n.out).other (p := ⟨b, 0, none⟩) (by intro q; have : w.heap.size = b := q; omega) (.slice A' (u8s (s.s0 ++ RS.kept s.r0 k0 turn)).length k')).other (p := ⟨b, 1, none⟩) (by intro q; have : w.heap.size = b := q; omega) (.slice none 0 0))
        try rw [setCell_swap _ ⟨b, 1, none⟩ ⟨b, 0, none⟩ _ _ (.inr ⟨rfl, rfl, by decide⟩)]
        go_wp2
        all_goals
          go_meet
          exact ⟨⟨_, _, _, _, HX.out⟩, HY.out, by omega, by omega⟩
  clear HV HZ
  clear W
  obtain ⟨⟨v0, v1, v2, v3, U⟩, HZ2, hne, hge⟩ := hcut
  have HV := hd U
  have HZ := hd HZ2
  clear U HZ2 hne hge
  obtain ⟨W, rfl⟩ : ∃ W, W = wc := ⟨_, rfl⟩
  go_wp2_with (fail)
  rw [rounds_succ]
  go_upto_block 1 with (fail)
  go_cut [] (fun wx => CrashAt fp w b (s.crash k0 k1 turn) w.heap.size [.int .i64 k0, .int .i64 k1, .int .u8 turn.toNat] wx)
  case first =>
    obtain ⟨A, k, rfl, hk⟩ := HV.out.parts.row2.small2
    obtain ⟨B, l, rfl, hl⟩ := HV.out.parts.row3.small2
    have d0 : W.cell? ⟨b, 2, none⟩ = some (.slice A s.s1.length k) := HV.out.parts.blk.cell 2
    have d1 : W.cell? ⟨b, 3, none⟩ = some (.slice B s.r1.length l) := HV.out.parts.blk.cell 3
    have f1 := HV.out.parts.blk.frozen 3
    have m1 := keep_le s.r1 k1
    have g1 := keep_if s.r1 k1
    have HK := hd (RS.kept_eq s.r1 k1 turn)
    have hsm := HO.out.small
    generalize RS.keepn s.r1 k1 = m at *
    go_wp2
    go_region
    have HV2 := hd (HV.out.take3 rfl m1)
    have HZ2 := hd (HZ.out.other (p := ⟨b, 3, none⟩) (by intro q; have : w.heap.size = b := q; omega) (.slice B m l))
    clear HV f1 g1 d0 d1 HZ
    generalize W.setCell ⟨b, 3, none⟩ (.slice B m l) = W2 at *
    have d0 : W2.cell? ⟨b, 2, none⟩ = some (.slice A s.s1.length k) := HV2.out.parts.blk.cell 2
    have d1 : W2.cell? ⟨b, 3, none⟩ = some (.slice B m l) := HV2.out.parts.blk.cell 3
    by_cases hm : m = 0
    · subst hm
      have HV4 := hd (HV2.out.drew)
      rw [show s.r1.take 0 = RS.kept s.r1 k1 turn from by rw [HK.out]; simp] at HV4
      have HZ4 := hd HZ2.out.drew
      clear HV2 HZ2 d0 d1 HK
      generalize W2.drew = W4 at *

      have HZ4n := hd (HV4.out.parts.row2.not_blk HZ4.out (by decide))
      have d0 : W4.cell? ⟨b, 2, none⟩ = some (.slice A s.s1.length k) := HV4.out.parts.blk.cell 2
      have d1 : W4.cell? ⟨b, 3, none⟩ = some (.slice B 0 l) := HV4.out.parts.blk.cell 3
      have hkl := RS.kept_length s.r1 k1 turn
      go_upto_region 11 with (fail)
      go_region_law (refine step_append_row rfl (.tmp 67) (.tmp 71) 34 5 (.int .u8 0) 1 rfl Try.underlying34 Try.u8info rfl (.slice A s.s1.length k) (.slice B 0 l) (u8s s.s1) (u8s (RS.kept s.r1 k1 turn)) rfl rfl HV4.out.parts.row2.drew HV4.out.parts.row3.drew (u8s_oneCell _) (by simp only [u8s_length]; omega) (by simp only [u8s_length]; omega) ?_; intro v' w' hrow hg hat; obtain ⟨A', k', rfl⟩ := hrow.form; have c' : w'.cell? ⟨b, 2, none⟩ = some (.slice A s.s1.length k) := (HV4.out.parts.blk.drew.grown hg HV4.out.parts.apart.b2).cell 2; have f' := (HV4.out.parts.blk.drew.grown hg HV4.out.parts.apart.b2).frozen 2; have d' : w'.cell? ⟨b, 3, none⟩ = some (.slice B 0 l) := (HV4.out.parts.blk.drew.grown hg HV4.out.parts.apart.b2).cell 3; have g' := (HV4.out.parts.blk.drew.grown hg HV4.out.parts.apart.b2).frozen 3; have HH := hd (And.intro hrow (And.intro hg hat)); clear hrow hg hat)
      all_goals
        clear d0 d1 c' f' d' g'
        rw [← u8s_append] at HH
        simp only [← u8s_append, ← List.length_append]
        have HX := hd ((HV4.out.drew.put2 HH.out.2.1 HH.out.1 HH.out.2.2).cut3 (l := []) (.slice none 0 0) (Row.nil _ _) (.inl rfl))
        have HY := hd (((HZ4.out.drew.grown HH.out.2.1 HZ4n.out).other (p := ⟨b, 2, none⟩) (by intro q; have : w.heap.size = b := q; omega) (.slice A' (u8s (s.s1 ++ RS.kept s.r1 k1 turn)).length k')).other (p := ⟨b, 3, none⟩) (by intro q; have : w.heap.size = b := q; omega) (.slice none 0 0))
        try rw [setCell_swap _ ⟨b, 3, none⟩ ⟨b, 2, none⟩ _ _ (.inr ⟨rfl, rfl, by decide⟩)]
        go_wp2
        all_goals
          go_meet
          exact ⟨⟨_, _, _, _, HX.out⟩, HY.out, by omega, by omega⟩
    · have hm' : 0 < m := by omega
      have hlen : (s.r1.take m).length = m := by simp; omega
      obtain ⟨g, hg, hcell, hfz⟩ : ∃ g, B = some ⟨g, 0, none⟩ ∧ (∀ j u, (u8s (s.r1.take m))[j]? = some u → W2.cell? ⟨g, j, none⟩ = some u) ∧ (∀ j, W2.frozen? ⟨g, j, none⟩ = false) := by
        rcases HV2.out.parts.row3.nil_or with ⟨q, q2⟩ | ⟨g, cap, q, _, _, hcell, hfz⟩
        · injection q with q; omega
        · injection q with q; exact ⟨g, q, hcell, hfz⟩
      subst hg
      have cl : W2.cell? ⟨g, m - 1, none⟩ = some (.int .u8 ((s.r1.take m).getD (m - 1) 0).toNat) := hcell _ _ (u8s_get _ _ (by omega))
      have fl := hfz (m - 1)
      have ct : W2.cell? ⟨w.heap.size, 2, none⟩ = some (.int .u8 turn.toNat) := HZ2.out.cell 2
      have hkk : RS.kept s.r1 k1 turn = (s.r1.take m).set (m - 1) ((s.r1.take m).getD (m - 1) 0 ^^^ turn) := by rw [HK.out, hlen, if_neg hm]
      clear hcell hfz
      generalize (s.r1.take m).getD (m - 1) 0 = x at *
      have HKK := hd hkk
      clear hkk hlen HK
      go_upto_region 10 with (fail)
      go_region
      rw [xor_byte]
      have HV4 := hd ((HV2.out.poke3 rfl (m - 1) (x ^^^ turn)).drew.drew)
      have HZ4 := hd ((HZ2.out.other (p := ⟨g, m - 1, none⟩) (fun q => HV2.out.parts.row3.not_blk HZ2.out (by decide) (by have q : w.heap.size = g := q; rw [q]; rfl)) (.int .u8 (x ^^^ turn).toNat)).drew.drew)
      simp only [← HKK.out] at HV4
      clear HV2 HZ2 d0 d1 HKK cl fl ct
      generalize (W2.setCell ⟨g, m - 1, none⟩ (.int .u8 (x ^^^ turn).toNat)).drew.drew = W4 at *
      have HZ4n := hd (HV4.out.parts.row2.not_blk HZ4.out (by decide))
      have d0 : W4.cell? ⟨b, 2, none⟩ = some (.slice A s.s1.length k) := HV4.out.parts.blk.cell 2
      have d1 : W4.cell? ⟨b, 3, none⟩ = some (.slice (some ⟨g, 0, none⟩) m l) := HV4.out.parts.blk.cell 3
      have hkl := RS.kept_length s.r1 k1 turn
      go_upto_region 11 with (fail)
      go_region_law (refine step_append_row rfl (.tmp 67) (.tmp 71) 34 5 (.int .u8 0) 1 rfl Try.underlying34 Try.u8info rfl (.slice A s.s1.length k) (.slice (some ⟨g, 0, none⟩) m l) (u8s s.s1) (u8s (RS.kept s.r1 k1 turn)) rfl rfl HV4.out.parts.row2.drew HV4.out.parts.row3.drew (u8s_oneCell _) (by simp only [u8s_length]; omega) (by simp only [u8s_length]; omega) ?_; intro v' w' hrow hg hat; obtain ⟨A', k', rfl⟩ := hrow.form; have c' : w'.cell? ⟨b, 2, none⟩ = some (.slice A s.s1.length k) := (HV4.out.parts.blk.drew.grown hg HV4.out.parts.apart.b2).cell 2; have f' := (HV4.out.parts.blk.drew.grown hg HV4.out.parts.apart.b2).frozen 2; have d' : w'.cell? ⟨b, 3, none⟩ = some (.slice (some ⟨g, 0, none⟩) m l) := (HV4.out.parts.blk.drew.grown hg HV4.out.parts.apart.b2).cell 3; have g' := (HV4.out.parts.blk.drew.grown hg HV4.out.parts.apart.b2).frozen 3; have HH := hd (And.intro hrow (And.intro hg hat)); clear hrow hg hat)
      all_goals
        clear d0 d1 c' f' d' g'
        rw [← u8s_append] at HH
        simp only [← u8s_append, ← List.length_append]
        have HX := hd ((HV4.out.drew.put2 HH.out.2.1 HH.out.1 HH.out.2.2).cut3 (l := []) (.slice none 0 0) (Row.nil _ _) (.inl rfl))
        have HY := hd (((HZ4.out.drew.grown HH.out.2.1 HZ4n.out).other (p := ⟨b, 2, none⟩) (by intro q; have : w.heap.size = b := q; omega) (.slice A' (u8s (s.s1 ++ RS.kept s.r1 k1 turn)).length k')).other (p := ⟨b, 3, none⟩) (by intro q; have : w.heap.size = b := q; omega) (.slice none 0 0))
        try rw [setCell_swap _ ⟨b, 3, none⟩ ⟨b, 2, none⟩ _ _ (.inr ⟨rfl, rfl, by decide⟩)]
        go_wp2
        all_goals
          go_meet
          exact ⟨⟨_, _, _, _, HX.out⟩, HY.out, by omega, by omega⟩
  clear HV HZ
  clear W
  obtain ⟨⟨v0, v1, v2, v3, U⟩, HZ2, hne, hge⟩ := hcut
  have HV := hd U
  have HZ := hd HZ2
  clear U HZ2 hne hge
  obtain ⟨W, rfl⟩ : ∃ W, W = wc := ⟨_, rfl⟩
  go_wp2_with (fail)
  rw [rounds_succ]
  go_wp2
  go_end0
  exact ⟨rfl, HV.out.post (HO.out.crash k0 k1 turn)⟩
theorem crash_nil (v : Value) (k0 k1 : Int) (turn : UInt8) (w : World) (hv : v = .agg #[.int .i64 k0, .int .i64 k1, .int .u8 turn.toNat]) : Calls Try.prog 14 #[.pointer none, v] w fun e w' => e = .returned (.tuple #[]) ∧ Below w.heap.size w w' := by
  subst hv
  go_enter Try.func14, Try.ntmps14
  go_wp2
  refine bodyPost_ret (results_none rfl _ _ _) rfl ?_
  exact ⟨rfl, (Below.refl _ _).alloc (Nat.le_refl _) _⟩
end Go.Proofs.Ytjmddbhbibmjdaa
