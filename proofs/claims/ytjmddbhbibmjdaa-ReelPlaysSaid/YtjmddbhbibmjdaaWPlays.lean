/-
  The walk of ReelPlays.
-/
import Derived.Test.YtjmddbhbibmjdaaRef5
import Derived.Deep.RegionHeld
namespace Go.Proofs.Ytjmddbhbibmjdaa
set_option linter.unusedVariables false
set_option linter.unusedSimpArgs false
open Go.RowKit

/-- The law's own two reels, side by side. -/
structure Twin (w0 w : World) (rb : Nat) (s : RS) (b gs gf : Nat) (x : FS) : Prop where
  below : Below w0.heap.size w0 w
  at_ : ∃ fp, ReelAt w rb s fp ∧ ∀ k ∈ fp, w0.heap.size ≤ k ∧ k ∉ FFoot b gs gf
  raw : FRaw w b gs gf x
  own : ∀ k ∈ FFoot b gs gf, w0.heap.size ≤ k

theorem FRaw.lt {w : World} {b gs gf : Nat} {x : FS} (h : FRaw w b gs gf x) : ∀ k ∈ FFoot b gs gf, k < w.heap.size := by
  intro k hk
  have h1 := h.blk.lt
  have h2 := h.strs.lt
  have h3 := h.nums.lt
  simp [FFoot] at hk
  omega
theorem Twin.drewN {w0 w : World} {rb b gs gf : Nat} {s : RS} {x : FS} (h : Twin w0 w rb s b gs gf x) (n : Nat) : Twin w0 (w.drewN n) rb s b gs gf x := by
  obtain ⟨hb, ⟨fp, ⟨ho, v0, v1, v2, v3, hp, hfp⟩, hf⟩, hr, ho2⟩ := h
  exact ⟨⟨hb.os, hb.tape, hb.output, hb.size, hb.block⟩, ⟨fp, ⟨ho, v0, v1, v2, v3, hp.drewN n, hfp⟩, hf⟩, hr.drewN n, ho2⟩
theorem Twin.ok {w0 w : World} {rb b gs gf : Nat} {s : RS} {x : FS} (h : Twin w0 w rb s b gs gf x) : s.Ok := by
  obtain ⟨hb, ⟨fp, hR, hf⟩, hr, ho⟩ := h
  exact hR.1
theorem Twin.does {w0 w : World} {rb b gs gf : Nat} {s : RS} {x : FS} (h : Twin w0 w rb s b gs gf x) (a : Act) (ha : a.Ok) (hs : a.s.size ≤ 20000) :
    Calls Try.prog 22 #[.pointer (some ⟨rb, 0, none⟩), .agg #[.int .i64 a.kind, .int .i64 a.t, .string a.s, .int .i64 a.n, .int .i64 a.k0, .int .i64 a.k1, .int .u8 a.turn.toNat]] w fun e w' => e = .returned (.int .i64 (s.does a).2) ∧ Twin w0 w' rb (s.does a).1 b gs gf x := by
  obtain ⟨hb, ⟨fp, hR, hf⟩, hr, ho⟩ := h
  refine (does_any rb a s fp w hR ha hs).mono ?_
  rintro e w' ⟨rfl, fp', hR', hC, hF⟩
  have hs := hb.size
  have hl := hr.lt
  refine ⟨rfl, hb.trans (hC.below hs (fun i hi => (hf i hi).1)), ⟨fp', hR', fun k hk => ?_⟩, ?_, ho⟩
  · rcases hF k hk with q | q
    · exact hf k q
    · exact ⟨by omega, fun h => by have := hl k h; omega⟩
  · exact hr.chg hC (fun q => (hf _ q).2 (by simp [FFoot])) (fun q => (hf _ q).2 (by simp [FFoot])) (fun q => (hf _ q).2 (by simp [FFoot]))
theorem Twin.model {w0 w : World} {rb b gs gf : Nat} {s s' : RS} (h : Twin w0 w rb s' b gs gf s.toF) (hok : s.Ok) (a : Act) (hs : a.s.size ≤ 20000) :
    Calls Try.prog 23 #[.pointer (some ⟨b, 0, none⟩), .agg #[.int .i64 a.kind, .int .i64 a.t, .string a.s, .int .i64 a.n, .int .i64 a.k0, .int .i64 a.k1, .int .u8 a.turn.toNat]] w fun e w' => e = .returned (.int .i64 (s.does a).2) ∧ Twin w0 w' rb s' b gs gf (s.does a).1.toF := by
  obtain ⟨hb, ⟨fp, hR, hf⟩, hr, ho⟩ := h
  refine (model_any b gs gf a s w hr hok hs).mono ?_
  rintro e w' ⟨rfl, hp⟩
  have hs := hb.size
  exact ⟨rfl, hb.trans (hp.chg.below hs (fun i hi => ho i hi)), ⟨fp, hR.chg hp.chg (fun g hg q => (hf g hg).2 q), hf⟩, hp.raw, ho⟩
theorem Twin.free {w0 w : World} {rb b gs gf : Nat} {s : RS} {x : FS} (h : Twin w0 w rb s b gs gf x) :
    Calls Try.prog 19 #[.pointer (some ⟨rb, 0, none⟩)] w fun r w' => r = .returned (.int .i64 s.free) ∧ Twin w0 w' rb s b gs gf x := by
  obtain ⟨hb, ⟨fp, hR, hf⟩, hr, ho⟩ := h
  refine (free_any rb s fp w hR).mono ?_
  rintro r w' ⟨rfl, n, rfl⟩
  exact ⟨rfl, Twin.drewN ⟨hb, ⟨fp, hR, hf⟩, hr, ho⟩ n⟩
theorem Twin.rfree {w0 w : World} {rb b gs gf : Nat} {s : RS} (h : Twin w0 w rb s b gs gf s.toF) :
    Calls Try.prog 24 #[.pointer (some ⟨b, 0, none⟩)] w fun r w' => r = .returned (.int .i64 s.free) ∧ Twin w0 w' rb s b gs gf s.toF := by
  obtain ⟨hb, ⟨fp, hR, hf⟩, hr, ho⟩ := h
  refine (rfree_any b gs gf s w hr hR.1).mono ?_
  rintro r w' ⟨rfl, n, rfl⟩
  exact ⟨rfl, Twin.drewN ⟨hb, ⟨fp, hR, hf⟩, hr, ho⟩ n⟩
theorem Twin.dead {w0 w : World} {rb b gs gf : Nat} {s : RS} {x : FS} (h : Twin w0 w rb s b gs gf x) :
    Calls Try.prog 17 #[.pointer (some ⟨rb, 0, none⟩)] w fun r w' => r = .returned (.bool s.dead) ∧ w = w' := by
  obtain ⟨hb, ⟨fp, hR, hf⟩, hr, ho⟩ := h
  exact dead_any rb s fp w hR
theorem Twin.ops {w0 w : World} {rb b gs gf : Nat} {s : RS} {x : FS} (h : Twin w0 w rb s b gs gf x) :
    Calls Try.prog 18 #[.pointer (some ⟨rb, 0, none⟩)] w fun r w' => r = .returned (.int .i64 s.ops) ∧ w = w' := by
  obtain ⟨hb, ⟨fp, hR, hf⟩, hr, ho⟩ := h
  exact ops_any rb s fp w hR
theorem Twin.read {w0 w : World} {rb b gs gf : Nat} {s : RS} {x : FS} (h : Twin w0 w rb s b gs gf x) (t : Int) :
    Calls Try.prog 15 #[.pointer (some ⟨rb, 0, none⟩), .int .i64 t] w fun r w' => r = .returned (.tuple #[.string (str (s.read t).1), .int .i64 (s.read t).2]) ∧ Twin w0 w' rb s b gs gf x := by
  obtain ⟨hb, ⟨fp, hR, hf⟩, hr, ho⟩ := h
  refine (read_any rb t s fp w hR).mono ?_
  rintro r w' ⟨rfl, n, rfl⟩
  exact ⟨rfl, Twin.drewN ⟨hb, ⟨fp, hR, hf⟩, hr, ho⟩ n⟩
theorem Twin.rread {w0 w : World} {rb b gs gf : Nat} {s : RS} (h : Twin w0 w rb s b gs gf s.toF) (t : Int) :
    Calls Try.prog 25 #[.pointer (some ⟨b, 0, none⟩), .int .i64 t] w fun r w' => r = .returned (.tuple #[.string (str (s.read t).1), .int .i64 (s.read t).2]) ∧ w = w' := by
  obtain ⟨hb, ⟨fp, hR, hf⟩, hr, ho⟩ := h
  exact rread_any b gs gf t s w hr
theorem Twin.new {w0 w : World} {rb : Nat} {s : RS} (h : Mine w0 w rb s) (room : Int) :
    Calls Try.prog 21 #[.int .i64 room] w fun r w' => ∃ b gs gf, r = .returned (.pointer (some ⟨b, 0, none⟩)) ∧ Twin w0 w' rb s b gs gf (RS.new room).toF := by
  obtain ⟨hb, fp, hR, hf⟩ := h
  refine (rnew_any room w).mono ?_
  rintro r w' ⟨b, gs, gf, rfl, hr, hC, ho⟩
  have hs := hb.size
  have hl := hR.lt
  exact ⟨b, gs, gf, rfl, hb.trans (hC.below hs (fun _ q => q.elim)), ⟨fp, hR.chg hC (fun _ _ q => q), fun k hk => ⟨hf k hk, fun q => by have := ho k q; have := hl k hk; omega⟩⟩, hr, fun k hk => by have := ho k hk; omega⟩

def ld4 (x : Operand) : Op := Op.load 4 x
def ld3 (x : Operand) : Op := Op.load 3 x
def Seven (w : World) (p o : Nat) (a : Act) : Prop := w.cell? ⟨p, o, none⟩ = some (.int .i64 a.kind) ∧ w.cell? ⟨p, o + 1, none⟩ = some (.int .i64 a.t) ∧ w.cell? ⟨p, o + 2, none⟩ = some (.string a.s) ∧ w.cell? ⟨p, o + 3, none⟩ = some (.int .i64 a.n) ∧
  w.cell? ⟨p, o + 4, none⟩ = some (.int .i64 a.k0) ∧ w.cell? ⟨p, o + 5, none⟩ = some (.int .i64 a.k1) ∧ w.cell? ⟨p, o + 6, none⟩ = some (.int .u8 a.turn.toNat)
theorem ActsAt.seven {w w' : World} {p off k : Nat} {l : List Act} {a : Act} (h : ActsAt w (some ⟨p, off, none⟩) l) (ha : l[k]? = some a) (hB : Below w.heap.size w w') : Seven w' p (off + k * 7) a := by
  have HC := (h.below hB).cell p off k
  have c0 := HC 0 a _ rfl ha rfl
  have c1 := HC 1 a _ rfl ha rfl
  have c2 := HC 2 a _ rfl ha rfl
  have c3 := HC 3 a _ rfl ha rfl
  have c4 := HC 4 a _ rfl ha rfl
  have c5 := HC 5 a _ rfl ha rfl
  have c6 := HC 6 a _ rfl ha rfl
  simp only [← Nat.add_assoc, Nat.add_zero] at c0 c1 c2 c3 c4 c5 c6
  exact ⟨c0, c1, c2, c3, c4, c5, c6⟩
set_option maxHeartbeats 3200000 in
set_option maxRecDepth 100000 in
theorem plays_core (room : Int) (A : Option Addr) (l : List Act) (cap : Nat) (w : World) (hA : ActsAt w A l) (hlen : l.length ≤ 140737488351232) :
    Calls Try.prog 5 #[.int .i64 room, .slice A l.length cap] w fun e w' => e = .returned (.bool true) ∧ Below w.heap.size w w' := by
  have hb := Below.refl w.heap.size w
  have HA := hd hA
  have HS := hd (small_any A l cap w hA hlen)
  clear hA
  go_enter Try.func5, Try.ntmps5
  go_wp2_with (fail)
  refine HS.out.mono ?_
  rintro e w1 ⟨bb, rfl, hp, rfl⟩
  cases bb with
  | false =>
    clear hp
    go_wp2_with (go_at_call 9; refine (live_call w _ hb).mono ?_; rintro e w1 ⟨rfl, hl⟩)
    go_ret
    exact ⟨rfl, hl⟩
  | true =>
    obtain ⟨h60, hsz⟩ := hp rfl
    have HZ := hd hsz
    clear hp hsz
    by_cases hr : room < 0 ∨ 4194304 < room
    · have HN := hd (new_bad room w hr)
      rcases hr with hr | hr
      all_goals
        go_wp2_with (first | (go_at_call 10; refine HN.out.mono ?_; rintro e w1 ⟨rfl, rfl⟩) | (go_at_call 9; refine (live_call w _ hb).mono ?_; rintro e w1 ⟨rfl, hl⟩) | (go_at_call 11; refine (num_any _ _).mono ?_; rintro e w' ⟨rfl, rfl⟩))
        all_goals
          go_ret
          exact ⟨rfl, hl⟩
    have r0 : 0 ≤ room := by omega
    have r1 : room ≤ 4194304 := by omega
    clear hr
    go_wp2_with (first | (go_at_call 10; refine (Mine.new room w _ hb r0 r1).mono ?_; rintro e w1 ⟨rb, rfl, h0⟩) | (go_at_call 11; refine (num_any _ _).mono ?_; rintro e w' ⟨rfl, rfl⟩))
    refine (Twin.new h0 room).mono ?_
    rintro e w2 ⟨b, gs, gf, rfl, hT⟩
    clear h0
    go_wp2_with (fail)
    go_loopw [8] (fun i wr => ∃ (k : Nat) (s : RS), k ≤ l.length ∧ i = .int .i64 k ∧ Twin w wr rb s b gs gf s.toF) (fun i _ => l.length - (intOf i).toNat)
    case atStart => exact ⟨0, _, by omega, rfl, hT⟩
    case round =>
      obtain ⟨k, s, hk, rfl, hM⟩ := hrel
      clear hT
      by_cases hlt : k < l.length
      · obtain ⟨p, off, rfl⟩ := HA.out.addr (by intro h; rw [h] at hlt; simp at hlt)
        obtain ⟨a, ha⟩ : ∃ a, l[k]? = some a := ⟨_, List.getElem?_eq_getElem hlt⟩
        have HSv := hd (fun w' => HA.out.seven (w' := w') ha)
        have HOk := hd (HA.out.ok a (List.mem_of_getElem? ha))
        have HSz := hd (HZ.out a (List.mem_of_getElem? ha))
        have HM := hd hM
        have HO := hd hM.ok
        obtain ⟨s', f, hsf⟩ : ∃ s' f, s.does a = (s', f) := ⟨_, _, rfl⟩
        have HDa := hd hsf
        clear hsf
        clear ha hM
        go_upto_region 12 with (fail)
        go_cut [91] (fun v wx => v = .bool false ∧ Twin w wx rb s' b gs gf s'.toF)
        case first =>
          rename_i J K1 hJ hK1
          revert hK1 hJ K1 J
          go_tidy
          intro J K1 hJ hK1
          have hl4 : ∀ x, ld4 x = Op.load 4 x := fun _ => rfl
          have hl3 : ∀ x, ld3 x = Op.load 3 x := fun _ => rfl
          rw [show Op.load 4 (Operand.tmp 79) = ld4 (Operand.tmp 79) from rfl, show Op.load 3 (Operand.tmp 88) = ld3 (Operand.tmp 88) from rfl]
          go_region_held (fun w' => w'.cell? ⟨p, off + k * 7, none⟩ = some (.int .i64 a.kind) ∧ w'.cell? ⟨p, off + k * 7 + 1, none⟩ = some (.int .i64 a.t) ∧ w'.cell? ⟨p, off + k * 7 + 2, none⟩ = some (.string a.s) ∧ w'.cell? ⟨p, off + k * 7 + 3, none⟩ = some (.int .i64 a.n) ∧ w'.cell? ⟨p, off + k * 7 + 4, none⟩ = some (.int .i64 a.k0) ∧ w'.cell? ⟨p, off + k * 7 + 5, none⟩ = some (.int .i64 a.k1) ∧ w'.cell? ⟨p, off + k * 7 + 6, none⟩ = some (.int .u8 a.turn.toNat)) (first | exact HSv.out _ (HM.out.drewN 1).below | exact HSv.out _ hM1.below | exact HSv.out _ hM2.below | exact HSv.out _ hM3.below | exact HSv.out _ hM4.below) (first | (go_at_call 22; refine ((HM.out.drewN 1).does a HOk.out HSz.out).mono ?_; rintro e w1 ⟨rfl, hM1⟩; rw [HDa.out] at hM1 ⊢; dsimp only at hM1 ⊢) | (go_at_call 23; refine (hM1.model HO.out a HSz.out).mono ?_; rintro e w2 ⟨rfl, hM2⟩; rw [HDa.out] at hM2 ⊢; dsimp only at hM2 ⊢) | (go_at_call 19; refine hM2.free.mono ?_; rintro e w3 ⟨rfl, hM3⟩; clear hM2) | (go_at_call 24; refine hM3.rfree.mono ?_; rintro e w4 ⟨rfl, hM4⟩; clear hM3; obtain ⟨-, -, -, -, c4, c5, -⟩ := hM4.raw.cells; simp only [RS.toF] at c4 c5) | (go_at_call 17; refine hM4.dead.mono ?_; rintro e w5 ⟨rfl, rfl⟩) | (go_at_call 18; refine hM4.ops.mono ?_; rintro e w5 ⟨rfl, rfl⟩))
          all_goals
            go_wp2_with (fail)
            go_meet
            exact ⟨rfl, hM4⟩
        obtain ⟨rfl, hM⟩ := hcut
        clear HM
        go_wp2_with (fail)
        go_loopw [9] (fun t wr => ∃ t' : Int, -1 ≤ t' ∧ t' ≤ 3 ∧ t = .int .i64 t' ∧ Twin w wr rb s' b gs gf s'.toF) (fun t _ => (3 - intOf t).toNat)
        case atStart => exact ⟨-1, by omega, by omega, rfl, hM⟩
        case round =>
          obtain ⟨t', ht0, ht1, rfl, hM2⟩ := hrel
          clear hM
          by_cases htl : t' ≤ 2
          · have HR1 := hd (hM2.read t')
            clear hM2
            go_wp2_with (first | (go_at_call 15; refine HR1.out.mono ?_; rintro e w1 ⟨rfl, hM3⟩) | (go_at_call 25; refine (hM3.rread t').mono ?_; rintro e w1 ⟨rfl, rfl⟩) | (go_at_call 11; refine (num_any _ _).mono ?_; rintro e w' ⟨rfl, rfl⟩))
            go_roundw
            case rel => exact ⟨t' + 1, by omega, by omega, by go_num, hM3⟩
            case measure => simp [intOf]; omega
          · obtain rfl : t' = 3 := by omega
            go_wp2_with (fail)
            go_roundw
            case rel => exact ⟨k + 1, s', by omega, by go_num, hM2⟩
            case measure => simp [intOf]; omega
      · obtain rfl : k = l.length := by omega
        go_wp2_with (fail)
        refine (live_call w _ hM.below).mono ?_
        rintro e w1 ⟨rfl, hl⟩
        go_wp2
        go_ret
        exact ⟨rfl, hl⟩
theorem plays_walk {H : Type} {enc : TypeId × Value → H} (w : World) (room : Int) (hw : (Lit.int .i64 room).wf = true) (v : Value) (hv : ∃ A n c, v = .slice A n c) {d : DataW H} {p : List MemPlace}
    (h : DataW.Trod enc Try.prog w 0 (fun _ => true) true 41 v d p) (hl : Light Try.prog 41 d) :
    Calls Try.prog 5 #[.int .i64 room, v] w fun e w' => e = .returned (.bool true) ∧ Below w.heap.size w w' := by
  obtain ⟨A, l, c, rfl, hlen, hA⟩ := open_acts hv h hl
  exact plays_core room A l c w hA hlen
end Go.Proofs.Ytjmddbhbibmjdaa
