/-
  Lemmas, joined of the texts L2 L3 L4.
-/
import Derived.Test.YtopajmbblemopaaGreatDoorMB20
import Derived.Deep.RegionHeld
import Derived.Laws.BitsLemmas
namespace Go.Proofs.YtopajmbblemopaaGreatDoor
set_option linter.unusedVariables false
set_option linter.unusedSimpArgs false
open Go.RowKit Go.Proofs.YtopajmbblemopaaGreatDoor.XPg
theorem wrap_in {x : Int} (h0 : -9223372036854775808 ≤ x) (h1 : x ≤ 9223372036854775807) : IntKind.i64.wrap x = x := by rw [IntKind.wrap_i64]; omega
theorem laid_call (k : ByteArray) (n : Int) (q : ByteArray) (w : World) (hG : Gl w) (hk : k.size ≤ 4) (hn : inI64 n) (hq : q.size ≤ 524288) :
    Calls Tryz.prog 60 #[.string k, .int .i64 n, .string q] w fun e w' => e = .returned (.string (str (laidL (bsL k) n (bsL q)))) ∧ Below w.heap.size w w' :=
  ledger_laid.calls k n q _ w (laid_eq k n q hk hn hq) hG
set_option maxHeartbeats 800000 in
theorem add_walk (lb b : Nat) (s : RS) (L : LS) (fp fp0 : List Nat) (w w0 : World) (q : ByteArray) (hG : Gl w) (hO : L.Ok) (h : LPost w0 lb b fp0 s L w fp) (hq : q.size ≤ 4194304) :
    Calls Tryz.prog 38 #[.pointer (some ⟨lb, 0, none⟩), .string q] w fun e w' =>
      e = .returned (.int .i64 (addM s L (bsL q)).2.2) ∧ ∃ fp', LPost w0 lb b fp0 (addM s L (bsL q)).1 (addM s L (bsL q)).2.1 w' fp' := by
  have zq := bs_size q
  have HB := hd (begin_led lb q b L w h.cells.2.2.2.2 (by omega))
  unfold addM
  rw [zq]
  obtain ⟨n0, hn0⟩ : ∃ n0, L.start q.size = n0 := ⟨_, rfl⟩
  rw [hn0] at HB ⊢
  by_cases h0 : n0 = 0
  · subst h0
    rw [if_neg (by decide)]
    have hsz : q.size ≤ 524288 := by
      unfold LS.start at hn0
      split at hn0
      · cases hn0
      · split at hn0
        · cases hn0
        · omega
    obtain ⟨o1, o2, o3, o4, o5⟩ := hO
    have hin : inI64 (L.recs + 1) := by unfold inI64; omega
    have hlen := laid_size kRec (L.recs + 1) (bsL q) (by decide) hin (by omega)
    obtain ⟨pg, hpg⟩ : ∃ pg, laidL kRec (L.recs + 1) (bsL q) = pg := ⟨_, rfl⟩
    have HP : Hd (∀ w1 : World, Below w.heap.size w w1 → Calls Tryz.prog 60 #[.string ⟨#[114, 101, 99]⟩, .int .i64 (IntKind.i64.wrap (L.recs + 1)), .string q] w1 fun e w' => e = .returned (.string (str pg)) ∧ Below w.heap.size w w') := by
      refine hd fun w1 hb => ?_
      rw [wrap_in (by omega) (by omega), ← hpg]
      exact (laid_call ⟨#[114, 101, 99]⟩ (L.recs + 1) q w1 (gl_below hG hb) (by decide) hin hsz).mono fun e w' ⟨h1, h2⟩ => ⟨h1, hb.trans (h2.mono hb.size)⟩
    rw [hpg] at hlen ⊢
    have hkeep := wr_keeps s L L.tape pg
    obtain ⟨s2, L2, e2, hs2⟩ : ∃ s2 L2 e2, wr s L L.tape pg = (s2, L2, e2) := ⟨_, _, _, rfl⟩
    have HW : Hd (∀ w1, Below w.heap.size w w1 → Calls Tryz.prog 68 #[.pointer (some ⟨lb, 0, none⟩), .int .i64 L.tape, .string (str pg)] w1 fun e w' =>
        e = .returned (.int .i64 e2) ∧ ∃ fp', LPost w0 lb b fp0 s2 L2 w' fp') := by
      refine hd fun w1 hb => ?_
      have := wr_walk lb b L.tape s L fp fp0 w1 w0 (str pg) (h.drawn hb) (by rw [str_size]; omega)
      rw [bs_of, hs2] at this
      exact this
    have c1 := h.cells.2.1
    have c3 := h.cells.2.2.2.1
    have hr2 : L2.recs = L.recs := by have := hkeep.2.2; rw [hs2] at this; exact this
    rw [hs2]
    simp only
    have HL := hd h
    have hlt := HL.out.at_.blk.lt
    have hbd : ∀ n, Below w.heap.size w (w.drewN n) := fun n => ⟨rfl, rfl, rfl, Nat.le_refl _, fun _ _ => rfl⟩
    have HBD := hd hbd
    have ht2 : L2.tape = L.tape := by have := hkeep.1; rw [hs2] at this; exact this
    have HC : Hd (∀ w1 : World, Below w.heap.size w w1 → w1.cell? ⟨lb, 1, none⟩ = some (.int .i64 L.tape) ∧ w1.cell? ⟨lb, 3, none⟩ = some (.int .i64 L.recs)) := by
      refine hd fun w1 hb => ?_
      exact ⟨(HL.out.drawn hb).cells.2.1, (HL.out.drawn hb).cells.2.2.2.1⟩
    clear hG h hkeep hn0 hpg hs2 hbd hlen
    by_cases he : e2 = 0
    · subst he
      rw [if_pos rfl]
      go_enter Tryz.func38, Tryz.ntmps38
      go_upto_region 3 with (go_at_call 67; refine HB.out.mono ?_; rintro e w1 ⟨rfl, rfl⟩)
      go_region_held (fun w' => w'.cell? ⟨lb, 1, none⟩ = some (.int .i64 L.tape) ∧ w'.cell? ⟨lb, 3, none⟩ = some (.int .i64 L.recs)) (first | exact HC.out _ (HBD.out 1) | exact HC.out _ hb2 | exact d13) (first | (go_at_call 60; refine (HP.out _ (HBD.out 1)).mono ?_; rintro e w1 ⟨rfl, hb2⟩) | (go_at_call 68; refine (HW.out _ hb2).mono ?_; rintro e w2 ⟨rfl, fp2, h2⟩; have d1 := h2.cells.2.1; have e3 := h2.cells.2.2.2.1; rw [hr2] at e3; rw [ht2] at d1; have d13 := And.intro d1 e3; have f3 := h2.free 3; have HL2 := hd h2; clear h2))
      all_goals
        go_wp2_with (fail)
        go_ret
        refine ⟨rfl, _, HL2.out.set (L' := { L2 with recs := L2.recs + 1 }) 3 _ ?_⟩
        rw [hr2]
        rfl
    · rw [if_neg he]
      have g0 : (e2 == 0) = false := by simpa using he
      go_enter Tryz.func38, Tryz.ntmps38
      go_upto_region 3 with (go_at_call 67; refine HB.out.mono ?_; rintro e w1 ⟨rfl, rfl⟩)
      go_region_held (fun w' => w'.cell? ⟨lb, 1, none⟩ = some (.int .i64 L.tape) ∧ w'.cell? ⟨lb, 3, none⟩ = some (.int .i64 L.recs)) (first | exact HC.out _ (HBD.out 1) | exact HC.out _ hb2 | exact d13) (first | (go_at_call 60; refine (HP.out _ (HBD.out 1)).mono ?_; rintro e w1 ⟨rfl, hb2⟩) | (go_at_call 68; refine (HW.out _ hb2).mono ?_; rintro e w2 ⟨rfl, fp2, h2⟩; have d1 := h2.cells.2.1; have e3 := h2.cells.2.2.2.1; rw [hr2] at e3; rw [ht2] at d1; have d13 := And.intro d1 e3; have f3 := h2.free 3; have HL2 := hd h2; clear h2))
      all_goals
        go_wp2_with (fail)
        go_ret
        exact ⟨rfl, _, HL2.out⟩
  · rw [if_pos h0]
    have g0 : (n0 == 0) = false := by simpa using h0
    have HL := hd h
    clear h hn0
    go_enter Tryz.func38, Tryz.ntmps38
    go_wp2_with (go_at_call 67; refine HB.out.mono ?_; rintro e w1 ⟨rfl, rfl⟩)
    go_ret
    exact ⟨rfl, _, HL.out⟩
theorem Tryz.ledRecords (lb b : Nat) (s : RS) (L : LS) (fp fp0 : List Nat) (w w0 : World) (h : LPost w0 lb b fp0 s L w fp) : Calls Tryz.prog 43 #[.pointer (some ⟨lb, 0, none⟩)] w fun e w' => e = .returned (.int .i64 L.recs) ∧ w = w' := by
  have c2 := h.cells.2.2.1
  have c3 := h.cells.2.2.2.1
  clear h
  go_enter Tryz.func43, Tryz.ntmps43
  go_wp2
  go_ret
  exact ⟨rfl, rfl⟩
theorem broken_led (lb b : Nat) (s : RS) (L : LS) (fp fp0 : List Nat) (w w0 : World) (h : LPost w0 lb b fp0 s L w fp) : Calls Tryz.prog 44 #[.pointer (some ⟨lb, 0, none⟩)] w fun e w' => e = .returned (.bool L.broken) ∧ w = w' := by
  have c4 := h.cells.2.2.2.2
  clear h
  go_enter Tryz.func44, Tryz.ntmps44
  go_wp2
  go_ret
  exact ⟨rfl, rfl⟩
end Go.Proofs.YtopajmbblemopaaGreatDoor
namespace Go.Proofs.YtopajmbblemopaaGreatDoor
set_option linter.unusedVariables false
set_option linter.unusedSimpArgs false
open Go.RowKit Go.Proofs.YtopajmbblemopaaGreatDoor.XPg
set_option maxHeartbeats 1600000 in
theorem base_walk (lb b : Nat) (s : RS) (L : LS) (fp fp0 : List Nat) (w w0 : World) (q : ByteArray) (hG : Gl w) (hO : L.Ok) (h : LPost w0 lb b fp0 s L w fp) (hq : q.size ≤ 4194304) :
    Calls Tryz.prog 42 #[.pointer (some ⟨lb, 0, none⟩), .string q] w fun e w' =>
      e = .returned (.int .i64 (baseM s L (bsL q)).2.2) ∧ ∃ fp', LPost w0 lb b fp0 (baseM s L (bsL q)).1 (baseM s L (bsL q)).2.1 w' fp' := by
  have zq := bs_size q
  have HB := hd (begin_led lb q b L w h.cells.2.2.2.2 (by omega))
  unfold baseM
  rw [zq]
  obtain ⟨n0, hn0⟩ : ∃ n0, L.start q.size = n0 := ⟨_, rfl⟩
  rw [hn0] at HB ⊢
  by_cases h0 : n0 = 0
  · subst h0
    rw [if_neg (by decide)]
    have hsz : q.size ≤ 524288 := by
      unfold LS.start at hn0
      split at hn0
      · cases hn0
      · split at hn0
        · cases hn0
        · omega
    obtain ⟨o1, o2, o3, o4, o5⟩ := hO
    have hin : inI64 (L.epoch + 1) := by unfold inI64; omega
    have hlen := laid_size kBase (L.epoch + 1) (bsL q) (by decide) hin (by omega)
    obtain ⟨pg, hpg⟩ : ∃ pg, laidL kBase (L.epoch + 1) (bsL q) = pg := ⟨_, rfl⟩
    have HP : Hd (∀ w1 : World, Below w.heap.size w w1 → Calls Tryz.prog 60 #[.string ⟨#[98, 97, 115, 101]⟩, .int .i64 (IntKind.i64.wrap (L.epoch + 1)), .string q] w1 fun e w' => e = .returned (.string (str pg)) ∧ Below w.heap.size w w') := by
      refine hd fun w1 hb => ?_
      rw [wrap_in (by omega) (by omega), ← hpg]
      exact (laid_call ⟨#[98, 97, 115, 101]⟩ (L.epoch + 1) q w1 (gl_below hG hb) (by decide) hin hsz).mono fun e w' ⟨h1, h2⟩ => ⟨h1, hb.trans (h2.mono hb.size)⟩
    rw [hpg] at hlen ⊢
    have hkeep := wr_keeps s L (1 - L.tape) pg
    obtain ⟨s2, L2, e2, hs2⟩ : ∃ s2 L2 e2, wr s L (1 - L.tape) pg = (s2, L2, e2) := ⟨_, _, _, rfl⟩
    have HW : Hd (∀ w1, Below w.heap.size w w1 → Calls Tryz.prog 68 #[.pointer (some ⟨lb, 0, none⟩), .int .i64 (IntKind.i64.wrap (1 - L.tape)), .string (str pg)] w1 fun e w' =>
        e = .returned (.int .i64 e2) ∧ ∃ fp', LPost w0 lb b fp0 s2 L2 w' fp') := by
      refine hd fun w1 hb => ?_
      rw [wrap_in (by omega) (by omega)]
      have := wr_walk lb b (1 - L.tape) s L fp fp0 w1 w0 (str pg) (h.drawn hb) (by rw [str_size]; omega)
      rw [bs_of, hs2] at this
      exact this
    rw [hs2] at hkeep ⊢
    simp only at hkeep ⊢
    obtain ⟨ht2, he2, hr2⟩ := hkeep
    have c1 := h.cells.2.1
    have c2 := h.cells.2.2.1
    have HL := hd h
    have HBD : Hd (∀ n, Below w.heap.size w (w.drewN n)) := hd fun n => ⟨rfl, rfl, rfl, Nat.le_refl _, fun _ _ => rfl⟩
    have HC : Hd (∀ w1 : World, Below w.heap.size w w1 → w1.cell? ⟨lb, 1, none⟩ = some (.int .i64 L.tape) ∧ w1.cell? ⟨lb, 2, none⟩ = some (.int .i64 L.epoch)) := by
      refine hd fun w1 hb => ?_
      exact ⟨(HL.out.drawn hb).cells.2.1, (HL.out.drawn hb).cells.2.2.1⟩
    clear hG h hn0 hpg hs2 hlen
    by_cases he : e2 = 0
    · subst he
      rw [if_neg (by decide)]
      obtain ⟨s3, e3, hs3⟩ : ∃ s3 e3, s2.wipe L.tape = (s3, e3) := ⟨_, _, rfl⟩
      have HZ : Hd (∀ w1 fp1, LPost w0 lb b fp0 s2 L2 w1 fp1 → Calls Tryz.prog 56 #[.pointer (some ⟨b, 0, none⟩), .int .i64 L.tape] w1 fun e w' => e = .returned (.int .i64 e3) ∧ ∃ fp2, LPost w0 lb b fp0 s3 L2 w' fp2) := by
        refine hd ?_
        rintro w1 fp1 h2
        refine (wipe_any b L.tape s2 fp1 w1 h2.at_.reel).mono ?_
        rintro e w' ⟨rfl, hp⟩
        rw [hs3] at hp ⊢
        exact ⟨rfl, h2.reel hp⟩
      rw [hs3]
      simp only
      clear hs3
      by_cases h3 : e3 = 0
      · subst h3
        rw [if_neg (by decide)]
        go_enter Tryz.func42, Tryz.ntmps42
        go_wp2_with (go_at_call 67; refine HB.out.mono ?_; rintro e w1 ⟨rfl, rfl⟩)
        go_region_held (fun w' => w'.cell? ⟨lb, 1, none⟩ = some (.int .i64 L.tape) ∧ w'.cell? ⟨lb, 2, none⟩ = some (.int .i64 L.epoch)) (first | exact HC.out _ (HBD.out 1) | exact HC.out _ hb2 | exact d13) (first | (go_at_call 60; refine (HP.out _ (HBD.out 1)).mono ?_; rintro e w1 ⟨rfl, hb2⟩) | (go_at_call 68; refine (HW.out _ hb2).mono ?_; rintro e w2 ⟨rfl, fp2, h2⟩; have d1 := h2.cells.2.1; have e2' := h2.cells.2.2.1; rw [he2] at e2'; rw [ht2] at d1; have d13 := And.intro d1 e2'; have c0 := h2.cells.1; have HL2 := hd h2; clear h2))
        all_goals
          go_wp2_with (fail)
          go_region_held (fun w' => w'.cell? ⟨lb, 0, none⟩ = some (.pointer (some ⟨b, 0, none⟩)) ∧ w'.cell? ⟨lb, 1, none⟩ = some (.int .i64 L.tape)) (first | exact ⟨c0, d1⟩ | exact ⟨k0, g1⟩) ((go_at_call 56; refine (HZ.out _ _ (HL2.out.drewN 1)).mono ?_; rintro e w3 ⟨rfl, fp3, h3⟩; obtain ⟨k0, g1, g2, g3, c4⟩ := h3.cells; rw [ht2] at g1; rw [he2] at g2; rw [hr2] at g3; have f1 := h3.free 1; have f2 := h3.free 2; have f3 := h3.free 3; have f4 := h3.free 4; have HL3 := hd h3; clear h3))
          all_goals
            go_wp2_with (fail)
            go_region
            all_goals (try go_wp2)
            all_goals
              go_ret
              refine ⟨rfl, _, LPost.set (L := { L2 with tape := 1 - L.tape, epoch := L.epoch + 1 }) (LPost.set (L := { L2 with tape := 1 - L.tape }) (LPost.set (LPost.drewN HL3.out 1) 1 _ ?_) 2 _ ?_) 3 _ ?_⟩
              · rfl
              · rfl
              · rfl
      · rw [if_pos h3]
        have q3 : (e3 != 0) = true := by simpa using h3
        go_enter Tryz.func42, Tryz.ntmps42
        go_wp2_with (go_at_call 67; refine HB.out.mono ?_; rintro e w1 ⟨rfl, rfl⟩)
        go_region_held (fun w' => w'.cell? ⟨lb, 1, none⟩ = some (.int .i64 L.tape) ∧ w'.cell? ⟨lb, 2, none⟩ = some (.int .i64 L.epoch)) (first | exact HC.out _ (HBD.out 1) | exact HC.out _ hb2 | exact d13) (first | (go_at_call 60; refine (HP.out _ (HBD.out 1)).mono ?_; rintro e w1 ⟨rfl, hb2⟩) | (go_at_call 68; refine (HW.out _ hb2).mono ?_; rintro e w2 ⟨rfl, fp2, h2⟩; have d1 := h2.cells.2.1; have e2' := h2.cells.2.2.1; rw [he2] at e2'; rw [ht2] at d1; have d13 := And.intro d1 e2'; have c0 := h2.cells.1; have HL2 := hd h2; clear h2))
        all_goals
          go_wp2_with (fail)
          go_region_held (fun w' => w'.cell? ⟨lb, 0, none⟩ = some (.pointer (some ⟨b, 0, none⟩)) ∧ w'.cell? ⟨lb, 1, none⟩ = some (.int .i64 L.tape)) (first | exact ⟨c0, d1⟩ | exact ⟨k0, g1⟩) ((go_at_call 56; refine (HZ.out _ _ (HL2.out.drewN 1)).mono ?_; rintro e w3 ⟨rfl, fp3, h3⟩; obtain ⟨k0, g1, g2, g3, c4⟩ := h3.cells; rw [ht2] at g1; rw [he2] at g2; rw [hr2] at g3; have f1 := h3.free 1; have f2 := h3.free 2; have f3 := h3.free 3; have f4 := h3.free 4; have HL3 := hd h3; clear h3))
          all_goals
            go_wp2_with (fail)
            go_ret
            exact ⟨rfl, _, HL3.out.set (L' := { L2 with broken := true }) 4 _ rfl⟩
    · rw [if_pos he]
      have g0 : (e2 != 0) = true := by simpa using he
      go_enter Tryz.func42, Tryz.ntmps42
      go_wp2_with (go_at_call 67; refine HB.out.mono ?_; rintro e w1 ⟨rfl, rfl⟩)
      go_region_held (fun w' => w'.cell? ⟨lb, 1, none⟩ = some (.int .i64 L.tape) ∧ w'.cell? ⟨lb, 2, none⟩ = some (.int .i64 L.epoch)) (first | exact HC.out _ (HBD.out 1) | exact HC.out _ hb2 | exact d13) (first | (go_at_call 60; refine (HP.out _ (HBD.out 1)).mono ?_; rintro e w1 ⟨rfl, hb2⟩) | (go_at_call 68; refine (HW.out _ hb2).mono ?_; rintro e w2 ⟨rfl, fp2, h2⟩; have d1 := h2.cells.2.1; have e2' := h2.cells.2.2.1; rw [he2] at e2'; rw [ht2] at d1; have d13 := And.intro d1 e2'; have HL2 := hd h2; clear h2))
      all_goals
        go_wp2_with (fail)
        go_ret
        exact ⟨rfl, _, HL2.out⟩
  · rw [if_pos h0]
    have g0 : (n0 != 0) = true := by simpa using h0
    have HL := hd h
    clear h hn0
    go_enter Tryz.func42, Tryz.ntmps42
    go_wp2_with (go_at_call 67; refine HB.out.mono ?_; rintro e w1 ⟨rfl, rfl⟩)
    go_ret
    exact ⟨rfl, _, HL.out⟩
end Go.Proofs.YtopajmbblemopaaGreatDoor
namespace Go.Proofs.YtopajmbblemopaaGreatDoor
set_option linter.unusedVariables false
set_option linter.unusedSimpArgs false
open Go.RowKit Go.Proofs.YtopajmbblemopaaGreatDoor.XPg
/-- A tape is emptied, if it has anything. -/
def clr (s : RS) (t : Int) (x : Txt) : RS × Int := if x = [] then (s, 0) else s.wipe t
/-- What lies right is kept. -/
def cutTo (s : RS) (t : Int) (n m : Nat) : RS × Int := if n = m then (s, 0) else s.trim t n
theorem RPost.self {w : World} {b : Nat} {s : RS} {fp : List Nat} (h : ReelAt w b s fp) : RPost w b fp s w := ⟨fp, h, Chg.refl _ _, fun _ h => .inl h⟩
theorem clr_walk (tb kb rb b : Nat) (t : Int) (x : ByteArray) (s : RS) (fp : List Nat) (w : World) (hR : ReelAt w b s fp) (ht : t = 0 ∨ t = 1)
    (h1 : w.cell? ⟨tb, t.toNat, none⟩ = some (.string x)) (h2 : w.cell? ⟨kb, 0, none⟩ = some (.int .i64 t)) (h3 : w.cell? ⟨rb, 0, none⟩ = some (.pointer (some ⟨b, 0, none⟩))) :
    Calls Tryz.prog 55 #[.pointer (some ⟨tb, 0, none⟩), .pointer (some ⟨kb, 0, none⟩), .pointer (some ⟨rb, 0, none⟩)] w fun e w' =>
      e = .returned (.int .i64 (clr s t (bsL x)).2) ∧ RPost w b fp (clr s t (bsL x)).1 w' := by
  have zx := bs_size x
  unfold clr
  by_cases hx : bsL x = []
  · rw [if_pos hx]
    have hs : x.toList = [] := by rw [bs_toList]; exact hx
    have hP := hd (RPost.self hR)
    clear hR
    rcases ht with rfl | rfl
    · simp only [Int.toNat_zero] at h1
      go_enter Tryz.func55, Tryz.ntmps55
      go_wp2
      go_ret
      exact ⟨rfl, hP.out⟩
    · simp only [Int.toNat_one] at h1
      go_enter Tryz.func55, Tryz.ntmps55
      go_wp2
      go_ret
      exact ⟨rfl, hP.out⟩
  · rw [if_neg hx]
    have hs : x.toList.isEmpty = false := by rw [bs_toList]; simpa using hx
    have HW := hd (wipe_any b t s fp w hR)
    clear hR
    rcases ht with rfl | rfl
    · simp only [Int.toNat_zero] at h1
      go_enter Tryz.func55, Tryz.ntmps55
      go_wp2_with (go_at_call 56; refine HW.out.mono ?_; rintro e w1 ⟨rfl, hp⟩)
      go_ret
      exact ⟨rfl, hp⟩
    · simp only [Int.toNat_one] at h1
      go_enter Tryz.func55, Tryz.ntmps55
      go_wp2_with (go_at_call 56; refine HW.out.mono ?_; rintro e w1 ⟨rfl, hp⟩)
      go_ret
      exact ⟨rfl, hp⟩
theorem RPost.below {w w1 w2 : World} {b : Nat} {s : RS} {fp : List Nat} (hb : Below w.heap.size w w1) (h : RPost w1 b fp s w2) : RPost w b fp s w2 := by
  obtain ⟨fp2, a, c, f⟩ := h
  exact ⟨fp2, a, (Chg.of_below hb _).trans c (fun i q => .inl q), fun k hk => (f k hk).elim .inl (fun q => .inr (Nat.le_trans hb.size q))⟩
theorem Chg.cell {S : Nat → Prop} {w w' : World} (h : Chg S w w') {p : Addr} {v : Value} (hc : w.cell? p = some v) (hn : ¬ S p.block) : w'.cell? p = some v := by
  have hl := World.block_lt_of_cell? w _ hc
  rw [← hc]
  unfold World.cell?
  rw [h.block _ hl hn]
theorem RPost.cell {w w2 : World} {b : Nat} {s : RS} {fp : List Nat} (h : RPost w b fp s w2) {p : Addr} {v : Value} (hc : w.cell? p = some v) (hn : p.block ∉ fp) : w2.cell? p = some v := by
  obtain ⟨fp2, a, c, f⟩ := h
  exact c.cell hc hn
theorem first_walk (rb b : Nat) (s : RS) (fp : List Nat) (w : World) (hG : Gl w) (hrb : rb ∉ fp) (hR : ReelAt w b s fp) (h3 : w.cell? ⟨rb, 0, none⟩ = some (.pointer (some ⟨b, 0, none⟩))) :
    Calls Tryz.prog 58 #[.pointer (some ⟨rb, 0, none⟩)] w fun e w' =>
      e = .returned (.int .i64 (s.write 0 (laidL kBase 1 [])).2) ∧ RPost w b fp (s.write 0 (laidL kBase 1 [])).1 w' := by
  have hin : inI64 1 := by unfold inI64; omega
  have hlen := laid_size kBase 1 [] (by decide) hin (by decide)
  obtain ⟨pg, hpg⟩ : ∃ pg, laidL kBase 1 [] = pg := ⟨_, rfl⟩
  have HP : Hd (∀ w1 : World, Below w.heap.size w w1 → Calls Tryz.prog 60 #[.string ⟨#[98, 97, 115, 101]⟩, .int .i64 1, .string ⟨#[]⟩] w1 fun e w' => e = .returned (.string (str pg)) ∧ Below w.heap.size w w') := by
    refine hd fun w1 hb => ?_
    rw [← hpg]
    exact (laid_call ⟨#[98, 97, 115, 101]⟩ 1 ⟨#[]⟩ w1 (gl_below hG hb) (by decide) hin (by decide)).mono fun e w' ⟨h1, h2⟩ => ⟨h1, hb.trans (h2.mono hb.size)⟩
  rw [hpg] at hlen ⊢
  have HBD : Hd (∀ n, Below w.heap.size w (w.drewN n)) := hd fun n => ⟨rfl, rfl, rfl, Nat.le_refl _, fun _ _ => rfl⟩
  have HW : Hd (∀ w1, Below w.heap.size w w1 → Calls Tryz.prog 59 #[.pointer (some ⟨b, 0, none⟩), .int .i64 0, .string (str pg)] w1 fun e w' => e = .returned (.int .i64 (s.write 0 pg).2) ∧ RPost w b fp (s.write 0 pg).1 w') := by
    refine hd fun w1 hb => ?_
    refine (write_any b 0 s fp w1 (str pg) (hR.chg (Chg.of_below hb (fun _ => False)) (fun _ _ q => q)) (by rw [str_size]; omega)).mono ?_
    rintro e w' ⟨rfl, hp⟩
    exact ⟨rfl, RPost.below hb hp⟩
  have HC : Hd (∀ w1 : World, Below w.heap.size w w1 → w1.cell? ⟨rb, 0, none⟩ = some (.pointer (some ⟨b, 0, none⟩))) := hd fun w1 hb => (Below.cell hb (World.block_lt_of_cell? w _ h3)).trans h3
  clear hG hR hpg hlen
  go_enter Tryz.func58, Tryz.ntmps58
  go_wp2_with (fail)
  go_region_held (fun w' => w'.cell? ⟨rb, 0, none⟩ = some (.pointer (some ⟨b, 0, none⟩))) (first | exact h3 | exact c2 | exact c1) (first | (go_at_call 60; refine (HP.out _ (HBD.out 1)).mono ?_; rintro e w1 ⟨rfl, hb1⟩; have c1 := HC.out _ hb1) | (go_at_call 59; refine (HW.out _ hb1).mono ?_; rintro e w2 ⟨rfl, hp⟩; have c2 := RPost.cell hp h3 hrb))
  all_goals
    go_wp2_with (fail)
    go_ret
    exact ⟨rfl, hp⟩
theorem safe_walk (rb b : Nat) (s : RS) (fp : List Nat) (w : World) (hR : ReelAt w b s fp) (h3 : w.cell? ⟨rb, 0, none⟩ = some (.pointer (some ⟨b, 0, none⟩))) :
    Calls Tryz.prog 61 #[.pointer (some ⟨rb, 0, none⟩)] w fun e w' =>
      e = .returned (.int .i64 (s.sync 0).2) ∧ RPost w b fp (s.sync 0).1 w' := by
  have HW := hd (sync_any b 0 s fp w hR)
  clear hR
  go_enter Tryz.func61, Tryz.ntmps61
  go_wp2_with (go_at_call 62; refine HW.out.mono ?_; rintro e w1 ⟨rfl, hp⟩)
  go_ret
  exact ⟨rfl, hp⟩
theorem cut_walk (cb tb kb rb b : Nat) (t : Int) (n : Nat) (x : ByteArray) (s : RS) (fp : List Nat) (w : World) (hR : ReelAt w b s fp) (ht : t = 0 ∨ t = 1)
    (h0 : w.cell? ⟨cb, 3, none⟩ = some (.int .i64 n)) (h1 : w.cell? ⟨tb, t.toNat, none⟩ = some (.string x)) (h2 : w.cell? ⟨kb, 0, none⟩ = some (.int .i64 t)) (h3 : w.cell? ⟨rb, 0, none⟩ = some (.pointer (some ⟨b, 0, none⟩)))
    (hx : x.size ≤ 4294967000) :
    Calls Tryz.prog 63 #[.pointer (some ⟨cb, 0, none⟩), .pointer (some ⟨tb, 0, none⟩), .pointer (some ⟨kb, 0, none⟩), .pointer (some ⟨rb, 0, none⟩)] w fun e w' =>
      e = .returned (.int .i64 (cutTo s t n x.size).2) ∧ RPost w b fp (cutTo s t n x.size).1 w' := by
  unfold cutTo
  by_cases hn : n = x.size
  · rw [if_pos hn]
    have hP := hd (RPost.self hR)
    have hn2 : ((n : Int) == (x.size : Int)) = true := by rw [hn]; exact beq_self_eq_true _
    clear hR hn
    rcases ht with rfl | rfl
    · simp only [Int.toNat_zero] at h1
      go_enter Tryz.func63, Tryz.ntmps63
      go_wp2_with (fail)
      go_region
      all_goals
        go_wp2_with (fail)
        go_ret
        exact ⟨rfl, RPost.drewN hP.out 1⟩
    · simp only [Int.toNat_one] at h1
      go_enter Tryz.func63, Tryz.ntmps63
      go_wp2_with (fail)
      go_region
      all_goals
        go_wp2_with (fail)
        go_ret
        exact ⟨rfl, RPost.drewN hP.out 1⟩
  · rw [if_neg hn]
    have hn2 : ((n : Int) == (x.size : Int)) = false := beq_eq_false_iff_ne.2 (by omega)
    have hbd : Below w.heap.size w (w.drewN 1) := ⟨rfl, rfl, rfl, Nat.le_refl _, fun _ _ => rfl⟩
    have HW : Hd (Calls Tryz.prog 64 #[.pointer (some ⟨b, 0, none⟩), .int .i64 t, .int .i64 n] (w.drewN 1) fun e w' => e = .returned (.int .i64 (s.trim t n).2) ∧ RPost w b fp (s.trim t n).1 w') :=
      hd ((trim_any b t n s fp (w.drewN 1) (hR.chg (Chg.of_below hbd (fun _ => False)) (fun _ _ q => q))).mono fun e w' ⟨h1, h2⟩ => ⟨h1, RPost.below hbd h2⟩)
    clear hbd
    clear hR hn
    rcases ht with rfl | rfl
    · simp only [Int.toNat_zero] at h1
      go_enter Tryz.func63, Tryz.ntmps63
      go_wp2_with (fail)
      go_region
      all_goals
        go_wp2_with (go_at_call 64; refine HW.out.mono ?_; rintro e w1 ⟨rfl, hp⟩)
        go_ret
        exact ⟨rfl, hp⟩
    · simp only [Int.toNat_one] at h1
      go_enter Tryz.func63, Tryz.ntmps63
      go_wp2_with (fail)
      go_region
      all_goals
        go_wp2_with (go_at_call 64; refine HW.out.mono ?_; rintro e w1 ⟨rfl, hp⟩)
        go_ret
        exact ⟨rfl, hp⟩
end Go.Proofs.YtopajmbblemopaaGreatDoor
