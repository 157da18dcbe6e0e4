/-
  Lemmas, joined of the texts LW0 LOk.
-/
import Derived.Test.YtopajmbblemopaaGreatDoorMB22
import Derived.Test.YtopajmbblemopaaGreatDoorMB20
namespace Go.Proofs.YtopajmbblemopaaGreatDoor
set_option linter.unusedVariables false
set_option linter.unusedSimpArgs false
open Go.RowKit Go.Proofs.YtopajmbblemopaaGreatDoor.XPg Go.Proofs.YtopajmbblemopaaGreatDoorW.PrintWords Go.Proofs.YtopajmbblemopaaGreatDoorW.PrintLast
structure MineL (w0 w : World) (b : Nat) (s : RS) (fp : List Nat) : Prop where
  below : Below w0.heap.size w0 w
  at_ : ReelAt w b s fp
  low : ∀ k ∈ fp, w0.heap.size ≤ k
structure Lg (w0 w : World) (b : Nat) (fp : List Nat) (lb : Nat) (L : LS) : Prop where
  blk : Blk w lb (LCells b L) 117
  out : lb ∉ fp
  low : w0.heap.size ≤ lb
theorem Lg.led {w0 w : World} {b : Nat} {s : RS} {fp : List Nat} {lb : Nat} {L : LS} (h : Lg w0 w b fp lb L) (m : MineL w0 w b s fp) : LPost w lb b fp s L w fp := LPost.refl ⟨m.at_, h.blk, h.out⟩
theorem MineL.below_ {w0 w w' : World} {b : Nat} {s : RS} {fp : List Nat} (h : MineL w0 w b s fp) (hb : Below w.heap.size w w') : MineL w0 w' b s fp :=
  ⟨h.below.trans (hb.mono h.below.size), h.at_.chg (Chg.of_below hb (fun _ => False)) (fun _ _ q => q), h.low⟩
theorem Lg.below_ {w0 w w' : World} {b : Nat} {fp : List Nat} {lb : Nat} {L : LS} (h : Lg w0 w b fp lb L) (hb : Below w.heap.size w w') : Lg w0 w' b fp lb L := ⟨h.blk.below hb, h.out, h.low⟩
theorem below_drewN0 (w : World) (n : Nat) : Below w.heap.size w (w.drewN n) := ⟨rfl, rfl, rfl, Nat.le_refl _, fun _ _ => rfl⟩
theorem MineL.drewN {w0 w : World} {b : Nat} {s : RS} {fp : List Nat} (h : MineL w0 w b s fp) (n : Nat) : MineL w0 (w.drewN n) b s fp := h.below_ (below_drewN0 w n)
theorem Lg.drewN {w0 w : World} {b : Nat} {fp : List Nat} {lb : Nat} {L : LS} (h : Lg w0 w b fp lb L) (n : Nat) : Lg w0 (w.drewN n) b fp lb L := h.below_ (below_drewN0 w n)
theorem MineL.lt {w0 w : World} {b : Nat} {s : RS} {fp : List Nat} (h : MineL w0 w b s fp) : ∀ k ∈ fp, k < w.heap.size := h.at_.lt
/-- A call of the reel alone. -/
theorem MineL.next {w0 w w' : World} {b : Nat} {s s' : RS} {fp : List Nat} (h : MineL w0 w b s fp) (p : RPost w b fp s' w') : ∃ fp', MineL w0 w' b s' fp' ∧ (∀ lb L, Lg w0 w b fp lb L → Lg w0 w' b fp' lb L) ∧ Chg (· ∈ fp) w w' ∧ (∀ k ∈ fp', k ∈ fp ∨ w.heap.size ≤ k) := by
  obtain ⟨fp', a, c, f⟩ := p
  have hs := h.below.size
  refine ⟨fp', ⟨h.below.trans (c.below hs h.low), a, fun k hk => (f k hk).elim (h.low k) (fun q => by omega)⟩, fun lb L hl => ⟨hl.blk.chg c hl.out, fun q => ?_, hl.low⟩, c, f⟩
  have := hl.blk.lt
  rcases f lb q with q | q
  · exact hl.out q
  · omega
theorem own_new (room : Int) (w0 w : World) (hb : Below w0.heap.size w0 w) (h0 : 0 ≤ room) (h1 : room ≤ 4194304) :
    Calls Tryz.prog 11 #[.int .i64 room] w fun e w' => ∃ b fp, e = .returned (.tuple #[.pointer (some ⟨b, 0, none⟩), .int .i64 0]) ∧ MineL w0 w' b (RS.new room) fp ∧ Below w.heap.size w w' := by
  refine (new_any room w h0 h1).mono ?_
  rintro e w' ⟨b, fp, rfl, hR, hC, hf⟩
  have hs := hb.size
  have hbw := hC.below (Nat.le_refl _) (fun _ q => q.elim)
  exact ⟨b, fp, rfl, ⟨hb.trans (hbw.mono hs), hR, fun k hk => by have := hf k hk; omega⟩, hbw⟩
theorem own_of_post {w0 w w' : World} {b lb : Nat} {s s' : RS} {fp fp' : List Nat} {L L' : LS} (h : MineL w0 w b s fp) (hl : Lg w0 w b fp lb L) (p : LPost w lb b fp s' L' w' fp') :
    MineL w0 w' b s' fp' ∧ Lg w0 w' b fp' lb L' ∧ Chg (fun k => k = lb ∨ k ∈ fp) w w' ∧ (∀ k ∈ fp', k ∈ fp ∨ w.heap.size ≤ k) := by
  have hs := h.below.size
  have hlow := hl.low
  refine ⟨⟨h.below.trans (p.chg.below hs ?_), p.at_.reel, fun k hk => (p.foot k hk).elim (h.low k) (fun q => by omega)⟩, ⟨p.at_.blk, p.at_.out, hl.low⟩, p.chg, p.foot⟩
  rintro i (q | q)
  · rw [q]; exact hl.low
  · exact h.low i q
theorem own_add {w0 w : World} {b lb : Nat} {s : RS} {fp : List Nat} {L : LS} (hG : Gl w0) (h : MineL w0 w b s fp) (hl : Lg w0 w b fp lb L) (hO : L.Ok) (q : ByteArray) (hq : q.size ≤ 4194304) (s' : RS) (L' : LS) (er : Int) (hm : addM s L (bsL q) = (s', L', er)) :
    Calls Tryz.prog 38 #[.pointer (some ⟨lb, 0, none⟩), .string q] w fun r w' => r = .returned (.int .i64 er) ∧ ∃ fp', MineL w0 w' b s' fp' ∧ Lg w0 w' b fp' lb L' ∧ Chg (fun k => k = lb ∨ k ∈ fp) w w' ∧ (∀ k ∈ fp', k ∈ fp ∨ w.heap.size ≤ k) := by
  refine (add_walk lb b s L fp fp w w q (gl_below hG h.below) hO (hl.led h) hq).mono ?_
  rintro r w' ⟨rfl, fp', p⟩
  rw [hm] at p ⊢
  exact ⟨rfl, fp', own_of_post h hl p⟩
theorem own_base {w0 w : World} {b lb : Nat} {s : RS} {fp : List Nat} {L : LS} (hG : Gl w0) (h : MineL w0 w b s fp) (hl : Lg w0 w b fp lb L) (hO : L.Ok) (q : ByteArray) (hq : q.size ≤ 4194304) (s' : RS) (L' : LS) (er : Int) (hm : baseM s L (bsL q) = (s', L', er)) :
    Calls Tryz.prog 42 #[.pointer (some ⟨lb, 0, none⟩), .string q] w fun r w' => r = .returned (.int .i64 er) ∧ ∃ fp', MineL w0 w' b s' fp' ∧ Lg w0 w' b fp' lb L' ∧ Chg (fun k => k = lb ∨ k ∈ fp) w w' ∧ (∀ k ∈ fp', k ∈ fp ∨ w.heap.size ≤ k) := by
  refine (base_walk lb b s L fp fp w w q (gl_below hG h.below) hO (hl.led h) hq).mono ?_
  rintro r w' ⟨rfl, fp', p⟩
  rw [hm] at p ⊢
  exact ⟨rfl, fp', own_of_post h hl p⟩
end Go.Proofs.YtopajmbblemopaaGreatDoor
namespace Go.Proofs.YtopajmbblemopaaGreatDoor
set_option linter.unusedVariables false
set_option linter.unusedSimpArgs false
open Go.RowKit
structure LOk (L : LS) (k : Nat) : Prop where
  tape : L.tape = 0 ∨ L.tape = 1
  epoch0 : 0 ≤ L.epoch
  epoch1 : L.epoch ≤ 4611686018427387904 + k
  recs0 : 0 ≤ L.recs
  recs1 : L.recs ≤ 5000000 + k
theorem LOk.ok {L : LS} {k : Nat} (h : LOk L k) (hk : k ≤ 1000) : L.Ok :=
  ⟨h.tape, h.epoch0, by have := h.epoch1; omega, h.recs0, by have := h.recs1; omega⟩
theorem LOk.later {L : LS} {k : Nat} (h : LOk L k) : LOk L (k + 1) :=
  ⟨h.tape, h.epoch0, by have := h.epoch1; omega, h.recs0, by have := h.recs1; omega⟩
theorem LOk.of_keeps {L L' : LS} {k : Nat} (h : LOk L k) (e : L'.tape = L.tape ∧ L'.epoch = L.epoch ∧ L'.recs = L.recs) : LOk L' k :=
  ⟨by rw [e.1]; exact h.tape, by rw [e.2.1]; exact h.epoch0, by rw [e.2.1]; exact h.epoch1, by rw [e.2.2]; exact h.recs0, by rw [e.2.2]; exact h.recs1⟩
theorem LOk.add {L : LS} {k : Nat} (h : LOk L k) (s : RS) (q : Txt) : LOk (addM s L q).2.1 (k + 1) := by
  unfold addM
  split
  · exact h.later
  · have h2 := h.of_keeps (wr_keeps s L L.tape (laidL kRec (L.recs + 1) q))
    split
    · refine ⟨h2.tape, h2.epoch0, h2.later.epoch1, ?_, ?_⟩
      · have := h2.recs0
        show (0 : Int) ≤ (wr s L L.tape (laidL kRec (L.recs + 1) q)).2.1.recs + 1
        omega
      · have := h2.recs1
        show (wr s L L.tape (laidL kRec (L.recs + 1) q)).2.1.recs + 1 ≤ 5000000 + ((k + 1 : Nat) : Int)
        omega
    · exact h2.later
theorem LOk.base {L : LS} {k : Nat} (h : LOk L k) (s : RS) (q : Txt) : LOk (baseM s L q).2.1 (k + 1) := by
  unfold baseM
  split
  · exact h.later
  · have h2 := h.of_keeps (wr_keeps s L (1 - L.tape) (laidL kBase (L.epoch + 1) q))
    split
    · exact h2.later
    · split
      · exact ⟨h2.tape, h2.epoch0, h2.later.epoch1, h2.recs0, h2.later.recs1⟩
      · have t := h.tape
        have e0 := h.epoch0
        have e1 := h.epoch1
        refine ⟨?_, ?_, ?_, ?_, ?_⟩
        · show 1 - L.tape = 0 ∨ 1 - L.tape = 1
          omega
        · show 0 ≤ L.epoch + 1
          omega
        · show L.epoch + 1 ≤ 4611686018427387904 + ((k + 1 : Nat) : Int)
          omega
        · show (0 : Int) ≤ 0
          omega
        · show (0 : Int) ≤ 5000000 + ((k + 1 : Nat) : Int)
          omega
end Go.Proofs.YtopajmbblemopaaGreatDoor
