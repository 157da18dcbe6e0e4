/-
  Lemmas, joined of the texts SV0 SV1.
-/
import Derived.Test.YtopajmbblemopaaGreatDoorMB25
import Derived.Test.YtopajmbblemopaaGreatDoorMB27
namespace Go.Proofs.YtopajmbblemopaaGreatDoor
set_option linter.unusedVariables false
set_option linter.unusedSimpArgs false
open Go.RowKit Go.Maps Go.Proofs.YtopajmbblemopaaGreatDoor.XSs Go.Proofs.YtopajmbblemopaaGreatDoorW.PrintWords Go.Proofs.YtopajmbblemopaaGreatDoorW.PrintLast Go.Proofs.YtopajmbblemopaaGreatDoorW.PrintMore
theorem num5_any (x : Int) (w : World) : Calls Tryz.prog 12 #[.int .i64 x] w fun e w' => e = .returned (.int .i64 x) ∧ w = w' := by
  go_enter Tryz.func12, Tryz.ntmps12
  go_wp2
  go_ret
  exact ⟨rfl, rfl⟩
section
variable {w0 w w' : World} {b sb mb lb : Nat} {s : RS} {L : LS} {p : Sh} {fp : List Nat}
/-- Opened, and all is well. -/
theorem own_sopen (hG : Gl w0) (h : MineL w0 w b s fp) {s' : RS} {L : LS} {e0 : Int} {base : Txt} {recs : List Txt} {n : Nat} (ho : openM s = (s', 0)) (hof : openOf (tapeOf s 0) (tapeOf s 1) = L) (hc : pickC (tapeOf s 0) (tapeOf s 1) = (e0, base, recs, n)) (hr : readTexts (base :: recs) [] = some p) (hn : recs.length ≤ 5000000) :
    Calls Tryz.prog 13 #[.pointer (some ⟨b, 0, none⟩)] w fun e w' => ∃ fp' sb mb lb, e = .returned (.tuple #[.pointer (some ⟨sb, 0, none⟩), .int .i64 0]) ∧ ShAt w0 w' b sb mb lb s' L p fp' ∧ Chg (· ∈ fp) w w' ∧ (∀ k, Foot sb mb lb fp' k → k ∈ fp ∨ w.heap.size ≤ k) := by
  refine (sh_open hG h s' 0 L e0 base recs n ho hof hc hn).mono ?_
  rintro e w' ⟨fp', hm, c, f, hq⟩
  rcases hq with ⟨q, _⟩ | ⟨_, q, _⟩ | ⟨_, p', sb, mb, lb, hp, rfl, hS, h1, h2, h3⟩
  · exact absurd rfl q
  · rw [hr] at q; cases q
  · rw [hr] at hp
    injection hp with hp
    subst hp
    refine ⟨fp', sb, mb, lb, rfl, hS, c, ?_⟩
    rintro k (rfl | rfl | rfl | hk)
    · exact .inr h1
    · exact .inr h2
    · exact .inr h3
    · exact f k hk
/-- Changes that are written out in the call. -/
theorem commit_lit (hG : Gl w0) (h : ShAt w0 w b sb mb lb s L p fp) (hO : L.Ok) (l : List MC) (hl : l.length ≤ 4096) (hs : ∀ c ∈ l, c.key.size ≤ maxLen ∧ c.val.size ≤ maxLen) (hp : p.length ≤ 1000000) (ht : costC (l.map MC.toC) ≤ 4194304) {s' : RS} {L' : LS} {p' : Sh} {er : Int} (hm : commitM s L p (l.map MC.toC) = (s', L', p', er)) :
    Calls Tryz.prog 14 #[.pointer (some ⟨sb, 0, none⟩), .slice (some ⟨w.heap.size, 0, none⟩) l.length l.length] (w.alloc (.cells (chsV l).toArray 51)) fun r w' => r = .returned (.int .i64 er) ∧ ShPost w0 w w' b sb mb lb fp s' L' p' := by
  have hb : Below w.heap.size w (w.alloc (.cells (chsV l).toArray 51)) := (Below.refl _ _).alloc (Nat.le_refl _) _
  refine (sh_commit hG (h.below_ hb) hO (ChAt.lit w l (by omega) hs) (Nat.le_refl _) hl (fun _ k off q hk => ?_) hp ht hm).mono ?_
  · injection q with q
    injection q with q1 q2
    have := h.lt k hk
    omega
  · rintro r w' ⟨rfl, hq⟩
    exact ⟨rfl, ShPost.first hb hq⟩
theorem own_scrash (h : ShAt w0 w b sb mb lb s L p fp) (k0 k1 : Int) (turn : UInt8) :
    Calls Tryz.prog 22 #[.pointer (some ⟨b, 0, none⟩), .agg #[.int .i64 k0, .int .i64 k1, .int .u8 turn.toNat]] w fun r w' => r = .returned (.tuple #[]) ∧ ShPost w0 w w' b sb mb lb fp (s.crash k0 k1 turn) L p := by
  refine (crash_any b k0 k1 turn s fp w h.mine.at_).mono ?_
  rintro r w' ⟨rfl, hp⟩
  exact ⟨rfl, h.reel hp⟩
theorem own_sarm (h : ShAt w0 w b sb mb lb s L p fp) (n : Int) (h0 : -9223372036854775808 ≤ n) (h1 : n ≤ 9223372036854775807) :
    Calls Tryz.prog 25 #[.pointer (some ⟨b, 0, none⟩), .int .i64 n] w fun r w' => r = .returned (.tuple #[]) ∧ ShPost w0 w w' b sb mb lb fp (s.arm n) L p := by
  refine (arm_any b n s fp w h.mine.at_ h0 h1).mono ?_
  rintro r w' ⟨rfl, hp⟩
  exact ⟨rfl, h.reel hp⟩
/-- A scan as a row that lasts. -/
theorem own_scan (h : ShAt w0 w b sb mb lb s L p fp) (f t : ByteArray) (hp : p.length ≤ 1000000) (hV : Valid p) :
    Calls Tryz.prog 15 #[.pointer (some ⟨sb, 0, none⟩), .string f, .string t] w fun e w' => ∃ v, e = .returned v ∧ PRow w' (Foot sb mb lb fp) v (scanS (bsL f) (bsL t) p) ∧ Below w.heap.size w w' := by
  refine (sh_scan h f t hp (fun a ha => by have := (hV.slim a ha).1; unfold maxLen; omega)).mono ?_
  rintro e w' ⟨v, B, rfl, hB, ho, hb⟩
  exact ⟨v, rfl, PRow.of_own ho (fun k hk => by have := h.lt k hk; omega), hb⟩
theorem own_scan0 (h : ShAt w0 w b sb mb lb s L p fp) (hp : p.length ≤ 1000000) (hV : Valid p) :
    Calls Tryz.prog 15 #[.pointer (some ⟨sb, 0, none⟩), .string ⟨#[]⟩, .string ⟨#[]⟩] w fun e w' => ∃ v, e = .returned v ∧ PRow w' (Foot sb mb lb fp) v p ∧ Below w.heap.size w w' := by
  refine (own_scan h ⟨#[]⟩ ⟨#[]⟩ hp hV).mono ?_
  rintro e w' ⟨v, rfl, hr, hb⟩
  have he : scanS (bsL ⟨#[]⟩) (bsL ⟨#[]⟩) p = p := scanS_all p
  rw [he] at hr
  exact ⟨v, rfl, hr, hb⟩
end
end Go.Proofs.YtopajmbblemopaaGreatDoor
namespace Go.Proofs.YtopajmbblemopaaGreatDoor
set_option linter.unusedVariables false
set_option linter.unusedSimpArgs false
open Go.RowKit Go.Maps Go.Proofs.YtopajmbblemopaaGreatDoor.XSs Go.Proofs.YtopajmbblemopaaGreatDoorW.PrintWords Go.Proofs.YtopajmbblemopaaGreatDoorW.PrintLast Go.Proofs.YtopajmbblemopaaGreatDoorW.PrintMore
def mA : List MC := [⟨⟨#[97]⟩, ⟨#[49]⟩, false⟩, ⟨⟨#[98]⟩, ⟨#[50]⟩, false⟩]
def mB : List MC := [⟨⟨#[97]⟩, ⟨#[]⟩, true⟩]
def mZ : List MC := [⟨⟨#[]⟩, ⟨#[]⟩, false⟩]
theorem pB_ok : pB.length ≤ 1000000 ∧ Valid pB := ⟨by decide, fun a ha => by
  rcases List.mem_singleton.1 ha with rfl
  decide⟩
set_option maxHeartbeats 1600000 in
theorem slive_any (w0 w : World) (hG : Gl w0) (hb : Below w0.heap.size w0 w) : Calls Tryz.prog 10 #[] w fun e w' => e = .returned (.bool true) ∧ Below w0.heap.size w0 w' := by
  obtain ⟨s1, L1, s2, L2, s3, L3, s4, L4, r1, r2, n4, o1, f1, p1, k1, c2, k2, c3, o4, f4, p4, t4, k4, n42, c4, _⟩ := slive_plain
  have O1 := hd (fun (w : World) (b : Nat) (fp : List Nat) (h : MineL w0 w b (RS.new 10000) fp) => own_sopen (p := []) hG h o1 f1 p1 rfl (by decide))
  have C2 := hd (fun (w : World) (b sb mb lb : Nat) (fp : List Nat) (h : ShAt w0 w b sb mb lb s1 L1 [] fp) => commit_lit hG h k1 mA (by decide) (by decide) (by decide) (by decide) c2)
  have C3 := hd (fun (w : World) (b sb mb lb : Nat) (fp : List Nat) (h : ShAt w0 w b sb mb lb s2 L2 pA fp) => commit_lit hG h k2 mB (by decide) (by decide) (by decide) (by decide) c3)
  have O4 := hd (fun (w : World) (b : Nat) (fp : List Nat) (h : MineL w0 w b (s3.crash 0 0 0) fp) => own_sopen (p := pB) hG h o4 f4 p4 t4 (by simp))
  have C4 := hd (fun (w : World) (b sb mb lb : Nat) (fp : List Nat) (h : ShAt w0 w b sb mb lb s4 L4 pB fp) => commit_lit hG h k4 mZ (by decide) (by decide) (by decide) (by decide) c4)
  have E4 := hd n42
  clear o1 f1 p1 k1 c2 k2 c3 o4 f4 p4 t4 k4 n42 c4
  have HG := hd hG
  have HB := hd hb
  clear hG hb
  go_enter Tryz.func10, Tryz.ntmps10
  go_wp2_with (go_at_call 12; refine (num5_any _ _).mono ?_; rintro e w' ⟨rfl, rfl⟩)
  refine (own_new 10000 w0 _ HB.out (by decide) (by decide)).mono ?_
  rintro e w1 ⟨b, fp1, rfl, hm, _⟩
  have HM1 := hd hm
  clear hm
  go_wp2_with (go_at_call 12; refine (num5_any _ _).mono ?_; rintro e w' ⟨rfl, rfl⟩)
  refine (O1.out _ b fp1 HM1.out).mono ?_
  rintro e w2 ⟨fp2, sb, mb, lb, rfl, hs, _, _⟩
  have HS2 := hd hs
  clear hs HM1
  go_wp2_with (go_at_call 12; refine (num5_any _ _).mono ?_; rintro e w' ⟨rfl, rfl⟩)
  refine (C2.out _ b sb mb lb fp2 HS2.out).mono ?_
  rintro e w3 ⟨rfl, fp3, hs, _, _⟩
  have HS3 := hd hs
  clear hs HS2
  go_wp2_with (go_at_call 12; refine (num5_any _ _).mono ?_; rintro e w' ⟨rfl, rfl⟩)
  refine (C3.out _ b sb mb lb fp3 HS3.out).mono ?_
  rintro e w4 ⟨rfl, fp4, hs, _, _⟩
  have HS4 := hd hs
  clear hs HS3
  go_wp2_with (go_at_call 12; refine (num5_any _ _).mono ?_; rintro e w' ⟨rfl, rfl⟩)
  refine (own_scrash HS4.out 0 0 0).mono ?_
  rintro e w5 ⟨rfl, fp5, hs, _, _⟩
  have HS5 := hd hs
  clear hs HS4
  go_wp2_with (go_at_call 12; refine (num5_any _ _).mono ?_; rintro e w' ⟨rfl, rfl⟩)
  refine (O4.out _ b fp5 HS5.out.mine).mono ?_
  rintro e w6 ⟨fp6, tb, nb, kb, rfl, hs, _, _⟩
  have HS6 := hd hs
  clear hs HS5
  go_wp2_with (go_at_call 12; refine (num5_any _ _).mono ?_; rintro e w' ⟨rfl, rfl⟩)
  refine (own_scan0 HS6.out pB_ok.1 pB_ok.2).mono ?_
  rintro e w7 ⟨v7, rfl, hr7, hb7⟩
  obtain ⟨A7, c7, rfl, _, _⟩ := hr7.reads
  have HR7 := hd hr7
  have HS7 := hd (HS6.out.below_ hb7)
  clear hr7 hb7 HS6
  go_wp2_with (fail)
  have hlr := PRow.lit w7 pB (fun _ => False) (by decide) (fun _ q => q.elim)
  refine (psame_call (l0 := pB) (l1 := pB) (HR7.out.below ((Below.refl _ _).alloc (Nat.le_refl _) (.cells (prsV pB).toArray 47))) hlr pB_ok.1).mono ?_
  rintro e w8 ⟨rfl, n8, rfl⟩
  have hs8 : decide (pB = pB) = true := decide_eq_true rfl
  rw [hs8]
  have HS8 := hd ((HS7.out.below_ ((Below.refl _ _).alloc (Nat.le_refl _) (.cells (prsV pB).toArray 47))).drewN n8)
  clear hs8 hlr HS7 HR7
  generalize ((w7.alloc (.cells (prsV pB).toArray 47)).drewN n8) = w8 at *
  have HLN : Hd (Calls Tryz.prog 17 #[.pointer (some ⟨tb, 0, none⟩)] w8 fun e w' => e = .returned (.int .i64 1) ∧ w8 = w') := hd (sh_len HS8.out)
  go_wp2_with (first | (go_at_call 17; refine HLN.out.mono ?_; rintro e w' ⟨rfl, rfl⟩))
  refine (C4.out _ b tb nb kb fp6 HS8.out).mono ?_
  rintro e w9 ⟨rfl, fp9, hs, _, _⟩
  have HS9 := hd hs
  clear hs HS8
  have HRC := hd (sh_records HS9.out)
  rw [E4.out] at HRC
  go_wp2_with (first | (go_at_call 12; refine (num5_any _ _).mono ?_; rintro e w' ⟨rfl, rfl⟩) | (go_at_call 21; refine HRC.out.mono ?_; rintro e w' ⟨rfl, rfl⟩))
  go_ret
  exact ⟨rfl, HS9.out.below⟩
end Go.Proofs.YtopajmbblemopaaGreatDoor
