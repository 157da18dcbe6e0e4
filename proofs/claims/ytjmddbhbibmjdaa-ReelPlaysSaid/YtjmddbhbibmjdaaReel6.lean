/-
  Trim.
-/
import Derived.Test.YtjmddbhbibmjdaaReel5
namespace Go.Proofs.Ytjmddbhbibmjdaa
set_option linter.unusedVariables false
set_option linter.unusedSimpArgs false
open Go.RowKit

theorem RS.Ok.trims {s : RS} (h : s.Ok) (t : Int) (m m' : Nat) : (s.put t ((s.safe t).take m) ((s.rest t).take m')).Ok := by
  have := h.free
  refine h.put t _ _ ?_
  simp only [List.length_take]
  omega
theorem trim1_of {s : RS} {t n : Int} (h : n ≤ (s.safe t).length + (s.rest t).length) : s.trim1 t n = (s.tick.put t ((s.safe t).take n.toNat) ((s.rest t).take (n.toNat - (s.safe t).length)), 0) := if_neg (by omega)

set_option maxHeartbeats 1600000 in
theorem trim0 (b : Nat) (n : Int) (s s1 : RS) (fp : List Nat) (w : World) (hR : ReelAt w b s fp) (he : s.begin_ 0 = (s1, 0)) (h0 : 0 ≤ n) (h1 : n ≤ s1.s0.length + s1.r0.length) :
    Calls Try.prog 26 #[.pointer (some ⟨b, 0, none⟩), .int .i64 0, .int .i64 n] w fun e w' => e = .returned (.int .i64 0) ∧ RPost w b fp (s1.trim1 0 n).1 w' := by
  have hB := begin_any b 0 s fp w hR
  rw [he] at hB
  have HB := hd hB
  have ht : s1.trim1 0 n = (s1.tick.put 0 (s1.s0.take n.toNat) (s1.r0.take (n.toNat - s1.s0.length)), 0) := trim1_of h1
  clear hB hR he
  by_cases hlt : (s1.s0.length : Int) < n
  · rw [show s1.s0.take n.toNat = s1.s0.take s1.s0.length from by rw [List.take_of_length_le (by omega), List.take_of_length_le (by omega)]] at ht
    have HT := hd ht
    clear ht
    go_enter Try.func26, Try.ntmps26
    go_wp2_with (first | (go_at_call 28; refine HB.out.mono ?_; rintro e w1 ⟨rfl, hp⟩; obtain ⟨ho, v0, v1, v2, v3, U⟩ := hp.up; obtain ⟨⟨c0, c1, c2, c3⟩, c4, c5, c6, c7⟩ := U.parts.cells; have f7 := U.parts.blk.frozen 7; have fi := U.parts.blk.frozen 0; have fk := U.parts.blk.frozen 1; obtain ⟨A, k, rfl, hk⟩ := U.parts.row0.small2; obtain ⟨B, l, rfl, hl⟩ := U.parts.row1.small2; have HU := hd U; have HO := hd ho; have l0 := ho.small; clear hp U ho) | (go_at_call 29; refine (tapelen_any b 0 A B s1.s0.length s1.r0.length k l _ (by go_simp) (by go_simp) (by omega) (by omega)).mono ?_; rintro e w' ⟨rfl, nn, rfl⟩))
    have e1 : IntKind.i64.wrap (n - s1.s0.length) = n - s1.s0.length := IntWalk.i64_in _ (by omega)
    have e2 : (0 : Int) < n - s1.s0.length := by omega
    have e3 : 0 ≤ n - s1.s0.length := by omega
    have e4 : n - s1.s0.length ≤ (l : Int) := by omega
    go_region
    go_wp2
    go_region
    have hl1 : n.toNat - s1.s0.length ≤ s1.r0.length := by omega
    have HX := hd (((HU.out.drewN nn).tick.take1 rfl hl1).take0 rfl (Nat.le_refl _))
    clear hl1 e1 e2 e3 e4 c0 c1 c2 c3 c4 c5 c6 c7 hlt h1
    go_wp2
    go_ret
    rw [HT.out]
    exact ⟨rfl, HX.out.drew.drew.post (HO.out.tick.trims 0 _ _)⟩
  · rw [show n.toNat - s1.s0.length = 0 from by omega] at ht
    have HT := hd ht
    clear ht
    go_enter Try.func26, Try.ntmps26
    go_wp2_with (first | (go_at_call 28; refine HB.out.mono ?_; rintro e w1 ⟨rfl, hp⟩; obtain ⟨ho, v0, v1, v2, v3, U⟩ := hp.up; obtain ⟨⟨c0, c1, c2, c3⟩, c4, c5, c6, c7⟩ := U.parts.cells; have f7 := U.parts.blk.frozen 7; have fi := U.parts.blk.frozen 0; have fk := U.parts.blk.frozen 1; obtain ⟨A, k, rfl, hk⟩ := U.parts.row0.small2; obtain ⟨B, l, rfl, hl⟩ := U.parts.row1.small2; have HU := hd U; have HO := hd ho; have l0 := ho.small; clear hp U ho) | (go_at_call 29; refine (tapelen_any b 0 A B s1.s0.length s1.r0.length k l _ (by go_simp) (by go_simp) (by omega) (by omega)).mono ?_; rintro e w' ⟨rfl, nn, rfl⟩))
    have e1 : IntKind.i64.wrap (n - s1.s0.length) = n - s1.s0.length := IntWalk.i64_in _ (by omega)
    have e2 : ¬ (0 : Int) < n - s1.s0.length := by omega
    have e4 : n ≤ (k : Int) := by omega
    go_region
    go_wp2
    by_cases hlt2 : n < (s1.s0.length : Int)
    · go_region
      have hl1 : n.toNat ≤ s1.s0.length := by omega
      have HX := hd (((HU.out.drewN nn).tick.take1 rfl (Nat.zero_le _)).take0 rfl hl1)
      clear hl1 e1 e2 e4 c0 c1 c2 c3 c4 c5 c6 c7 hlt h1
      go_wp2
      go_ret
      rw [HT.out]
      exact ⟨rfl, HX.out.drew.drew.post (HO.out.tick.trims 0 _ _)⟩
    · go_region
      have hl1 : n.toNat = s1.s0.length := by omega
      have HX := hd (((HU.out.drewN nn).tick.take1 rfl (Nat.zero_le _)).take0 rfl (Nat.le_refl _))
      have HL := hd hl1
      clear hl1 e1 e2 e4 c0 c1 c2 c3 c4 c5 c6 c7 hlt h1
      go_wp2
      go_ret
      rw [HT.out, HL.out]
      exact ⟨rfl, HX.out.drew.drew.post (HO.out.tick.trims 0 _ _)⟩

set_option maxHeartbeats 800000 in
theorem trimlong0 (b : Nat) (n : Int) (s s1 : RS) (fp : List Nat) (w : World) (hR : ReelAt w b s fp) (he : s.begin_ 0 = (s1, 0)) (h0 : 0 ≤ n) (h1 : (s1.s0.length + s1.r0.length : Int) < n) :
    Calls Try.prog 26 #[.pointer (some ⟨b, 0, none⟩), .int .i64 0, .int .i64 n] w fun e w' => e = .returned (.int .i64 2) ∧ RPost w b fp s1 w' := by
  have hB := begin_any b 0 s fp w hR
  rw [he] at hB
  have HB := hd hB
  clear hB hR he
  go_enter Try.func26, Try.ntmps26
  go_wp2_with (first | (go_at_call 28; refine HB.out.mono ?_; rintro e w1 ⟨rfl, hp⟩; obtain ⟨ho, v0, v1, v2, v3, U⟩ := hp.up; obtain ⟨⟨c0, c1, c2, c3⟩, c4, c5, c6, c7⟩ := U.parts.cells; obtain ⟨A, k, rfl, hk⟩ := U.parts.row0.small2; obtain ⟨B, l, rfl, hl⟩ := U.parts.row1.small2; have HP := hd hp; have l0 := ho.small; clear hp U ho) | (go_at_call 29; refine (tapelen_any b 0 A B s1.s0.length s1.r0.length k l _ (by go_simp) (by go_simp) (by omega) (by omega)).mono ?_; rintro e w' ⟨rfl, nn, rfl⟩))
  go_ret
  exact ⟨rfl, HP.out.drewN nn⟩
set_option maxHeartbeats 1600000 in
theorem trim1 (b : Nat) (n : Int) (s s1 : RS) (fp : List Nat) (w : World) (hR : ReelAt w b s fp) (he : s.begin_ 1 = (s1, 0)) (h0 : 0 ≤ n) (h1 : n ≤ s1.s1.length + s1.r1.length) :
    Calls Try.prog 26 #[.pointer (some ⟨b, 0, none⟩), .int .i64 1, .int .i64 n] w fun e w' => e = .returned (.int .i64 0) ∧ RPost w b fp (s1.trim1 1 n).1 w' := by
  have hB := begin_any b 1 s fp w hR
  rw [he] at hB
  have HB := hd hB
  have ht : s1.trim1 1 n = (s1.tick.put 1 (s1.s1.take n.toNat) (s1.r1.take (n.toNat - s1.s1.length)), 0) := trim1_of h1
  clear hB hR he
  by_cases hlt : (s1.s1.length : Int) < n
  · rw [show s1.s1.take n.toNat = s1.s1.take s1.s1.length from by rw [List.take_of_length_le (by omega), List.take_of_length_le (by omega)]] at ht
    have HT := hd ht
    clear ht
    go_enter Try.func26, Try.ntmps26
    go_wp2_with (first | (go_at_call 28; refine HB.out.mono ?_; rintro e w1 ⟨rfl, hp⟩; obtain ⟨ho, v0, v1, v2, v3, U⟩ := hp.up; obtain ⟨⟨c0, c1, c2, c3⟩, c4, c5, c6, c7⟩ := U.parts.cells; have f7 := U.parts.blk.frozen 7; have fi := U.parts.blk.frozen 2; have fk := U.parts.blk.frozen 3; obtain ⟨A, k, rfl, hk⟩ := U.parts.row2.small2; obtain ⟨B, l, rfl, hl⟩ := U.parts.row3.small2; have HU := hd U; have HO := hd ho; have l0 := ho.small; clear hp U ho) | (go_at_call 29; refine (tapelen_any b 2 A B s1.s1.length s1.r1.length k l _ (by go_simp) (by go_simp) (by omega) (by omega)).mono ?_; rintro e w' ⟨rfl, nn, rfl⟩))
    have e1 : IntKind.i64.wrap (n - s1.s1.length) = n - s1.s1.length := IntWalk.i64_in _ (by omega)
    have e2 : (0 : Int) < n - s1.s1.length := by omega
    have e3 : 0 ≤ n - s1.s1.length := by omega
    have e4 : n - s1.s1.length ≤ (l : Int) := by omega
    go_region
    go_wp2
    go_region
    have hl1 : n.toNat - s1.s1.length ≤ s1.r1.length := by omega
    have HX := hd (((HU.out.drewN nn).tick.take3 rfl hl1).take2 rfl (Nat.le_refl _))
    clear hl1 e1 e2 e3 e4 c0 c1 c2 c3 c4 c5 c6 c7 hlt h1
    go_wp2
    go_ret
    rw [HT.out]
    exact ⟨rfl, HX.out.drew.drew.post (HO.out.tick.trims 1 _ _)⟩
  · rw [show n.toNat - s1.s1.length = 0 from by omega] at ht
    have HT := hd ht
    clear ht
    go_enter Try.func26, Try.ntmps26
    go_wp2_with (first | (go_at_call 28; refine HB.out.mono ?_; rintro e w1 ⟨rfl, hp⟩; obtain ⟨ho, v0, v1, v2, v3, U⟩ := hp.up; obtain ⟨⟨c0, c1, c2, c3⟩, c4, c5, c6, c7⟩ := U.parts.cells; have f7 := U.parts.blk.frozen 7; have fi := U.parts.blk.frozen 2; have fk := U.parts.blk.frozen 3; obtain ⟨A, k, rfl, hk⟩ := U.parts.row2.small2; obtain ⟨B, l, rfl, hl⟩ := U.parts.row3.small2; have HU := hd U; have HO := hd ho; have l0 := ho.small; clear hp U ho) | (go_at_call 29; refine (tapelen_any b 2 A B s1.s1.length s1.r1.length k l _ (by go_simp) (by go_simp) (by omega) (by omega)).mono ?_; rintro e w' ⟨rfl, nn, rfl⟩))
    have e1 : IntKind.i64.wrap (n - s1.s1.length) = n - s1.s1.length := IntWalk.i64_in _ (by omega)
    have e2 : ¬ (0 : Int) < n - s1.s1.length := by omega
    have e4 : n ≤ (k : Int) := by omega
    go_region
    go_wp2
    by_cases hlt2 : n < (s1.s1.length : Int)
    · go_region
      have hl1 : n.toNat ≤ s1.s1.length := by omega
      have HX := hd (((HU.out.drewN nn).tick.take3 rfl (Nat.zero_le _)).take2 rfl hl1)
      clear hl1 e1 e2 e4 c0 c1 c2 c3 c4 c5 c6 c7 hlt h1
      go_wp2
      go_ret
      rw [HT.out]
      exact ⟨rfl, HX.out.drew.drew.post (HO.out.tick.trims 1 _ _)⟩
    · go_region
      have hl1 : n.toNat = s1.s1.length := by omega
      have HX := hd (((HU.out.drewN nn).tick.take3 rfl (Nat.zero_le _)).take2 rfl (Nat.le_refl _))
      have HL := hd hl1
      clear hl1 e1 e2 e4 c0 c1 c2 c3 c4 c5 c6 c7 hlt h1
      go_wp2
      go_ret
      rw [HT.out, HL.out]
      exact ⟨rfl, HX.out.drew.drew.post (HO.out.tick.trims 1 _ _)⟩

set_option maxHeartbeats 800000 in
theorem trimlong1 (b : Nat) (n : Int) (s s1 : RS) (fp : List Nat) (w : World) (hR : ReelAt w b s fp) (he : s.begin_ 1 = (s1, 0)) (h0 : 0 ≤ n) (h1 : (s1.s1.length + s1.r1.length : Int) < n) :
    Calls Try.prog 26 #[.pointer (some ⟨b, 0, none⟩), .int .i64 1, .int .i64 n] w fun e w' => e = .returned (.int .i64 2) ∧ RPost w b fp s1 w' := by
  have hB := begin_any b 1 s fp w hR
  rw [he] at hB
  have HB := hd hB
  clear hB hR he
  go_enter Try.func26, Try.ntmps26
  go_wp2_with (first | (go_at_call 28; refine HB.out.mono ?_; rintro e w1 ⟨rfl, hp⟩; obtain ⟨ho, v0, v1, v2, v3, U⟩ := hp.up; obtain ⟨⟨c0, c1, c2, c3⟩, c4, c5, c6, c7⟩ := U.parts.cells; obtain ⟨A, k, rfl, hk⟩ := U.parts.row2.small2; obtain ⟨B, l, rfl, hl⟩ := U.parts.row3.small2; have HP := hd hp; have l0 := ho.small; clear hp U ho) | (go_at_call 29; refine (tapelen_any b 2 A B s1.s1.length s1.r1.length k l _ (by go_simp) (by go_simp) (by omega) (by omega)).mono ?_; rintro e w' ⟨rfl, nn, rfl⟩))
  go_ret
  exact ⟨rfl, HP.out.drewN nn⟩

set_option maxHeartbeats 800000 in
theorem trim_any (b : Nat) (t n : Int) (s : RS) (fp : List Nat) (w : World) (hR : ReelAt w b s fp) :
    Calls Try.prog 26 #[.pointer (some ⟨b, 0, none⟩), .int .i64 t, .int .i64 n] w fun e w' => e = .returned (.int .i64 (s.trim t n).2) ∧ RPost w b fp (s.trim t n).1 w' := by
  by_cases hn : n < 0
  · have hw : s.trim t n = (s, 2) := if_pos hn
    rw [hw]
    obtain ⟨hok, v0, v1, v2, v3, hp, rfl⟩ := hR
    have HP := hd (same_post hp hok)
    clear hw hp hok
    go_enter Try.func26, Try.ntmps26
    go_wp2
    go_ret
    exact ⟨rfl, HP.out⟩
  have hw1 : s.trim t n = s.op t (·.trim1 t n) := if_neg hn
  have hn' : 0 ≤ n := by omega
  by_cases he : (s.begin_ t).2 = 0
  · have hw : s.trim t n = (s.begin_ t).1.trim1 t n := hw1.trans (if_neg (by simp [he]))
    rw [hw]
    have e2 : s.begin_ t = ((s.begin_ t).1, 0) := by rw [← he]
    generalize (s.begin_ t).1 = s1 at *
    by_cases hl : ((s1.safe t).length + (s1.rest t).length : Int) < n
    · rw [show s1.trim1 t n = (s1, 2) from if_pos hl]
      rcases RS.begin_in he with rfl | rfl
      · exact trimlong0 b n s s1 fp w hR e2 hn' hl
      · exact trimlong1 b n s s1 fp w hR e2 hn' hl
    · have e3 : (s1.trim1 t n).2 = 0 := by rw [trim1_of (by omega)]
      rw [e3]
      rcases RS.begin_in he with rfl | rfl
      · exact trim0 b n s s1 fp w hR e2 hn' (by simp only [RS.safe, RS.rest, if_true] at hl; omega)
      · exact trim1 b n s s1 fp w hR e2 hn' (by simp only [RS.safe, RS.rest] at hl; simp at hl; omega)
  · have hB := hd (begin_any b t s fp w hR)
    have hw : s.trim t n = s.begin_ t := hw1.trans (if_pos he)
    rw [hw]
    generalize s.begin_ t = s1e at *
    obtain ⟨s1, e1⟩ := s1e
    have he' : (e1 != 0) = true := by simpa using he
    clear he hw hR hw1 hn
    go_enter Try.func26, Try.ntmps26
    go_wp2_with (go_at_call 28; refine hB.out.mono ?_; rintro e w1 ⟨rfl, hp⟩)
    go_ret
    exact ⟨rfl, hp⟩
theorem trim_nil (t n : Int) (w : World) : Calls Try.prog 26 #[.pointer none, .int .i64 t, .int .i64 n] w fun e w' => e = .returned (.int .i64 7) ∧ w = w' := by
  go_enter Try.func26, Try.ntmps26
  go_wp2_with (go_at_call 28; refine (begin_nil t _).mono ?_; rintro e w1 ⟨rfl, rfl⟩)
  go_ret
  exact ⟨rfl, rfl⟩
end Go.Proofs.Ytjmddbhbibmjdaa
