/-
  Write.
-/
import Derived.Test.YtjmddbhbibmjdaaReel3
namespace Go.Proofs.Ytjmddbhbibmjdaa
set_option linter.unusedVariables false
set_option linter.unusedSimpArgs false
open Go.RowKit

theorem RS.Ok.small {s : RS} (h : s.Ok) : s.s0.length ≤ 4194304 ∧ s.r0.length ≤ 4194304 ∧ s.s1.length ≤ 4194304 ∧ s.r1.length ≤ 4194304 := by
  obtain ⟨h1, h2, h3, h4, h5⟩ := h
  simp only [RS.used] at h3
  omega
theorem Row.small2 {w : World} {e : TypeId} {v : Value} {l : List UInt8} (h : Row w e v (u8s l)) : ∃ A c, v = .slice A l.length c ∧ l.length ≤ c := by
  rcases h.nil_or with ⟨rfl, h0⟩ | ⟨g, cap, rfl, hc, -⟩
  · obtain rfl : l = [] := by simpa [u8s] using h0
    exact ⟨none, 0, rfl, by simp⟩
  · exact ⟨_, cap, by rw [u8s_length], by rw [u8s_length] at hc; exact hc⟩
theorem RS.Ok.fits {s : RS} (h : s.Ok) {t : Int} {q : List UInt8} (hq : (q.length : Int) ≤ s.free) : (s.put t (s.safe t) (s.rest t ++ q)).Ok := by
  refine h.put t _ _ ?_
  simp only [List.length_append, RS.safe, RS.rest, RS.free] at *
  omega

set_option maxHeartbeats 800000 in
theorem write0 (b : Nat) (s : RS) (fp : List Nat) (w : World) (q : ByteArray) (hR : ReelAt w b s fp) (hq : (q.size : Int) ≤ 4194304) :
    Calls Try.prog 12 #[.pointer (some ⟨b, 0, none⟩), .int .i64 0, .string q] w fun e w' => e = .returned (.int .i64 (s.write 0 q.data.toList).2) ∧ RPost w b fp (s.write 0 q.data.toList).1 w' := by
  have hB := hd (begin_any b 0 s fp w hR)
  have hw : s.write 0 q.data.toList = if (s.begin_ 0).2 ≠ 0 then s.begin_ 0 else (s.begin_ 0).1.write1 0 q.data.toList := rfl
  generalize hs1 : s.begin_ 0 = s1e at *
  obtain ⟨s1, e1⟩ := s1e
  clear hs1 hR
  by_cases he : e1 = 0
  · subst he
    rw [if_neg (by simp)] at hw
    dsimp only at hB hw
    unfold RS.write1 at hw
    by_cases hf : s1.free < q.data.toList.length
    · rw [if_pos hf] at hw
      have HW := hd hw
      have hf' : s1.free < (q.size : Int) := by simpa using hf
      clear hw hf
      go_enter Try.func12, Try.ntmps12
      go_wp2_with (go_at_call 28; refine hB.out.mono ?_; rintro e w1 ⟨rfl, hp⟩)
      have HP := hd hp
      obtain ⟨fp1, hR1, hC1, hF1⟩ := hp
      go_wp2_with (go_at_call 19; refine (free_any b s1 fp1 _ hR1).mono ?_; rintro e w2 ⟨rfl, n, rfl⟩)
      go_ret
      rw [HW.out]
      exact ⟨rfl, HP.out.drewN n⟩
    · rw [if_neg hf] at hw
      have HW := hd hw
      have hf' : ¬ s1.free < (q.size : Int) := by simpa using hf
      clear hw hf
      go_enter Try.func12, Try.ntmps12
      go_wp2_with (go_at_call 28; refine hB.out.mono ?_; rintro e w1 ⟨rfl, hp⟩)
      obtain ⟨ho, v0, v1, v2, v3, U⟩ := hp.up
      obtain ⟨-, c4, c5, c6, c7⟩ := U.parts.cells
      have f7 := U.parts.blk.frozen 7
      obtain ⟨A, k, rfl⟩ := U.parts.row1.small
      have HFR := hd (show (q.data.toList.length : Int) ≤ s1.free by simpa using hf')
      have HU := hd U
      have HO := hd ho
      clear hp U ho
      go_wp2_with (go_at_call 19; refine (free_any b s1 _ _ (HU.out.at HO.out)).mono ?_; rintro e w2 ⟨rfl, n, rfl⟩)
      have HV := hd (HU.out.drewN n).tick
      clear c4 c5 c6 c7 f7 hf' HU
      generalize (w1.drewN n).setCell ⟨b, 7, none⟩ (.int .i64 (wrap64 (s1.ops + 1))) = W at *
      have c : W.cell? ⟨b, 1, none⟩ = some (.slice A s1.r0.length k) := HV.out.parts.blk.cell 1
      have f := HV.out.parts.blk.frozen 1
      go_region_law (refine step_append_str rfl (.tmp 34) (.tmp 35) 34 9 5 rfl Try.underlying34 Try.underlying9 Try.u8info (.slice A s1.r0.length k) (u8s s1.r0) q rfl rfl HV.out.parts.row1.drew (by have := HO.out.small; simp only [u8s_length]; omega) ?_; intro v' w' hrow hg hat; obtain ⟨A', k', rfl⟩ := hrow.form; have c' : w'.cell? ⟨b, 1, none⟩ = some (.slice A s1.r0.length k) := (HV.out.parts.blk.drew.grown hg HV.out.parts.apart.b1).cell 1; have f' := (HV.out.parts.blk.drew.grown hg HV.out.parts.apart.b1).frozen 1; have HH := hd (And.intro hrow (And.intro hg hat)); clear hrow hg hat)
      clear c f c' f'
      rw [← u8s_append] at HH
      simp only [← u8s_append, ← List.length_append]
      have HX := hd (HV.out.drew.put1 HH.out.2.1 HH.out.1 HH.out.2.2)
      go_wp2
      go_ret
      rw [HW.out]
      exact ⟨rfl, HX.out.post (HO.out.tick.fits (t := 0) HFR.out)⟩
  · rw [if_pos he] at hw
    have HW := hd hw
    have he' : (e1 != 0) = true := by simpa using he
    clear hw he
    go_enter Try.func12, Try.ntmps12
    go_wp2_with (go_at_call 28; refine hB.out.mono ?_; rintro e w1 ⟨rfl, hp⟩)
    go_ret
    rw [HW.out]
    exact ⟨rfl, hp⟩
set_option maxHeartbeats 800000 in
theorem write1 (b : Nat) (s : RS) (fp : List Nat) (w : World) (q : ByteArray) (hR : ReelAt w b s fp) (hq : (q.size : Int) ≤ 4194304) :
    Calls Try.prog 12 #[.pointer (some ⟨b, 0, none⟩), .int .i64 1, .string q] w fun e w' => e = .returned (.int .i64 (s.write 1 q.data.toList).2) ∧ RPost w b fp (s.write 1 q.data.toList).1 w' := by
  have hB := hd (begin_any b 1 s fp w hR)
  have hw : s.write 1 q.data.toList = if (s.begin_ 1).2 ≠ 0 then s.begin_ 1 else (s.begin_ 1).1.write1 1 q.data.toList := rfl
  generalize hs1 : s.begin_ 1 = s1e at *
  obtain ⟨s1, e1⟩ := s1e
  clear hs1 hR
  by_cases he : e1 = 0
  · subst he
    rw [if_neg (by simp)] at hw
    dsimp only at hB hw
    unfold RS.write1 at hw
    by_cases hf : s1.free < q.data.toList.length
    · rw [if_pos hf] at hw
      have HW := hd hw
      have hf' : s1.free < (q.size : Int) := by simpa using hf
      clear hw hf
      go_enter Try.func12, Try.ntmps12
      go_wp2_with (go_at_call 28; refine hB.out.mono ?_; rintro e w1 ⟨rfl, hp⟩)
      have HP := hd hp
      obtain ⟨fp1, hR1, hC1, hF1⟩ := hp
      go_wp2_with (go_at_call 19; refine (free_any b s1 fp1 _ hR1).mono ?_; rintro e w2 ⟨rfl, n, rfl⟩)
      go_ret
      rw [HW.out]
      exact ⟨rfl, HP.out.drewN n⟩
    · rw [if_neg hf] at hw
      have HW := hd hw
      have hf' : ¬ s1.free < (q.size : Int) := by simpa using hf
      clear hw hf
      go_enter Try.func12, Try.ntmps12
      go_wp2_with (go_at_call 28; refine hB.out.mono ?_; rintro e w1 ⟨rfl, hp⟩)
      obtain ⟨ho, v0, v1, v2, v3, U⟩ := hp.up
      obtain ⟨-, c4, c5, c6, c7⟩ := U.parts.cells
      have f7 := U.parts.blk.frozen 7
      obtain ⟨A, k, rfl⟩ := U.parts.row3.small
      have HFR := hd (show (q.data.toList.length : Int) ≤ s1.free by simpa using hf')
      have HU := hd U
      have HO := hd ho
      clear hp U ho
      go_wp2_with (go_at_call 19; refine (free_any b s1 _ _ (HU.out.at HO.out)).mono ?_; rintro e w2 ⟨rfl, n, rfl⟩)
      have HV := hd (HU.out.drewN n).tick
      clear c4 c5 c6 c7 f7 hf' HU
      generalize (w1.drewN n).setCell ⟨b, 7, none⟩ (.int .i64 (wrap64 (s1.ops + 1))) = W at *
      have c : W.cell? ⟨b, 3, none⟩ = some (.slice A s1.r1.length k) := HV.out.parts.blk.cell 3
      have f := HV.out.parts.blk.frozen 3
      go_region_law (refine step_append_str rfl (.tmp 34) (.tmp 35) 34 9 5 rfl Try.underlying34 Try.underlying9 Try.u8info (.slice A s1.r1.length k) (u8s s1.r1) q rfl rfl HV.out.parts.row3.drew (by have := HO.out.small; simp only [u8s_length]; omega) ?_; intro v' w' hrow hg hat; obtain ⟨A', k', rfl⟩ := hrow.form; have c' : w'.cell? ⟨b, 3, none⟩ = some (.slice A s1.r1.length k) := (HV.out.parts.blk.drew.grown hg HV.out.parts.apart.b3).cell 3; have f' := (HV.out.parts.blk.drew.grown hg HV.out.parts.apart.b3).frozen 3; have HH := hd (And.intro hrow (And.intro hg hat)); clear hrow hg hat)
      clear c f c' f'
      rw [← u8s_append] at HH
      simp only [← u8s_append, ← List.length_append]
      have HX := hd (HV.out.drew.put3 HH.out.2.1 HH.out.1 HH.out.2.2)
      go_wp2
      go_ret
      rw [HW.out]
      exact ⟨rfl, HX.out.post (HO.out.tick.fits (t := 1) HFR.out)⟩
  · rw [if_pos he] at hw
    have HW := hd hw
    have he' : (e1 != 0) = true := by simpa using he
    clear hw he
    go_enter Try.func12, Try.ntmps12
    go_wp2_with (go_at_call 28; refine hB.out.mono ?_; rintro e w1 ⟨rfl, hp⟩)
    go_ret
    rw [HW.out]
    exact ⟨rfl, hp⟩

set_option maxHeartbeats 800000 in
theorem write_any (b : Nat) (t : Int) (s : RS) (fp : List Nat) (w : World) (q : ByteArray) (hR : ReelAt w b s fp) (hq : (q.size : Int) ≤ 4194304) :
    Calls Try.prog 12 #[.pointer (some ⟨b, 0, none⟩), .int .i64 t, .string q] w fun e w' => e = .returned (.int .i64 (s.write t q.data.toList).2) ∧ RPost w b fp (s.write t q.data.toList).1 w' := by
  by_cases he : (s.begin_ t).2 = 0
  · rcases RS.begin_in he with rfl | rfl
    · exact write0 b s fp w q hR hq
    · exact write1 b s fp w q hR hq
  · have hB := hd (begin_any b t s fp w hR)
    have hw : s.write t q.data.toList = s.begin_ t := if_pos he
    rw [hw]
    generalize s.begin_ t = s1e at *
    obtain ⟨s1, e1⟩ := s1e
    have he' : (e1 != 0) = true := by simpa using he
    clear he hw hR
    go_enter Try.func12, Try.ntmps12
    go_wp2_with (go_at_call 28; refine hB.out.mono ?_; rintro e w1 ⟨rfl, hp⟩)
    go_ret
    exact ⟨rfl, hp⟩
theorem write_nil (t : Int) (q : ByteArray) (w : World) : Calls Try.prog 12 #[.pointer none, .int .i64 t, .string q] w fun e w' => e = .returned (.int .i64 7) ∧ w = w' := by
  go_enter Try.func12, Try.ntmps12
  go_wp2_with (go_at_call 28; refine (begin_nil t _).mono ?_; rintro e w1 ⟨rfl, rfl⟩)
  go_ret
  exact ⟨rfl, rfl⟩
end Go.Proofs.Ytjmddbhbibmjdaa
