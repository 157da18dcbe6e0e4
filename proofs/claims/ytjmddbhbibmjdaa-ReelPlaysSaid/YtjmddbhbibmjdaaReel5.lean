/-
  Sync, Wipe.
-/
import Derived.Test.YtjmddbhbibmjdaaReel4
namespace Go.Proofs.Ytjmddbhbibmjdaa
set_option linter.unusedVariables false
set_option linter.unusedSimpArgs false
open Go.RowKit

theorem RS.Ok.joins {s : RS} (h : s.Ok) (t : Int) : (s.put t (s.safe t ++ s.rest t) []).Ok := by
  have := h.free
  refine h.put t _ _ ?_
  simp only [List.length_append, List.length_nil]
  omega
theorem RS.Ok.clears {s : RS} (h : s.Ok) (t : Int) : (s.put t [] []).Ok := by
  have := h.free
  refine h.put t _ _ ?_
  simp only [List.length_nil]
  omega

set_option maxHeartbeats 800000 in
theorem sync0 (b : Nat) (s s1 : RS) (fp : List Nat) (w : World) (hR : ReelAt w b s fp) (he : s.begin_ 0 = (s1, 0)) :
    Calls Try.prog 13 #[.pointer (some ⟨b, 0, none⟩), .int .i64 0] w fun e w' => e = .returned (.int .i64 0) ∧ RPost w b fp (s1.tick.put 0 (s1.safe 0 ++ s1.rest 0) []) w' := by
  have hB := begin_any b 0 s fp w hR
  rw [he] at hB
  have HB := hd hB
  clear hB hR he
  go_enter Try.func13, Try.ntmps13
  go_wp2_with (go_at_call 28; refine HB.out.mono ?_; rintro e w1 ⟨rfl, hp⟩; obtain ⟨ho, v0, v1, v2, v3, U⟩ := hp.up; obtain ⟨-, c4, c5, c6, c7⟩ := U.parts.cells; have f7 := U.parts.blk.frozen 7; obtain ⟨A, k, rfl⟩ := U.parts.row0.small; obtain ⟨B, l, rfl⟩ := U.parts.row1.small; have HU := hd U; have HO := hd ho; clear hp U ho)
  have HV := hd HU.out.tick
  clear c4 c5 c6 c7 f7 HU
  generalize w1.setCell ⟨b, 7, none⟩ (.int .i64 (wrap64 (s1.ops + 1))) = W at *
  have c : W.cell? ⟨b, 0, none⟩ = some (.slice A s1.s0.length k) := HV.out.parts.blk.cell 0
  have d : W.cell? ⟨b, 1, none⟩ = some (.slice B s1.r0.length l) := HV.out.parts.blk.cell 1
  go_region_law (refine step_append_row rfl (.tmp 30) (.tmp 34) 34 5 (.int .u8 0) 1 rfl Try.underlying34 Try.u8info rfl (.slice A s1.s0.length k) (.slice B s1.r0.length l) (u8s s1.s0) (u8s s1.r0) rfl rfl HV.out.parts.row0.drew HV.out.parts.row1.drew (u8s_oneCell _) (by have := HO.out.small; simp only [u8s_length]; omega) (by have := HO.out.small; simp only [u8s_length]; omega) ?_; intro v' w' hrow hg hat; obtain ⟨A', k', rfl⟩ := hrow.form; have c' : w'.cell? ⟨b, 0, none⟩ = some (.slice A s1.s0.length k) := (HV.out.parts.blk.drew.grown hg HV.out.parts.apart.b0).cell 0; have f' := (HV.out.parts.blk.drew.grown hg HV.out.parts.apart.b0).frozen 0; have d' : w'.cell? ⟨b, 1, none⟩ = some (.slice B s1.r0.length l) := (HV.out.parts.blk.drew.grown hg HV.out.parts.apart.b0).cell 1; have g' := (HV.out.parts.blk.drew.grown hg HV.out.parts.apart.b0).frozen 1; have HH := hd (And.intro hrow (And.intro hg hat)); clear hrow hg hat)
  all_goals
    clear c d c' f' d' g'
    rw [← u8s_append] at HH
    simp only [← u8s_append, ← List.length_append]
    have HX := hd ((HV.out.drew.put0 HH.out.2.1 HH.out.1 HH.out.2.2).cut1 (l := []) (.slice none 0 0) (Row.nil _ _) (.inl rfl))
    try rw [setCell_swap _ ⟨b, 1, none⟩ ⟨b, 0, none⟩ _ _ (.inr ⟨rfl, rfl, by decide⟩)]
    go_wp2
    go_ret
    exact ⟨rfl, HX.out.post (HO.out.tick.joins 0)⟩

set_option maxHeartbeats 800000 in
theorem wipe0 (b : Nat) (s s1 : RS) (fp : List Nat) (w : World) (hR : ReelAt w b s fp) (he : s.begin_ 0 = (s1, 0)) :
    Calls Try.prog 27 #[.pointer (some ⟨b, 0, none⟩), .int .i64 0] w fun e w' => e = .returned (.int .i64 0) ∧ RPost w b fp (s1.tick.put 0 [] []) w' := by
  have hB := begin_any b 0 s fp w hR
  rw [he] at hB
  have HB := hd hB
  clear hB hR he
  go_enter Try.func27, Try.ntmps27
  go_wp2_with (go_at_call 28; refine HB.out.mono ?_; rintro e w1 ⟨rfl, hp⟩; obtain ⟨ho, v0, v1, v2, v3, U⟩ := hp.up; obtain ⟨⟨c0, c1, c2, c3⟩, c4, c5, c6, c7⟩ := U.parts.cells; have f7 := U.parts.blk.frozen 7; have fi := U.parts.blk.frozen 0; have fk := U.parts.blk.frozen 1; have HU := hd U; have HO := hd ho; clear hp U ho)
  have HX := hd ((HU.out.tick.cut0 (l := []) (.slice none 0 0) (Row.nil _ _) (.inl rfl)).cut1 (l := []) (.slice none 0 0) (Row.nil _ _) (.inl rfl))
  go_ret
  exact ⟨rfl, HX.out.post (HO.out.tick.clears 0)⟩
set_option maxHeartbeats 800000 in
theorem sync1 (b : Nat) (s s1 : RS) (fp : List Nat) (w : World) (hR : ReelAt w b s fp) (he : s.begin_ 1 = (s1, 0)) :
    Calls Try.prog 13 #[.pointer (some ⟨b, 0, none⟩), .int .i64 1] w fun e w' => e = .returned (.int .i64 0) ∧ RPost w b fp (s1.tick.put 1 (s1.safe 1 ++ s1.rest 1) []) w' := by
  have hB := begin_any b 1 s fp w hR
  rw [he] at hB
  have HB := hd hB
  clear hB hR he
  go_enter Try.func13, Try.ntmps13
  go_wp2_with (go_at_call 28; refine HB.out.mono ?_; rintro e w1 ⟨rfl, hp⟩; obtain ⟨ho, v0, v1, v2, v3, U⟩ := hp.up; obtain ⟨-, c4, c5, c6, c7⟩ := U.parts.cells; have f7 := U.parts.blk.frozen 7; obtain ⟨A, k, rfl⟩ := U.parts.row2.small; obtain ⟨B, l, rfl⟩ := U.parts.row3.small; have HU := hd U; have HO := hd ho; clear hp U ho)
  have HV := hd HU.out.tick
  clear c4 c5 c6 c7 f7 HU
  generalize w1.setCell ⟨b, 7, none⟩ (.int .i64 (wrap64 (s1.ops + 1))) = W at *
  have c : W.cell? ⟨b, 2, none⟩ = some (.slice A s1.s1.length k) := HV.out.parts.blk.cell 2
  have d : W.cell? ⟨b, 3, none⟩ = some (.slice B s1.r1.length l) := HV.out.parts.blk.cell 3
  go_region_law (refine step_append_row rfl (.tmp 30) (.tmp 34) 34 5 (.int .u8 0) 1 rfl Try.underlying34 Try.u8info rfl (.slice A s1.s1.length k) (.slice B s1.r1.length l) (u8s s1.s1) (u8s s1.r1) rfl rfl HV.out.parts.row2.drew HV.out.parts.row3.drew (u8s_oneCell _) (by have := HO.out.small; simp only [u8s_length]; omega) (by have := HO.out.small; simp only [u8s_length]; omega) ?_; intro v' w' hrow hg hat; obtain ⟨A', k', rfl⟩ := hrow.form; have c' : w'.cell? ⟨b, 2, none⟩ = some (.slice A s1.s1.length k) := (HV.out.parts.blk.drew.grown hg HV.out.parts.apart.b2).cell 2; have f' := (HV.out.parts.blk.drew.grown hg HV.out.parts.apart.b2).frozen 2; have d' : w'.cell? ⟨b, 3, none⟩ = some (.slice B s1.r1.length l) := (HV.out.parts.blk.drew.grown hg HV.out.parts.apart.b2).cell 3; have g' := (HV.out.parts.blk.drew.grown hg HV.out.parts.apart.b2).frozen 3; have HH := hd (And.intro hrow (And.intro hg hat)); clear hrow hg hat)
  all_goals
    clear c d c' f' d' g'
    rw [← u8s_append] at HH
    simp only [← u8s_append, ← List.length_append]
    have HX := hd ((HV.out.drew.put2 HH.out.2.1 HH.out.1 HH.out.2.2).cut3 (l := []) (.slice none 0 0) (Row.nil _ _) (.inl rfl))
    try rw [setCell_swap _ ⟨b, 3, none⟩ ⟨b, 2, none⟩ _ _ (.inr ⟨rfl, rfl, by decide⟩)]
    go_wp2
    go_ret
    exact ⟨rfl, HX.out.post (HO.out.tick.joins 1)⟩

set_option maxHeartbeats 800000 in
theorem wipe1 (b : Nat) (s s1 : RS) (fp : List Nat) (w : World) (hR : ReelAt w b s fp) (he : s.begin_ 1 = (s1, 0)) :
    Calls Try.prog 27 #[.pointer (some ⟨b, 0, none⟩), .int .i64 1] w fun e w' => e = .returned (.int .i64 0) ∧ RPost w b fp (s1.tick.put 1 [] []) w' := by
  have hB := begin_any b 1 s fp w hR
  rw [he] at hB
  have HB := hd hB
  clear hB hR he
  go_enter Try.func27, Try.ntmps27
  go_wp2_with (go_at_call 28; refine HB.out.mono ?_; rintro e w1 ⟨rfl, hp⟩; obtain ⟨ho, v0, v1, v2, v3, U⟩ := hp.up; obtain ⟨⟨c0, c1, c2, c3⟩, c4, c5, c6, c7⟩ := U.parts.cells; have f7 := U.parts.blk.frozen 7; have fi := U.parts.blk.frozen 2; have fk := U.parts.blk.frozen 3; have HU := hd U; have HO := hd ho; clear hp U ho)
  have HX := hd ((HU.out.tick.cut2 (l := []) (.slice none 0 0) (Row.nil _ _) (.inl rfl)).cut3 (l := []) (.slice none 0 0) (Row.nil _ _) (.inl rfl))
  go_ret
  exact ⟨rfl, HX.out.post (HO.out.tick.clears 1)⟩

theorem sync_any (b : Nat) (t : Int) (s : RS) (fp : List Nat) (w : World) (hR : ReelAt w b s fp) :
    Calls Try.prog 13 #[.pointer (some ⟨b, 0, none⟩), .int .i64 t] w fun e w' => e = .returned (.int .i64 (s.sync t).2) ∧ RPost w b fp (s.sync t).1 w' := by
  by_cases he : (s.begin_ t).2 = 0
  · have hw : s.sync t = (s.begin_ t).1.sync1 t := if_neg (by simp [he])
    rw [hw]
    have e2 : s.begin_ t = ((s.begin_ t).1, 0) := by rw [← he]
    rcases RS.begin_in he with rfl | rfl
    · exact sync0 b s _ fp w hR e2
    · exact sync1 b s _ fp w hR e2
  · have hB := hd (begin_any b t s fp w hR)
    have hw : s.sync t = s.begin_ t := if_pos he
    rw [hw]
    generalize s.begin_ t = s1e at *
    obtain ⟨s1, e1⟩ := s1e
    have he' : (e1 != 0) = true := by simpa using he
    clear he hw hR
    go_enter Try.func13, Try.ntmps13
    go_wp2_with (go_at_call 28; refine hB.out.mono ?_; rintro e w1 ⟨rfl, hp⟩)
    go_ret
    exact ⟨rfl, hp⟩
theorem sync_nil (t : Int) (w : World) : Calls Try.prog 13 #[.pointer none, .int .i64 t] w fun e w' => e = .returned (.int .i64 7) ∧ w = w' := by
  go_enter Try.func13, Try.ntmps13
  go_wp2_with (go_at_call 28; refine (begin_nil t _).mono ?_; rintro e w1 ⟨rfl, rfl⟩)
  go_ret
  exact ⟨rfl, rfl⟩
theorem wipe_any (b : Nat) (t : Int) (s : RS) (fp : List Nat) (w : World) (hR : ReelAt w b s fp) :
    Calls Try.prog 27 #[.pointer (some ⟨b, 0, none⟩), .int .i64 t] w fun e w' => e = .returned (.int .i64 (s.wipe t).2) ∧ RPost w b fp (s.wipe t).1 w' := by
  by_cases he : (s.begin_ t).2 = 0
  · have hw : s.wipe t = (s.begin_ t).1.wipe1 t := if_neg (by simp [he])
    rw [hw]
    have e2 : s.begin_ t = ((s.begin_ t).1, 0) := by rw [← he]
    rcases RS.begin_in he with rfl | rfl
    · exact wipe0 b s _ fp w hR e2
    · exact wipe1 b s _ fp w hR e2
  · have hB := hd (begin_any b t s fp w hR)
    have hw : s.wipe t = s.begin_ t := if_pos he
    rw [hw]
    generalize s.begin_ t = s1e at *
    obtain ⟨s1, e1⟩ := s1e
    have he' : (e1 != 0) = true := by simpa using he
    clear he hw hR
    go_enter Try.func27, Try.ntmps27
    go_wp2_with (go_at_call 28; refine hB.out.mono ?_; rintro e w1 ⟨rfl, hp⟩)
    go_ret
    exact ⟨rfl, hp⟩
theorem wipe_nil (t : Int) (w : World) : Calls Try.prog 27 #[.pointer none, .int .i64 t] w fun e w' => e = .returned (.int .i64 7) ∧ w = w' := by
  go_enter Try.func27, Try.ntmps27
  go_wp2_with (go_at_call 28; refine (begin_nil t _).mono ?_; rintro e w1 ⟨rfl, rfl⟩)
  go_ret
  exact ⟨rfl, rfl⟩
end Go.Proofs.Ytjmddbhbibmjdaa
