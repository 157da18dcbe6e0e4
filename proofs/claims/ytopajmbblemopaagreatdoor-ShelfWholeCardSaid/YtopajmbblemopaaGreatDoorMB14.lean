/-
  Lemmas, joined of the texts K1.
-/
import Derived.Test.YtopajmbblemopaaGreatDoorMB3
import Derived.Test.YtopajmbblemopaaGreatDoorMB13
import Derived.Test.YtopajmbblemopaaGreatDoorMB0
import Derived.IntWalk
namespace Go.Proofs.YtopajmbblemopaaGreatDoor
set_option linter.unusedVariables false
set_option linter.unusedSimpArgs false
open Go.RowKit Go.Lib
def bsL (s : ByteArray) : Txt := s.data.toList
theorem bs_of (l : Txt) : bsL (str l) = l := by unfold bsL str; exact List.toList_toArray
theorem of_bs (s : ByteArray) : str (bsL s) = s := str_toList s
theorem bs_size (s : ByteArray) : (bsL s).length = s.size := by rw [← str_size, of_bs]
theorem bs_toList (s : ByteArray) : s.toList = bsL s := ByteArray.toList_eq s
theorem num_text (n : Int) (w : World) (h : inI64 n) (hG : Gl w) : Calls Tryz.prog 87 #[.int .i64 n] w fun e w' => e = .returned (.string (str (itoa n))) ∧ Below w.heap.size w w' := by
  have hF := hd (Tryz.strconv_FormatInt_10 n h.1 h.2 w hG.tab)
  clear hG
  go_enter Tryz.func87, Tryz.ntmps87
  go_wp2_with (go_at_call 106; refine hF.out.mono ?_; rintro e w' ⟨rfl, k, os, rfl⟩)
  go_ret
  exact ⟨rfl, below_grow w k os⟩
theorem parse_ok (s : ByteArray) (v : Int) (w : World) (h : parseIntB 64 (bsL s) = .ok v) (hs : s.size ≤ 281474976710656) : Calls Tryz.prog 124 #[.string s, .int .i64 10, .int .i64 64] w fun e w' => e = .returned (.tuple #[.int .i64 v, .nilIface]) ∧ Below w.heap.size w w' := by
  refine (Tryz.strconv_ParseInt_10_at64_ok s (by omega) v h w).mono ?_
  rintro e w' ⟨rfl, rfl | ⟨t, rfl⟩⟩
  · exact ⟨rfl, Below.refl _ _⟩
  · exact ⟨rfl, Joins.below_bytesWorld _ _ _ _ (Nat.le_refl _)⟩
theorem parse_bad (s : ByteArray) (w : World) (h : ∀ v, parseIntB 64 (bsL s) ≠ .ok v) (hs : s.size ≤ 281474976710656) (hG : Gl w) :
    Calls Tryz.prog 124 #[.string s, .int .i64 10, .int .i64 64] w fun e w' => ∃ n N, e = .returned (.tuple #[.int .i64 n, .iface 209 (.pointer (some ⟨N, 0, none⟩))]) ∧ Below w.heap.size w w' := by
  rcases hp : parseIntB 64 (bsL s) with v | _ | _
  · exact absurd hp (h v)
  · obtain ⟨ev, hv, he⟩ := hG.esyn
    refine (Any.strconv_ParseInt_10_at64_syntax Tryz.laysC174 s hs hp ev w hv he).mono ?_
    rintro e w' ⟨N, rfl, _, _, hb⟩
    exact ⟨0, N, rfl, hb⟩
  · obtain ⟨ev, hv, he⟩ := hG.eran
    refine (Tryz.strconv_ParseInt_10_at64_range s hs hp ev w hv he).mono ?_
    rintro e w' ⟨N, rfl, _, _, hb⟩
    exact ⟨_, N, rfl, hb⟩
theorem int_ok (s : ByteArray) (v : Int) (w : World) (h : intL (bsL s) = some v) (hs : s.size ≤ 281474976710656) (hG : Gl w) :
    Calls Tryz.prog 104 #[.string s] w fun e w' => e = .returned (.tuple #[.int .i64 v, .int .i64 0]) ∧ Below w.heap.size w w' := by
  obtain ⟨h1, h2⟩ := intL_some h
  have hp := hd (parse_ok s v w (by rw [h1]; exact parse_itoa h2) hs)
  have e1 : str (itoa v) = s := by rw [← h1]; exact of_bs s
  have hN := hd (fun w' (hb : Below w.heap.size w w') => num_text v w' h2 (gl_below hG hb))
  rw [e1] at hN
  clear hG h h1 e1
  go_enter Tryz.func104, Tryz.ntmps104
  go_wp2_with (first | (go_at_call 124; refine hp.out.mono ?_; rintro e w1 ⟨rfl, hb⟩; have hB := hd hb; clear hb) | (go_at_call 87; refine (hN.out _ hB.out).mono ?_; rintro e w2 ⟨rfl, hb2⟩))
  go_ret2
  exact ⟨rfl, hB.out.trans (Below.mono hb2 hB.out.size)⟩
end Go.Proofs.YtopajmbblemopaaGreatDoor
