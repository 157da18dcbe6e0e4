/-
  The walk of ReelTrims.
-/
import Derived.Test.YtjmddbhbibmjdaaLV
namespace Go.Proofs.Ytjmddbhbibmjdaa
set_option linter.unusedVariables false
set_option linter.unusedSimpArgs false
open Go.RowKit

set_option maxHeartbeats 3200000 in
theorem trims_walk (a : ByteArray) (ha : a.size ≤ 140737488351232) (b : ByteArray) (hb : b.size ≤ 140737488351232) (n : Int) (hn : (Lit.int .i64 n).wf = true) (o : ByteArray) (ho : o.size ≤ 140737488351232) (w : World) :
    Calls Try.prog 6 #[.string a, .string b, .int .i64 n, .string o] w fun e w' => e = .returned (.bool true) ∧ Below w.heap.size w w' := by
  have hb := Below.refl w.heap.size w
  by_cases h1 : 20000 < (a.size : Int) + b.size + o.size
  · go_enter Try.func6, Try.ntmps6
    go_wp2_with (go_at_call 9; refine (live_call w _ hb).mono ?_; rintro e w1 ⟨rfl, hl⟩)
    go_ret
    exact ⟨rfl, hl⟩
  by_cases h2 : n < 0
  · go_enter Try.func6, Try.ntmps6
    go_wp2_with (go_at_call 9; refine (live_call w _ hb).mono ?_; rintro e w1 ⟨rfl, hl⟩)
    go_ret
    exact ⟨rfl, hl⟩
  by_cases h3 : (a.size : Int) + b.size < n
  · go_enter Try.func6, Try.ntmps6
    go_wp2_with (go_at_call 9; refine (live_call w _ hb).mono ?_; rintro e w1 ⟨rfl, hl⟩)
    go_ret
    exact ⟨rfl, hl⟩
  · have la : a.data.toList.length = a.size := by simp
    have lb : b.data.toList.length = b.size := by simp
    have lo : o.data.toList.length = o.size := by simp
    have f1 : (str (a.data.toList.take n.toNat ++ b.data.toList.take (n.toNat - a.size))).toList = ((a ++ b).extract 0 n.toNat).toList := by rw [str_bytes, cat_cut]
    have f4 : (str o.data.toList).toList = o.toList := by rw [str_toList]
    have E7 := hd (lv_crash 40000 (a.data.toList.take n.toNat) (b.data.toList.take (n.toNat - a.data.toList.length)) o.data.toList [] 6 0 0 0 (a.data.toList.take n.toNat) o.data.toList (by rw [kept_zero, List.append_nil]) (by rw [kept_zero, List.append_nil]))
    obtain ⟨E1, E2, E3, E4, E5, E6⟩ : Hd ((lv 40000 [] [] [] [] 0).write 0 a.data.toList = (lv 40000 [] a.data.toList [] [] 1, 0)) ∧ Hd ((lv 40000 [] a.data.toList [] [] 1).sync 0 = (lv 40000 a.data.toList [] [] [] 2, 0)) ∧ Hd ((lv 40000 a.data.toList [] [] [] 2).write 0 b.data.toList = (lv 40000 a.data.toList b.data.toList [] [] 3, 0)) ∧
        Hd ((lv 40000 a.data.toList b.data.toList [] [] 3).write 1 o.data.toList = (lv 40000 a.data.toList b.data.toList [] o.data.toList 4, 0)) ∧ Hd ((lv 40000 a.data.toList b.data.toList [] o.data.toList 4).sync 1 = (lv 40000 a.data.toList b.data.toList o.data.toList [] 5, 0)) ∧
        Hd ((lv 40000 a.data.toList b.data.toList o.data.toList [] 5).trim 0 n = (lv 40000 (a.data.toList.take n.toNat) (b.data.toList.take (n.toNat - a.data.toList.length)) o.data.toList [] 6, 0)) :=
      ⟨hd (lv_write0 _ _ _ _ _ _ _ _ _ rfl (by kernel_rfl) (by simp only [List.length_nil]; omega)), hd (lv_sync0 _ _ _ _ _ _ _ _ rfl (by kernel_rfl)), hd (lv_write0 _ _ _ _ _ _ _ _ _ rfl (by kernel_rfl) (by simp only [List.length_nil]; omega)),
        hd (lv_write1 _ _ _ _ _ _ _ _ _ rfl (by kernel_rfl) (by simp only [List.length_nil]; omega)), hd (lv_sync1 _ _ _ _ _ _ _ _ rfl (by kernel_rfl)), hd (lv_trim0 _ _ _ _ _ _ _ _ (by kernel_rfl) (by omega) (by omega))⟩
    rcases (show ((a.size : Int) < n ∧ (str (a.data.toList.take n.toNat)).toList = a.toList) ∨ (n ≤ (a.size : Int) ∧ (str (a.data.toList.take n.toNat)).toList = (a.extract 0 n.toNat).toList ∧ ((a ++ b).extract 0 n.toNat).toList = (a.extract 0 n.toNat).toList) from by
      by_cases h4 : (a.size : Int) < n
      · exact .inl ⟨h4, by rw [str_bytes, ByteArray.toList_eq, List.take_of_length_le (by omega)]⟩
      · exact .inr ⟨by omega, by rw [str_bytes, cut_bytes], by rw [cat_cut, cut_bytes, show n.toNat - a.size = 0 from by omega]; simp⟩) with ⟨h4, f2⟩ | ⟨h4, f2, f5⟩
    all_goals
      go_enter Try.func6, Try.ntmps6
      go_wp2_with (first | (go_at_call 10; refine (Mine.new 40000 w _ hb (by decide) (by decide)).mono ?_; rintro e w1 ⟨rb, rfl, h0⟩) | (go_at_call 11; refine (num_any _ _).mono ?_; rintro e w' ⟨rfl, rfl⟩))
      refine (h0.write 0 a _ 0 E1.out (by omega)).mono ?_
      rintro e w1 ⟨rfl, h1⟩
      clear h0
      go_wp2_with (go_at_call 11; refine (num_any _ _).mono ?_; rintro e w' ⟨rfl, rfl⟩)
      refine (h1.sync 0 _ 0 E2.out).mono ?_
      rintro e w1 ⟨rfl, h2⟩
      clear h1
      go_wp2_with (go_at_call 11; refine (num_any _ _).mono ?_; rintro e w' ⟨rfl, rfl⟩)
      refine (h2.write 0 b _ 0 E3.out (by omega)).mono ?_
      rintro e w1 ⟨rfl, h3⟩
      clear h2
      go_wp2_with (go_at_call 11; refine (num_any _ _).mono ?_; rintro e w' ⟨rfl, rfl⟩)
      refine (h3.write 1 o _ 0 E4.out (by omega)).mono ?_
      rintro e w1 ⟨rfl, h4⟩
      clear h3
      go_wp2_with (go_at_call 11; refine (num_any _ _).mono ?_; rintro e w' ⟨rfl, rfl⟩)
      refine (h4.sync 1 _ 0 E5.out).mono ?_
      rintro e w1 ⟨rfl, h5⟩
      clear h4
      go_wp2_with (go_at_call 11; refine (num_any _ _).mono ?_; rintro e w' ⟨rfl, rfl⟩)
      refine (h5.trim 0 n _ 0 E6.out).mono ?_
      rintro e w1 ⟨rfl, h6⟩
      clear h5
      go_wp2_with (go_at_call 11; refine (num_any _ _).mono ?_; rintro e w' ⟨rfl, rfl⟩)
      refine (h6.read 0 _ 0 (lv_read0 _ _ _ _ _ _ _ rfl)).mono ?_
      rintro e w1 ⟨rfl, h7⟩
      clear h6
      go_wp2_with (go_at_call 11; refine (num_any _ _).mono ?_; rintro e w' ⟨rfl, rfl⟩)
      refine (h7.crash 0 0 0 _ rfl _ E7.out).mono ?_
      rintro e w1 ⟨rfl, h8⟩
      clear h7
      go_wp2_with (go_at_call 11; refine (num_any _ _).mono ?_; rintro e w' ⟨rfl, rfl⟩)
      refine (h8.read 0 _ 0 (lv_read0 _ _ _ _ _ _ _ (List.append_nil _))).mono ?_
      rintro e w1 ⟨rfl, h9⟩
      clear h8
      go_wp2_with (go_at_call 11; refine (num_any _ _).mono ?_; rintro e w' ⟨rfl, rfl⟩)
      refine (h9.read 1 _ 0 (lv_read1 _ _ _ _ _ _ _ (List.append_nil _))).mono ?_
      rintro e w1 ⟨rfl, h10⟩
      clear h9
      go_wp2_with (go_at_call 11; refine (num_any _ _).mono ?_; rintro e w' ⟨rfl, rfl⟩)
      refine (live_call w _ h10.below).mono ?_
      rintro e w1 ⟨rfl, hl⟩
      go_wp2
      go_ret
      exact ⟨rfl, hl⟩
end Go.Proofs.Ytjmddbhbibmjdaa
