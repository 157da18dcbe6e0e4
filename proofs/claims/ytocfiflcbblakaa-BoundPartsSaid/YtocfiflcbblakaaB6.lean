/-
  Small, Level, Meta, Search.
-/
import Derived.Test.YtocfiflcbblakaaB5
namespace Go.Proofs.Ytocfiflcbblakaa
set_option linter.unusedVariables false
set_option linter.unusedSimpArgs false
open Go.RowKit

theorem small_any (f t : ByteArray) (w : World) : Calls Try.prog 11 #[.agg #[.string f, .string t]] w fun e w' => e = .returned (.bool (decide ((f.size : Int) ≤ 2000) && decide ((t.size : Int) ≤ 2000))) ∧ Up w w' := by
  have hU := hd (Up.made w)
  by_cases h1 : (f.size : Int) ≤ 2000 <;> by_cases h2 : (t.size : Int) ≤ 2000
  all_goals
    simp only [h1, h2, decide_true, decide_false, Bool.and_true, Bool.and_false]
    go_enter Try.func11, Try.ntmps11
    go_wp2
    go_ret
    exact ⟨rfl, hU.out _⟩
theorem meta_no (l : Int) (k : ByteArray) (h : l < 1 ∨ 2 < l) (w : World) : Calls Try.prog 24 #[.int .i64 l, .string k] w fun e w' => e = .returned (.string ⟨#[]⟩) ∧ w = w' := by
  rcases h with h | h
  · go_enter Try.func24, Try.ntmps24
    go_wp2_with (fail)
    go_ret
    exact ⟨rfl, rfl⟩
  · have h' : ¬ l < 1 := by omega
    go_enter Try.func24, Try.ntmps24
    go_wp2_with (fail)
    go_ret
    exact ⟨rfl, rfl⟩
theorem meta1 (k : ByteArray) (h : k.toList.isEmpty = false) (hk : (k.size : Int) ≤ 2000) (w : World) : Calls Try.prog 24 #[.int .i64 1, .string k] w fun e w' => e = .returned (.string (⟨#[1]⟩ ++ k)) ∧ w = w' := by
  have e1 : Utf8.encode 1 = ⟨#[1]⟩ := by kernel_rfl
  have e2 : (⟨#[1]⟩ : ByteArray).size = 1 := rfl
  go_enter Try.func24, Try.ntmps24
  go_wp2_with (fail)
  go_ret
  exact ⟨rfl, rfl⟩
theorem search1 (k : ByteArray) (h : k.toList.isEmpty = false) (hk : (k.size : Int) ≤ 2000) (w : World) : Calls Try.prog 26 #[.int .i64 1, .string k] w fun e w' => e = .returned (.agg #[.string (⟨#[1]⟩ ++ k ++ ⟨#[0]⟩), .string ⟨#[2]⟩]) ∧ Up w w' := by
  have e1 : Utf8.encode 2 = ⟨#[2]⟩ := by kernel_rfl
  have hM := hd (meta1 k h hk)
  go_enter Try.func26, Try.ntmps26
  go_wp2_with (go_at_call 24; refine (hM.out _).mono ?_; rintro e w' ⟨rfl, rfl⟩)
  exact bodyPost_ret (results_cell rfl rfl (load_bound (Blk.new w [.string (⟨#[1]⟩ ++ k ++ ⟨#[0]⟩), .string ⟨#[2]⟩] 23) ⟨_, rfl⟩ ⟨_, rfl⟩)) rfl ⟨rfl, Up.made _ _⟩
theorem meta2 (k : ByteArray) (h : k.toList.isEmpty = false) (hk : (k.size : Int) ≤ 2000) (w : World) : Calls Try.prog 24 #[.int .i64 2, .string k] w fun e w' => e = .returned (.string (⟨#[2]⟩ ++ k)) ∧ w = w' := by
  have e1 : Utf8.encode 2 = ⟨#[2]⟩ := by kernel_rfl
  have e2 : (⟨#[2]⟩ : ByteArray).size = 1 := rfl
  go_enter Try.func24, Try.ntmps24
  go_wp2_with (fail)
  go_ret
  exact ⟨rfl, rfl⟩
theorem search2 (k : ByteArray) (h : k.toList.isEmpty = false) (hk : (k.size : Int) ≤ 2000) (w : World) : Calls Try.prog 26 #[.int .i64 2, .string k] w fun e w' => e = .returned (.agg #[.string (⟨#[2]⟩ ++ k ++ ⟨#[0]⟩), .string ⟨#[3]⟩]) ∧ Up w w' := by
  have e1 : Utf8.encode 3 = ⟨#[3]⟩ := by kernel_rfl
  have hM := hd (meta2 k h hk)
  go_enter Try.func26, Try.ntmps26
  go_wp2_with (go_at_call 24; refine (hM.out _).mono ?_; rintro e w' ⟨rfl, rfl⟩)
  exact bodyPost_ret (results_cell rfl rfl (load_bound (Blk.new w [.string (⟨#[2]⟩ ++ k ++ ⟨#[0]⟩), .string ⟨#[3]⟩] 23) ⟨_, rfl⟩ ⟨_, rfl⟩)) rfl ⟨rfl, Up.made _ _⟩
def levelB (x : UInt8) : Int := if x.toNat = 0 then 3 else if x.toNat ≤ 2 then x.toNat else 0
def levelL (k : Bs) : Int := match k with | [] => 3 | x :: _ => levelB x
theorem toList_head {k : ByteArray} (h : 0 < k.size) : ∃ r, k.toList = k[0] :: r := by
  have hz := size_toList k
  cases e : k.toList with
  | nil => rw [e] at hz; simp at hz; omega
  | cons x r =>
    refine ⟨r, ?_⟩
    have h2 : k.toList[0]? = some x := by rw [e]; rfl
    rw [ByteArray.toList_eq] at h2
    have h3 : k.data[0]? = some x := by simpa using h2
    have h4 : k[0] = x := by
      have := (Array.getElem?_eq_some_iff.1 h3).2
      exact this
    rw [h4]
theorem levela_any (k : ByteArray) (w : World) : Calls Try.prog 22 #[.string k] w fun e w' => e = .returned (.int .i64 (levelL k.toList)) ∧ w = w' := by
  cases hE : k.toList.isEmpty with
  | true =>
    have e : levelL k.toList = 3 := by
      have : k.toList = [] := by simpa using hE
      rw [this]; rfl
    rw [e]
    clear e
    go_enter Try.func22, Try.ntmps22
    go_wp2_with (fail)
    go_ret
    exact ⟨rfl, rfl⟩
  | false =>
    have h0 : 0 < k.size := by
      have : k.toList ≠ [] := by simpa using hE
      have := List.length_pos_iff.2 this
      rw [size_toList] at this
      exact this
    obtain ⟨r, hr⟩ := toList_head h0
    have e : levelL k.toList = levelB k[0] := by rw [hr]; rfl
    rw [e]
    clear e hr
    obtain ⟨x, hx⟩ : ∃ x, k[0] = x := ⟨_, rfl⟩
    rw [hx]
    by_cases h1 : x.toNat = 0
    · rw [show levelB x = 3 from if_pos h1]
      have h2 : ((x.toNat : Int) == 0) = true := by simp [h1]
      clear h1
      go_enter Try.func22, Try.ntmps22
      go_wp2_with (fail)
      go_ret
      exact ⟨rfl, rfl⟩
    · have h2 : ((x.toNat : Int) == 0) = false := by simp; omega
      by_cases h3 : x.toNat ≤ 2
      · rw [show levelB x = x.toNat from (if_neg h1).trans (if_pos h3)]
        have h4 : (x.toNat : Int) ≤ 2 := by omega
        clear h1 h3
        go_enter Try.func22, Try.ntmps22
        go_wp2_with (fail)
        go_ret
        exact ⟨rfl, rfl⟩
      · rw [show levelB x = 0 from (if_neg h1).trans (if_neg h3)]
        have h4 : ¬ (x.toNat : Int) ≤ 2 := by omega
        clear h1 h3
        go_enter Try.func22, Try.ntmps22
        go_wp2_with (fail)
        go_ret
        exact ⟨rfl, rfl⟩
theorem levelb_any (k : ByteArray) (w : World) : Calls Try.prog 23 #[.string k] w fun e w' => e = .returned (.int .i64 (levelL k.toList)) ∧ w = w' := by
  cases hE : k.toList.isEmpty with
  | true =>
    have e : levelL k.toList = 3 := by
      have : k.toList = [] := by simpa using hE
      rw [this]; rfl
    rw [e]
    clear e
    go_enter Try.func23, Try.ntmps23
    go_wp2_with (fail)
    go_ret
    exact ⟨rfl, rfl⟩
  | false =>
    have h0 : 0 < k.size := by
      have : k.toList ≠ [] := by simpa using hE
      have := List.length_pos_iff.2 this
      rw [size_toList] at this
      exact this
    obtain ⟨r, hr⟩ := toList_head h0
    have e : levelL k.toList = levelB k[0] := by rw [hr]; rfl
    rw [e]
    clear e hr
    obtain ⟨x, hx⟩ : ∃ x, k[0] = x := ⟨_, rfl⟩
    rw [hx]
    by_cases h1 : x.toNat = 0
    · rw [show levelB x = 3 from if_pos h1]
      have h2 : ((x.toNat : Int) == 0) = true := by simp [h1]
      clear h1
      go_enter Try.func23, Try.ntmps23
      go_wp2_with (fail)
      go_ret
      exact ⟨rfl, rfl⟩
    · have h2 : ((x.toNat : Int) == 0) = false := by simp; omega
      by_cases h3 : x.toNat ≤ 2
      · rw [show levelB x = x.toNat from (if_neg h1).trans (if_pos h3)]
        have h4 : (x.toNat : Int) ≤ 2 := by omega
        clear h1 h3
        go_enter Try.func23, Try.ntmps23
        go_wp2_with (fail)
        go_ret
        exact ⟨rfl, rfl⟩
      · rw [show levelB x = 0 from (if_neg h1).trans (if_neg h3)]
        have h4 : ¬ (x.toNat : Int) ≤ 2 := by omega
        clear h1 h3
        go_enter Try.func23, Try.ntmps23
        go_wp2_with (fail)
        go_ret
        exact ⟨rfl, rfl⟩
end Go.Proofs.Ytocfiflcbblakaa
