/-
  Whole.
-/
import Derived.Test.YtocfiflcbblakaaB7
import Derived.WalkMore
namespace Go.Proofs.Ytocfiflcbblakaa
set_option linter.unusedVariables false
set_option linter.unusedSimpArgs false
open Go.RowKit
theorem drop_at {l : List Bnd} {k : Nat} {a : Bnd} (h : l[k]? = some a) : l.drop k = a :: l.drop (k + 1) := by
  obtain ⟨h1, h2⟩ := List.getElem?_eq_some_iff.1 h
  rw [← h2]
  exact List.drop_eq_getElem_cons h1
theorem toList_nil : (⟨#[]⟩ : ByteArray).toList = [] := by rw [ByteArray.toList_eq]
set_option maxHeartbeats 3200000 in
theorem whole_any (A : Option Addr) (l : List Bnd) (cap : Nat) (w : World) (hA : BndsAt w A l) (hl : l.length ≤ 140737488351232) : Calls Try.prog 20 #[.slice A l.length cap] w fun e w' => e = .returned (.bool (wholeFrom [] l)) ∧ Up w w' := by
  have HA := hd hA
  obtain ⟨W, hW⟩ : ∃ W, wholeFrom [] l = W := ⟨_, rfl⟩
  rw [hW]
  have HW := hd hW
  clear hW hA
  go_enter Try.func20, Try.ntmps20
  go_wp2_with (fail)
  go_step3
  go_wp2_with (fail)
  go_step3
  go_wp2_with (fail)
  go_loopw [3, 4, 9] (fun x o i wr => ∃ (k : Nat) (at_ : ByteArray), k ≤ l.length ∧ x = .string at_ ∧ o = .bool true ∧ i = .int .i64 k ∧ Up w wr ∧ Hd (wholeFrom at_.toList (l.drop k) = W)) (fun _ _ i _ => l.length - (intOf i).toNat)
  case atStart => exact ⟨0, ⟨#[]⟩, by omega, rfl, rfl, rfl, Up.refl w, hd (by rw [toList_nil]; exact HW.out)⟩
  case round =>
    obtain ⟨k, at_, hk, rfl, rfl, rfl, hU, hWk⟩ := hrel
    by_cases hlt : k < l.length
    · obtain ⟨p, off, rfl⟩ := HA.out.addr (by intro h; rw [h] at hlt; simp at hlt)
      obtain ⟨a, ha⟩ : ∃ a, l[k]? = some a := ⟨_, List.getElem?_eq_getElem hlt⟩
      obtain ⟨c0, c1⟩ := (HA.out.up hU).two ha
      have hw := hWk.out
      rw [drop_at ha] at hw
      have hC := check_any a.f a.t
      have HU := hd hU
      clear hWk ha HW
      simp only [wholeFrom] at hw
      cases h1 : okL a.f.toList a.t.toList with
      | false =>
        rw [h1] at hC hw
        simp only [Bool.false_and, Bool.false_eq_true, if_false] at hw
        have HC := hd hC
        have HWd := hd hw
        clear hC hw h1 hU
        go_wp2_with (go_at_call 29; refine (HC.out _).mono ?_; rintro e w1 ⟨rfl, hu⟩; rw [err20_f])
        try rw [Exit.noGoto_ret]
        go_ret
        exact ⟨by rw [← HWd.out]; rfl, HU.out.trans (one_up hu)⟩
      | true =>
        rw [h1] at hC hw
        rw [err20_t] at hC
        simp only [Bool.true_and] at hw
        have HC := hd hC
        cases h2 : (a.f.toList == at_.toList) with
        | false =>
          rw [h2] at hw
          simp only [Bool.false_eq_true, if_false] at hw
          have HWd := hd hw
          clear hC hw h1 hU
          go_wp2_with (go_at_call 29; refine (HC.out _).mono ?_; rintro e w1 ⟨rfl, hu⟩; obtain ⟨d0, d1⟩ := one_cells hu)
          try rw [Exit.noGoto_ret]
          go_ret
          exact ⟨by rw [← HWd.out]; rfl, HU.out.trans (one_up hu)⟩
        | true =>
          rw [h2] at hw
          simp only [if_true] at hw
          cases h3 : a.t.toList.isEmpty with
          | true =>
            rw [h3] at hw
            simp only [if_true] at hw
            have hlast : (l.drop (k + 1)).isEmpty = !decide ((k : Int) < (l.length : Int) - 1) := by
              rw [Bool.eq_iff_iff]
              simp
              omega
            rw [hlast] at hw
            have HWd := hd hw
            clear hC hw h1 hU hlast
            go_wp2_with (go_at_call 29; refine (HC.out _).mono ?_; rintro e w1 ⟨rfl, hu⟩; obtain ⟨d0, d1⟩ := one_cells hu)
            try rw [Exit.noGoto_ret]
            go_ret
            exact ⟨by rw [← HWd.out]; rfl, HU.out.trans (one_up hu)⟩
          | false =>
            rw [h3] at hw
            simp only [Bool.false_eq_true, if_false] at hw
            have HWd := hd hw
            clear hC hw h1 hU
            go_wp2_with (go_at_call 29; refine (HC.out _).mono ?_; rintro e w1 ⟨rfl, hu⟩; obtain ⟨d0, d1⟩ := one_cells hu)
            go_roundw
            case rel => exact ⟨k + 1, a.t, by omega, rfl, rfl, by go_num, HU.out.trans (one_up hu), HWd⟩
            case measure => simp [intOf]; omega
    · have hk' : l.length ≤ k := by omega
      have hw := hWk.out
      rw [List.drop_eq_nil_of_le hk'] at hw
      have HWd := hd hw
      clear hWk hw HW
      go_wp2_with (fail)
      try rw [Exit.noGoto_ret]
      go_ret
      exact ⟨by rw [← HWd.out]; rfl, hU⟩
end Go.Proofs.Ytocfiflcbblakaa
