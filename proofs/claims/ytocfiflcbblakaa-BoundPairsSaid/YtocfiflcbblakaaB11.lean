/-
  Meta, of every text.
-/
import Derived.Test.YtocfiflcbblakaaB6
import Derived.Test.YtocfiflcbblakaaShelf
namespace Go.Proofs.Ytocfiflcbblakaa
set_option linter.unusedVariables false
set_option linter.unusedSimpArgs false
open Go.RowKit
def ff31 : ByteArray := ⟨#[255,255,255,255,255,255,255,255,255,255,255,255,255,255,255,255,255,255,255,255,255,255,255,255,255,255,255,255,255,255,255]⟩
theorem rep31 (w : World) : Calls Try.prog 40 #[.string ⟨#[255]⟩, .int .i64 31] w fun e w' => e = .returned (.string ff31) ∧ Up w w' := by
  refine (Try.strings_Repeat ⟨#[255]⟩ 31 w (by decide) (by decide)).mono ?_
  rintro e w' ⟨rfl, h⟩
  exact ⟨by kernel_rfl, h⟩
def metaL (l : Int) (k : ByteArray) : ByteArray := if l < 1 ∨ 2 < l then ⟨#[]⟩ else (if l = 1 then ⟨#[1]⟩ else ⟨#[2]⟩) ++ (if k.toList = [] then ff31 else k)
theorem metae1 (k : ByteArray) (h : k.toList.isEmpty = true) (w : World) : Calls Try.prog 24 #[.int .i64 1, .string k] w fun e w' => e = .returned (.string (⟨#[1]⟩ ++ ff31)) ∧ Up w w' := by
  have e1 : Utf8.encode 1 = ⟨#[1]⟩ := by kernel_rfl
  have e2 : (⟨#[1]⟩ : ByteArray).size = 1 := rfl
  have e3 : ff31.size = 31 := rfl
  have hR := hd rep31
  go_enter Try.func24, Try.ntmps24
  go_wp2_with (go_at_call 40; refine (hR.out _).mono ?_; rintro e w1 ⟨rfl, hu⟩)
  go_ret
  exact ⟨rfl, hu⟩
theorem metae2 (k : ByteArray) (h : k.toList.isEmpty = true) (w : World) : Calls Try.prog 24 #[.int .i64 2, .string k] w fun e w' => e = .returned (.string (⟨#[2]⟩ ++ ff31)) ∧ Up w w' := by
  have e1 : Utf8.encode 2 = ⟨#[2]⟩ := by kernel_rfl
  have e2 : (⟨#[2]⟩ : ByteArray).size = 1 := rfl
  have e3 : ff31.size = 31 := rfl
  have hR := hd rep31
  go_enter Try.func24, Try.ntmps24
  go_wp2_with (go_at_call 40; refine (hR.out _).mono ?_; rintro e w1 ⟨rfl, hu⟩)
  go_ret
  exact ⟨rfl, hu⟩
theorem meta_any (l : Int) (k : ByteArray) (hk : k.size ≤ 2000) (w : World) : Calls Try.prog 24 #[.int .i64 l, .string k] w fun e w' => e = .returned (.string (metaL l k)) ∧ Up w w' := by
  by_cases h : l < 1 ∨ 2 < l
  · have e : metaL l k = ⟨#[]⟩ := by unfold metaL; rw [if_pos h]
    rw [e]
    refine (meta_no l k h w).mono ?_
    rintro e w' ⟨rfl, rfl⟩
    exact ⟨rfl, Up.refl _⟩
  · by_cases hE : k.toList = []
    · have hE' : k.toList.isEmpty = true := by simpa using hE
      have : l = 1 ∨ l = 2 := by omega
      rcases this with rfl | rfl
      · have e : metaL 1 k = ⟨#[1]⟩ ++ ff31 := by unfold metaL; rw [if_neg (by decide), if_pos rfl, if_pos hE]
        rw [e]
        exact metae1 k hE' w
      · have e : metaL 2 k = ⟨#[2]⟩ ++ ff31 := by unfold metaL; rw [if_neg (by decide), if_neg (by decide), if_pos hE]
        rw [e]
        exact metae2 k hE' w
    · have hE' : k.toList.isEmpty = false := by simpa using hE
      have : l = 1 ∨ l = 2 := by omega
      rcases this with rfl | rfl
      · have e : metaL 1 k = ⟨#[1]⟩ ++ k := by unfold metaL; rw [if_neg (by decide), if_pos rfl, if_neg hE]
        rw [e]
        refine (meta1 k hE' (by omega) w).mono ?_
        rintro e w' ⟨rfl, rfl⟩
        exact ⟨rfl, Up.refl _⟩
      · have e : metaL 2 k = ⟨#[2]⟩ ++ k := by unfold metaL; rw [if_neg (by decide), if_neg (by decide), if_neg hE]
        rw [e]
        refine (meta2 k hE' (by omega) w).mono ?_
        rintro e w' ⟨rfl, rfl⟩
        exact ⟨rfl, Up.refl _⟩
end Go.Proofs.Ytocfiflcbblakaa
