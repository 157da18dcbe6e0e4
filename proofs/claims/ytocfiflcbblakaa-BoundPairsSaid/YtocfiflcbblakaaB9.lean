/-
  live.
-/
import Derived.Test.YtocfiflcbblakaaB8
import Derived.Deep.RegionHeld
namespace Go.Proofs.Ytocfiflcbblakaa
set_option linter.unusedVariables false
set_option linter.unusedSimpArgs false
open Go.RowKit
/-- What live knows of its variables a and c. -/
structure LV (w : World) (n m : Nat) (w' : World) : Prop where
  up : Up w w'
  a : w'.cell? ⟨n, 0, none⟩ = some (.string ⟨#[97]⟩) ∧ w'.cell? ⟨n, 1, none⟩ = some (.string ⟨#[102]⟩)
  c : w'.cell? ⟨m, 0, none⟩ = some (.string ⟨#[97]⟩) ∧ w'.cell? ⟨m, 1, none⟩ = some (.string ⟨#[109]⟩)
theorem LV.up' {w w' w'' : World} {n m : Nat} (h : LV w n m w') (k : Up w' w'') : LV w n m w'' := ⟨h.up.trans k, Two.up h.a k, Two.up h.c k⟩
theorem LV.made {w w' : World} {n m : Nat} (h : LV w n m w') (o : Obj) : LV w n m (w'.alloc o) := h.up' (Up.made w' o)
theorem LV.drewN {w w' : World} {n m : Nat} (h : LV w n m w') (k : Nat) : LV w n m (w'.drewN k) := h.up' ((Up.refl w').drewN k)
theorem lv_start (w w2 : World) (n : Nat) (hU : Up w w2) (h : Two w2 n (.string ⟨#[97]⟩) (.string ⟨#[102]⟩)) : LV w n w2.heap.size (w2.alloc (.cells #[.string ⟨#[97]⟩, .string ⟨#[109]⟩] 23)) :=
  ⟨hU.alloc _, Two.up h (Up.made w2 _), Two.made w2 _ _ _⟩
theorem bnds2 (w : World) (f t g u : ByteArray) (T : TypeId) :
    BndsAt (w.alloc (.cells #[.string f, .string t, .string g, .string u] T)) (some ⟨w.heap.size, 0, none⟩) [⟨f, t⟩, ⟨g, u⟩] := by
  have hB := Blk.new w [.string f, .string t, .string g, .string u] T
  refine ⟨fun _ => ⟨_, _, rfl⟩, ?_⟩
  · intro b off i j a v hA hi hj
    injection hA with hA
    injection hA with e1 e2
    subst e1
    subst e2
    rw [Nat.zero_add, hB.cell]
    match i, j with
    | 0, 0 => injection hi with hi; subst hi; exact hj
    | 0, 1 => injection hi with hi; subst hi; exact hj
    | 1, 0 => injection hi with hi; subst hi; exact hj
    | 1, 1 => injection hi with hi; subst hi; exact hj
    | 0, (n+2) => injection hi with hi; subst hi; cases hj
    | 1, (n+2) => injection hi with hi; subst hi; cases hj
    | (n+2), _ => cases hi
set_option maxHeartbeats 3200000 in
set_option maxRecDepth 100000 in
theorem live_any (w : World) : Calls Try.prog 12 #[] w fun e w' => e = .returned (.bool true) ∧ Up w w' := by
  have C1 := hd (cut_t (f := ⟨#[97]⟩) (t := ⟨#[109]⟩) (k := ⟨#[102]⟩) (by kernel_rfl))
  have J := hd (join_t (f := ⟨#[97]⟩) (t := ⟨#[102]⟩) (g := ⟨#[102]⟩) (u := ⟨#[109]⟩) (by kernel_rfl))
  have C2 := hd (cut_f (f := ⟨#[97]⟩) (t := ⟨#[102]⟩) (k := ⟨#[122]⟩) (by kernel_rfl))
  have M := hd (meta2 ⟨#[109]⟩ (by kernel_rfl) (by decide))
  have S := hd (search2 ⟨#[109]⟩ (by kernel_rfl) (by decide))
  have L := hd (levela_any ⟨#[109]⟩)
  have eM : (⟨#[2]⟩ : ByteArray) ++ ⟨#[109]⟩ = ⟨#[2, 109]⟩ := by kernel_rfl
  have eS : (⟨#[2]⟩ : ByteArray) ++ ⟨#[109]⟩ ++ ⟨#[0]⟩ = ⟨#[2, 109, 0]⟩ := by kernel_rfl
  have eL : levelL (⟨#[109]⟩ : ByteArray).toList = 0 := by kernel_rfl
  rw [eM] at M
  rw [eS] at S
  rw [eL] at L
  clear eM eS eL
  have hU := Up.refl w
  go_enter Try.func12, Try.ntmps12
  go_upto_region 3 with (first | (go_at_call_of 13 (Value.string ⟨#[102]⟩); refine (C1.out _).mono ?_; rintro e w1 ⟨rfl, h1⟩; replace hU := hU.trans h1) | (go_at_call 17; refine (num_any _ _).mono ?_; rintro e w' ⟨rfl, rfl⟩) | (go_at_call 15; refine (J.out _).mono ?_; rintro e w2 ⟨rfl, h2⟩; replace hU := ((hU.alloc _).alloc _).trans h2; have T1 := hd (two_cells h2).1; clear h2))
  have HS := hd (lv_start w w2 w1.heap.size hU T1.out)
  clear hU T1 C1 J
  have hA := HS.out.a
  obtain ⟨a1, a2⟩ := hA
  generalize w2.alloc (.cells #[.string ⟨#[97]⟩, .string ⟨#[109]⟩] 23) = W at *
  go_upto_region 4 with (go_at_call 13; refine (C2.out _).mono ?_; rintro e w3 ⟨rfl, h3⟩)
  have h3' := hd ((HS.out.up' h3).made (.cells #[.string ⟨#[]⟩, .string ⟨#[]⟩] 23))
  have h4' := hd (h3'.out.made (.cells #[.string ⟨#[]⟩, .string ⟨#[]⟩] 23))
  clear h3 h3' HS a1 a2 C2
  generalize (w3.alloc (.cells #[.string ⟨#[]⟩, .string ⟨#[]⟩] 23)).alloc (.cells #[.string ⟨#[]⟩, .string ⟨#[]⟩] 23) = W4 at *
  obtain ⟨a1, a2⟩ := h4'.out.a
  obtain ⟨a3, a4⟩ := h4'.out.c
  go_wp2_with (first | (go_at_call 17; refine (num_any _ _).mono ?_; rintro e w' ⟨rfl, rfl⟩) | (go_at_call 24; refine (M.out _).mono ?_; rintro e w' ⟨rfl, rfl⟩) | (go_at_call 26; refine (S.out _).mono ?_; rintro e w5 ⟨rfl, h5⟩; clear a1 a2 a3 a4) | (go_at_call 22; refine (L.out _).mono ?_; rintro e w' ⟨rfl, rfl⟩))
  have hWh : wholeFrom [] [⟨⟨#[]⟩, ⟨#[98]⟩⟩, ⟨⟨#[98]⟩, ⟨#[]⟩⟩] = true := by kernel_rfl
  have hW := whole_any _ [⟨⟨#[]⟩, ⟨#[98]⟩⟩, ⟨⟨#[98]⟩, ⟨#[]⟩⟩] 2 _ (bnds2 w5 ⟨#[]⟩ ⟨#[98]⟩ ⟨#[98]⟩ ⟨#[]⟩ 23) (by decide)
  rw [hWh] at hW
  refine hW.mono ?_
  rintro e w6 ⟨rfl, h6⟩
  go_wp2
  go_ret
  exact ⟨rfl, ((h4'.out.up.trans h5).alloc _).trans h6⟩
end Go.Proofs.Ytocfiflcbblakaa
