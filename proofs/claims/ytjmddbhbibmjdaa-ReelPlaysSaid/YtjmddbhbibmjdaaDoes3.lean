/-
  The law's 'does': an act, of the program's reel.
-/
import Derived.Test.YtjmddbhbibmjdaaSmall3
namespace Go.Proofs.Ytjmddbhbibmjdaa
set_option linter.unusedVariables false
set_option linter.unusedSimpArgs false
open Go.RowKit

def RS.does (s : RS) (a : Act) : RS × Int :=
  if a.kind = 0 then s.write a.t a.s.data.toList else if a.kind = 1 then s.sync a.t else if a.kind = 2 then s.wipe a.t else if a.kind = 3 then s.trim a.t a.n
  else if a.kind = 4 then (s.arm a.n, 0) else if a.kind = 5 then (s.crash a.k0 a.k1 a.turn, 0) else (s, 0)

def Act.val (a : Act) : Value := .agg a.cells.toArray

theorem RPost.of_alloc {w w' : World} {b : Nat} {fp : List Nat} {s : RS} {o : Obj} (h : RPost (w.alloc o) b fp s w') : RPost w b fp s w' := by
  obtain ⟨fp', hR, hC, hF⟩ := h
  refine ⟨fp', hR, ((Chg.refl (· ∈ fp) w).alloc o).trans hC (fun _ q => .inl q), fun k hk => ?_⟩
  rcases hF k hk with q | q
  · exact .inl q
  · right; simp at q; omega

set_option maxHeartbeats 1600000 in
theorem does_any (b : Nat) (a : Act) (s : RS) (fp : List Nat) (w : World) (hR : ReelAt w b s fp) (ha : a.Ok) (hs : a.s.size ≤ 20000) :
    Calls Try.prog 22 #[.pointer (some ⟨b, 0, none⟩), .agg #[.int .i64 a.kind, .int .i64 a.t, .string a.s, .int .i64 a.n, .int .i64 a.k0, .int .i64 a.k1, .int .u8 a.turn.toNat]] w fun e w' => e = .returned (.int .i64 (s.does a).2) ∧ RPost w b fp (s.does a).1 w' := by
  have HN : Hd (∀ (o : Obj), ReelAt (w.alloc o) b s fp) := hd fun o => hR.chg ((Chg.refl (fun _ => False) w).alloc o) (fun _ _ q => q)
  obtain ⟨kind, t, q, n, c0, c1, turn⟩ := a
  have hn0 : -9223372036854775808 ≤ n := ha.n0
  have hn1 : n ≤ 9223372036854775807 := ha.n1
  have hq : (q.size : Int) ≤ 4194304 := by have h : q.size ≤ 20000 := hs; omega
  clear hs ha
  dsimp only
  by_cases k0 : kind = 0
  · have HD : Hd (s.does ⟨kind, t, q, n, c0, c1, turn⟩ = s.write t q.data.toList) := hd (by unfold RS.does; dsimp only; rw [if_pos k0])
    have h0 : (kind == 0) = true := by simp [k0]
    clear hR k0
    go_enter Try.func22, Try.ntmps22
    go_wp2_with (first | (go_at_call 12; refine (write_any b t s fp _ q (HN.out _) hq).mono ?_; rintro e w1 ⟨rfl, hp⟩) | (go_at_call 11; refine (num_any _ _).mono ?_; rintro e w' ⟨rfl, rfl⟩))
    go_ret
    rw [HD.out]
    exact ⟨rfl, hp.of_alloc⟩
  by_cases k1 : kind = 1
  · have HD : Hd (s.does ⟨kind, t, q, n, c0, c1, turn⟩ = s.sync t) := hd (by unfold RS.does; dsimp only; rw [if_neg (by omega), if_pos k1])
    have h0 : (kind == 0) = false := by simp; omega
    have h1 : (kind == 1) = true := by simp [k1]
    clear hR k0 k1
    go_enter Try.func22, Try.ntmps22
    go_wp2_with (first | (go_at_call 13; refine (sync_any b t s fp _ (HN.out _)).mono ?_; rintro e w1 ⟨rfl, hp⟩) | (go_at_call 11; refine (num_any _ _).mono ?_; rintro e w' ⟨rfl, rfl⟩))
    go_ret
    rw [HD.out]
    exact ⟨rfl, hp.of_alloc⟩
  by_cases k2 : kind = 2
  · have HD : Hd (s.does ⟨kind, t, q, n, c0, c1, turn⟩ = s.wipe t) := hd (by unfold RS.does; dsimp only; rw [if_neg (by omega), if_neg (by omega), if_pos k2])
    have h0 : (kind == 0) = false := by simp; omega
    have h1 : (kind == 1) = false := by simp; omega
    have h2 : (kind == 2) = true := by simp [k2]
    clear hR k0 k1 k2
    go_enter Try.func22, Try.ntmps22
    go_wp2_with (first | (go_at_call 27; refine (wipe_any b t s fp _ (HN.out _)).mono ?_; rintro e w1 ⟨rfl, hp⟩) | (go_at_call 11; refine (num_any _ _).mono ?_; rintro e w' ⟨rfl, rfl⟩))
    go_ret
    rw [HD.out]
    exact ⟨rfl, hp.of_alloc⟩
  by_cases k3 : kind = 3
  · have HD : Hd (s.does ⟨kind, t, q, n, c0, c1, turn⟩ = s.trim t n) := hd (by unfold RS.does; dsimp only; rw [if_neg (by omega), if_neg (by omega), if_neg (by omega), if_pos k3])
    have h0 : (kind == 0) = false := by simp; omega
    have h1 : (kind == 1) = false := by simp; omega
    have h2 : (kind == 2) = false := by simp; omega
    have h3 : (kind == 3) = true := by simp [k3]
    clear hR k0 k1 k2 k3
    go_enter Try.func22, Try.ntmps22
    go_wp2_with (first | (go_at_call 26; refine (trim_any b t n s fp _ (HN.out _)).mono ?_; rintro e w1 ⟨rfl, hp⟩) | (go_at_call 11; refine (num_any _ _).mono ?_; rintro e w' ⟨rfl, rfl⟩))
    go_ret
    rw [HD.out]
    exact ⟨rfl, hp.of_alloc⟩
  by_cases k4 : kind = 4
  · have HD : Hd (s.does ⟨kind, t, q, n, c0, c1, turn⟩ = (s.arm n, 0)) := hd (by unfold RS.does; dsimp only; rw [if_neg (by omega), if_neg (by omega), if_neg (by omega), if_neg (by omega), if_pos k4])
    have h0 : (kind == 0) = false := by simp; omega
    have h1 : (kind == 1) = false := by simp; omega
    have h2 : (kind == 2) = false := by simp; omega
    have h3 : (kind == 3) = false := by simp; omega
    have h4 : (kind == 4) = true := by simp [k4]
    clear hR k0 k1 k2 k3 k4
    go_enter Try.func22, Try.ntmps22
    go_wp2_with (first | (go_at_call 16; refine (arm_any b n s fp _ (HN.out _) hn0 hn1).mono ?_; rintro e w1 ⟨rfl, hp⟩) | (go_at_call 11; refine (num_any _ _).mono ?_; rintro e w' ⟨rfl, rfl⟩))
    go_ret
    rw [HD.out]
    exact ⟨rfl, hp.of_alloc⟩
  by_cases k5 : kind = 5
  · have HD : Hd (s.does ⟨kind, t, q, n, c0, c1, turn⟩ = (s.crash c0 c1 turn, 0)) := hd (by unfold RS.does; dsimp only; rw [if_neg (by omega), if_neg (by omega), if_neg (by omega), if_neg (by omega), if_neg (by omega), if_pos k5])
    have h0 : (kind == 0) = false := by simp; omega
    have h1 : (kind == 1) = false := by simp; omega
    have h2 : (kind == 2) = false := by simp; omega
    have h3 : (kind == 3) = false := by simp; omega
    have h4 : (kind == 4) = false := by simp; omega
    have h5 : (kind == 5) = true := by simp [k5]
    clear hR k0 k1 k2 k3 k4 k5
    go_enter Try.func22, Try.ntmps22
    go_wp2_with (first | (go_at_call 14; refine (crash_any b c0 c1 turn s fp _ (HN.out _)).mono ?_; rintro e w1 ⟨rfl, hp⟩) | (go_at_call 11; refine (num_any _ _).mono ?_; rintro e w' ⟨rfl, rfl⟩))
    go_ret
    rw [HD.out]
    exact ⟨rfl, hp.of_alloc⟩
  · have HD : Hd (s.does ⟨kind, t, q, n, c0, c1, turn⟩ = (s, 0)) := hd (by unfold RS.does; dsimp only; rw [if_neg (by omega), if_neg (by omega), if_neg (by omega), if_neg (by omega), if_neg (by omega), if_neg (by omega)])
    have h0 : (kind == 0) = false := by simp; omega
    have h1 : (kind == 1) = false := by simp; omega
    have h2 : (kind == 2) = false := by simp; omega
    have h3 : (kind == 3) = false := by simp; omega
    have h4 : (kind == 4) = false := by simp; omega
    have h5 : (kind == 5) = false := by simp; omega
    clear k0 k1 k2 k3 k4 k5
    have HP : Hd (∀ o : Obj, RPost w b fp s (w.alloc o)) := hd fun o => ⟨fp, HN.out o, (Chg.refl _ w).alloc o, fun _ hk => .inl hk⟩
    clear hR
    go_enter Try.func22, Try.ntmps22
    go_wp2
    go_ret
    rw [HD.out]
    exact ⟨rfl, HP.out _⟩
end Go.Proofs.Ytjmddbhbibmjdaa
