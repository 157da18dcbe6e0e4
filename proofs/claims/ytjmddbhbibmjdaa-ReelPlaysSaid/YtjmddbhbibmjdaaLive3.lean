/-
  The law's own small run ('live'): it answers true.
-/
import Derived.Test.YtjmddbhbibmjdaaLReel
namespace Go.Proofs.Ytjmddbhbibmjdaa
set_option linter.unusedVariables false
set_option linter.unusedSimpArgs false
open Go.RowKit

def LivePost (w0 : World) (e : Ending) (w' : World) : Prop := e = .returned (.bool true) ∧ Below w0.heap.size w0 w'

def st0 : RS := RS.new 100
def st1 : RS := { st0 with r0 := [97, 98], ops := 1 }
def st2 : RS := { st0 with s0 := [97, 98], ops := 2 }
def st3 : RS := { st0 with s0 := [97, 98], r0 := [99, 100], ops := 3 }
def st4 : RS := { st0 with s0 := [97, 98, 99], ops := 3 }
def st5 : RS := { st4 with left := 0 }
def st6 : RS := { st5 with dead := true }

theorem st_a : (RS.new 100).write 0 [97, 98] = (st1, 0) := by kernel_rfl
theorem st_b : st1.sync 0 = (st2, 0) := by kernel_rfl
theorem st_c : st2.write 0 [99, 100] = (st3, 0) := by kernel_rfl
theorem st_d : st3.crash 1 0 0 = st4 := by kernel_rfl
theorem st_e : st4.read 0 = ([97, 98, 99], 0) := by kernel_rfl
theorem st_f : st4.arm 0 = st5 := by kernel_rfl
theorem st_g : st5.wipe 1 = (st6, 30) := by kernel_rfl
theorem st_h : st6.free = 97 := by kernel_rfl
theorem st_i : st6.write 2 [] = (st6, 2) := by kernel_rfl

set_option maxHeartbeats 3200000 in
theorem live_any (w0 w : World) (hb : Below w0.heap.size w0 w) : Calls Try.prog 9 #[] w (LivePost w0) := by
  have hs : (str [97, 98, 99]).toList = [97, 98, 99] := by kernel_rfl
  go_enter Try.func9, Try.ntmps9
  go_wp2_with (first | (go_at_call 10; refine (Mine.new 100 w0 _ hb (by decide) (by decide)).mono ?_; rintro e w1 ⟨b, rfl, h0⟩) | (go_at_call 11; refine (num_any _ _).mono ?_; rintro e w' ⟨rfl, rfl⟩))
  refine (h0.write 0 ⟨#[97, 98]⟩ st1 0 st_a (by decide)).mono ?_
  rintro e w1 ⟨rfl, h1⟩
  clear h0 hb
  go_wp2_with (go_at_call 11; refine (num_any _ _).mono ?_; rintro e w' ⟨rfl, rfl⟩)
  refine (h1.sync 0 st2 0 st_b).mono ?_
  rintro e w1 ⟨rfl, h2⟩
  clear h1
  go_wp2_with (go_at_call 11; refine (num_any _ _).mono ?_; rintro e w' ⟨rfl, rfl⟩)
  refine (h2.write 0 ⟨#[99, 100]⟩ st3 0 st_c (by decide)).mono ?_
  rintro e w1 ⟨rfl, h3⟩
  clear h2
  go_wp2_with (go_at_call 11; refine (num_any _ _).mono ?_; rintro e w' ⟨rfl, rfl⟩)
  refine (h3.crash 1 0 0 _ rfl st4 st_d).mono ?_
  rintro e w1 ⟨rfl, h4⟩
  clear h3
  go_wp2_with (go_at_call 11; refine (num_any _ _).mono ?_; rintro e w' ⟨rfl, rfl⟩)
  refine (h4.read 0 [97, 98, 99] 0 st_e).mono ?_
  rintro e w1 ⟨rfl, h5⟩
  clear h4
  go_wp2_with (go_at_call 11; refine (num_any _ _).mono ?_; rintro e w' ⟨rfl, rfl⟩)
  refine (h5.arm 0 st5 st_f (by decide) (by decide)).mono ?_
  rintro e w1 ⟨rfl, h6⟩
  clear h5
  go_wp2_with (go_at_call 11; refine (num_any _ _).mono ?_; rintro e w' ⟨rfl, rfl⟩)
  refine (h6.wipe 1 st6 30 st_g).mono ?_
  rintro e w1 ⟨rfl, h7⟩
  clear h6
  go_wp2_with (go_at_call 11; refine (num_any _ _).mono ?_; rintro e w' ⟨rfl, rfl⟩)
  refine (h7.dead true rfl).mono ?_
  rintro e w1 ⟨rfl, rfl⟩
  go_wp2_with (fail)
  refine (h7.ops 3 rfl).mono ?_
  rintro e w1 ⟨rfl, rfl⟩
  go_wp2_with (fail)
  refine (h7.free 97 st_h).mono ?_
  rintro e w1 ⟨rfl, h8⟩
  clear h7
  go_wp2_with (fail)
  refine (h8.write 2 ⟨#[]⟩ st6 2 st_i (by decide)).mono ?_
  rintro e w1 ⟨rfl, h9⟩
  clear h8
  go_wp2_with (go_at_call 11; refine (num_any _ _).mono ?_; rintro e w' ⟨rfl, rfl⟩)
  go_ret
  exact ⟨rfl, h9.below⟩
end Go.Proofs.Ytjmddbhbibmjdaa
