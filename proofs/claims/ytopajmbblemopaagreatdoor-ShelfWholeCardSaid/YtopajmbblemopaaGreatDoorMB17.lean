/-
  Lemmas, joined of the texts KR K3 KI KJ KW.
-/
import Derived.Test.YtopajmbblemopaaGreatDoorMB16
import Derived.Deep.RegionWith
import Derived.Test.YtopajmbblemopaaGreatDoorMB15
namespace Go.Proofs.YtopajmbblemopaaGreatDoor
set_option linter.unusedVariables false
set_option linter.unusedSimpArgs false
open Go.RowKit Go.Lib
end Go.Proofs.YtopajmbblemopaaGreatDoor
namespace Go.Proofs.YtopajmbblemopaaGreatDoor
set_option linter.unusedVariables false
set_option linter.unusedSimpArgs false
open Go.RowKit Go.Lib Go.Proofs.YtopajmbblemopaaGreatDoorW.PrintWords Go.Proofs.YtopajmbblemopaaGreatDoorW.PrintLast
theorem tie_app : ∀ (l m : List Txt), tieL (l ++ m) = tieL l ++ tieL m
  | [], m => rfl
  | x :: l, m => by
    show strandL x ++ tieL (l ++ m) = (strandL x ++ tieL l) ++ tieL m
    rw [tie_app l m, List.append_assoc]
theorem tie_le {l : List Txt} (k : Nat) : (tieL (l.take k)).length ≤ (tieL l).length := by
  have h := congrArg List.length (tie_app (l.take k) (l.drop k))
  rw [List.take_append_drop, List.length_append] at h
  omega
theorem take_snoc {α : Type} {l : List α} {k : Nat} (h : k < l.length) : l.take (k + 1) = l.take k ++ [l[k]] := by
  rw [List.take_add_one, List.getElem?_eq_getElem h]
  rfl
/-- What Tie has written when k of the texts are tied. -/
def tied (l : List ByteArray) (k : Nat) : Txt := tieL ((l.take k).map bsL)
theorem tied_succ {l : List ByteArray} {k : Nat} (h : k < l.length) : tied l (k + 1) = ((((tied l k ++ bsL (str (itoa (l[k].size : Int)))) ++ [58]) ++ bsL l[k]) ++ [44]) := by
  unfold tied
  rw [take_snoc h, List.map_append, tie_app]
  show _ ++ (strandL (bsL l[k]) ++ []) = _
  unfold strandL
  rw [List.append_nil, bs_size, bs_of]
  simp only [List.append_assoc, List.cons_append, List.nil_append]
theorem tied_le (l : List ByteArray) (k : Nat) : (tied l k).length ≤ (tieL (l.map bsL)).length := by
  unfold tied
  rw [List.map_take]
  exact tie_le k
set_option maxHeartbeats 1600000 in
theorem tie_walk (A : Option Addr) (l : List ByteArray) (cap : Nat) (w : World) (hA : StrsAt w A l) (hsz : (tieL (l.map bsL)).length ≤ 140737488351232) (hG : Gl w) :
    Calls Tryz.prog 69 #[.slice A l.length cap] w fun e w' => e = .returned (.string (str (tieL (l.map bsL)))) ∧ Below w.heap.size w w' := by
  have HA := hd hA
  have HG := hd hG
  have HS := hd hsz
  clear hA hG hsz
  have hlen : l.length ≤ 140737488351232 := by
    have h1 : ∀ m : List Txt, m.length ≤ (tieL m).length := by
      intro m
      induction m with
      | nil => simp
      | cons x r ih =>
        have := strand_length x
        show r.length + 1 ≤ (strandL x ++ tieL r).length
        rw [List.length_append]
        omega
    have := h1 (l.map bsL)
    rw [List.length_map] at this
    have := HS.out
    omega
  have HL := hd hlen
  clear hlen
  go_enter Tryz.func69, Tryz.ntmps69
  go_wp2_with (fail)
  have hB0 := hd (bld_new w)
  have hD0 := hd ((Below.refl w.heap.size w).alloc (Nat.le_refl _) (.cells #[.pointer none, .slice none 0 0] 145))
  generalize w.alloc (.cells #[.pointer none, .slice none 0 0] 145) = W at *
  go_loopw [8] (fun i wr => ∃ k : Nat, k ≤ l.length ∧ i = .int .i64 k ∧ Hd (Bld w.heap.size w.heap.size (tied l k) wr) ∧ Hd (Below w.heap.size w wr)) (fun i _ => l.length - (RowKit.intOf i).toNat)
  case atStart => exact ⟨0, by omega, rfl, hB0, hD0⟩
  case round =>
    obtain ⟨k, hk, rfl, HB, HD⟩ := hrel
    have hll := HL.out
    by_cases hlt : k < l.length
    · obtain ⟨p, off, rfl⟩ := HA.out.addr (by intro h; rw [h] at hlt; simp at hlt)
      have c0 := (HA.out.below HD.out).cell p off k l[k] rfl (List.getElem?_eq_getElem hlt)
      have hs1 := tied_le l (k + 1)
      rw [tied_succ hlt] at hs1
      have hs2 := HS.out
      simp only [List.length_append, List.length_cons, List.length_nil] at hs1
      have z1 := bs_size (str (itoa (l[k].size : Int)))
      have z2 := bs_size l[k]
      have hi : inI64 (l[k].size : Int) := by unfold inI64; omega
      have H1 := hd (fun w' (hb : Below w.heap.size w w') => num_text (l[k].size : Int) w' hi (gl_below HG.out hb))
      obtain ⟨t, ht⟩ : ∃ t, str (itoa (l[k].size : Int)) = t := ⟨_, rfl⟩
      have HT := hd ht
      rw [ht] at H1 z1 hs1
      obtain ⟨x, hx⟩ : ∃ x, l[k] = x := ⟨_, rfl⟩
      have HX := hd hx
      have hxs : (l[k].size : Int) = (x.size : Int) := by rw [hx]
      rw [hx] at c0 z2 hs1 H1
      have H2 := hd (fun w' (hb : Below w.heap.size w w') (h : Bld w.heap.size w.heap.size (tied l k) w') => wstr w.heap.size w.heap.size (tied l k) t w' h (by omega) hb.size)
      have H3 := hd (fun w' (hb : Below w.heap.size w w') (h : Bld w.heap.size w.heap.size (tied l k ++ bsL t) w') => wmark w.heap.size w.heap.size (tied l k ++ bsL t) 58 58 rfl w' h (by simp only [List.length_append]; omega) hb.size)
      have H4 := hd (fun w' (hb : Below w.heap.size w w') (h : Bld w.heap.size w.heap.size (tied l k ++ bsL t ++ [58]) w') => wstr w.heap.size w.heap.size (tied l k ++ bsL t ++ [58]) x w' h (by simp only [List.length_append, List.length_cons, List.length_nil]; omega) hb.size)
      have H5 := hd (fun w' (hb : Below w.heap.size w w') (h : Bld w.heap.size w.heap.size (tied l k ++ bsL t ++ [58] ++ bsL x) w') => wmark w.heap.size w.heap.size (tied l k ++ bsL t ++ [58] ++ bsL x) 44 44 rfl w' h (by simp only [List.length_append, List.length_cons, List.length_nil]; omega) hb.size)
      have hE := hd (tied_succ hlt)
      rw [ht, hx] at hE
      clear hs1 hs2 z1 z2 hi ht hx hxs hB0 hD0
      go_wp2_with (first | (go_at_call 87; refine (H1.out _ HD.out).mono ?_; rintro e w1 ⟨rfl, q⟩; have D1 := hd (HD.out.trans (Below.mono q HD.out.size)); have B1 := hd (HB.out.below q); clear q) | (go_at_call_of 90 (Value.string t); refine (H2.out _ D1.out B1.out).mono ?_; rintro e w2 ⟨rfl, q1, q2⟩; have D2 := hd (D1.out.trans q2); have B2 := hd q1; clear q1 q2) | (go_at_call_of 91 (Value.int .u8 58); refine (H3.out _ D2.out B2.out).mono ?_; rintro e w3 ⟨rfl, q1, q2⟩; have D3 := hd (D2.out.trans q2); have B3 := hd q1; clear q1 q2) | (go_at_call_of 90 (Value.string x); refine (H4.out _ D3.out B3.out).mono ?_; rintro e w4 ⟨rfl, q1, q2⟩; have D4 := hd (D3.out.trans q2); have B4 := hd q1; clear q1 q2) | (go_at_call_of 91 (Value.int .u8 44); refine (H5.out _ D4.out B4.out).mono ?_; rintro e w5 ⟨rfl, q1, q2⟩; have D5 := hd (D4.out.trans q2); have B5 := hd q1; clear q1 q2))
      go_roundw
      case rel => exact ⟨k + 1, by omega, by go_num, hd (by rw [hE.out]; exact B5.out), D5⟩
      case measure => simp [RowKit.intOf]; omega
    · have hk' : k = l.length := by omega
      subst hk'
      have hT := hd (wtext w.heap.size w.heap.size (tied l l.length) wr HB.out HD.out.size)
      have e : tied l l.length = tieL (l.map bsL) := by unfold tied; rw [List.take_length]
      rw [e] at hT
      clear e
      go_wp2_with (go_at_call 92; refine hT.out.mono ?_; rintro e w1 ⟨rfl, q⟩; have D1 := hd (HD.out.trans q); clear q)
      go_ret
      exact ⟨rfl, D1.out⟩
end Go.Proofs.YtopajmbblemopaaGreatDoor
namespace Go.Proofs.YtopajmbblemopaaGreatDoor
set_option linter.unusedVariables false
set_option linter.unusedSimpArgs false
open Go.RowKit Go.Lib
end Go.Proofs.YtopajmbblemopaaGreatDoor
namespace Go.Proofs.YtopajmbblemopaaGreatDoor
set_option linter.unusedVariables false
set_option linter.unusedSimpArgs false
open Go.RowKit Go.Lib
end Go.Proofs.YtopajmbblemopaaGreatDoor
namespace Go.Proofs.YtopajmbblemopaaGreatDoor
set_option linter.unusedVariables false
set_option linter.unusedSimpArgs false
open Go.RowKit Go.Lib
end Go.Proofs.YtopajmbblemopaaGreatDoor
