/-
  Lemmas, joined of the texts KR K3 KI KJ KW.
-/
import Derived.Test.YtjmejamgbinigaaGreatDoorMB12
import Derived.Deep.RegionWith
import Derived.Test.YtjmejamgbinigaaGreatDoorMB11
namespace Go.Proofs.YtjmejamgbinigaaGreatDoor
set_option linter.unusedVariables false
set_option linter.unusedSimpArgs false
open Go.RowKit Go.Lib
set_option maxHeartbeats 1600000 in
theorem digits_small (n : Nat) (h : n < 10) (w : World) : Calls Tryz.prog 74 #[.int .u64 n] w fun e w' => e = .returned (.string (str (decDigits n))) ∧ Below w.heap.size w w' := by
  rw [dec_small h]
  have hn : n = 0 ∨ n = 1 ∨ n = 2 ∨ n = 3 ∨ n = 4 ∨ n = 5 ∨ n = 6 ∨ n = 7 ∨ n = 8 ∨ n = 9 := by omega
  have hb := hd (Below.refl w.heap.size w)
  rcases hn with rfl | rfl | rfl | rfl | rfl | rfl | rfl | rfl | rfl | rfl
  all_goals
    go_enter Tryz.func74, Tryz.ntmps74
    go_wp2
    go_ret
    exact ⟨rfl, hb.out⟩
set_option maxHeartbeats 1600000 in
theorem digits_big (n : Nat) (h : ¬ n < 10) (hn : n < 18446744073709551616) (w : World)
    (h1 : Hd (∀ w1, Below w.heap.size w w1 → Calls Tryz.prog 74 #[.int .u64 ((n / 10 : Nat) : Int)] w1 fun e w' => e = .returned (.string (str (decDigits (n / 10)))) ∧ Below w.heap.size w w'))
    (h2 : Hd (∀ w1, Below w.heap.size w w1 → Calls Tryz.prog 74 #[.int .u64 ((n % 10 : Nat) : Int)] w1 fun e w' => e = .returned (.string (str (decDigits (n % 10)))) ∧ Below w.heap.size w w')) :
    Calls Tryz.prog 74 #[.int .u64 n] w fun e w' => e = .returned (.string (str (decDigits n))) ∧ Below w.heap.size w w' := by
  have hp : (10 : Nat) ^ (19 + 1) = 100000000000000000000 := by decide
  have hz1 : (str (decDigits (n / 10))).size ≤ 20 := by rw [str_size]; exact dec_len 19 _ (by rw [hp]; omega)
  have hz2 : (str (decDigits (n % 10))).size ≤ 20 := by rw [str_size]; exact dec_len 19 _ (by rw [hp]; omega)
  clear hp
  have hb := hd (Below.refl w.heap.size w)
  have hge : ¬ (n : Int) < 10 := by omega
  go_enter Tryz.func74, Tryz.ntmps74
  go_wp2_with (fail)
  refine (h1.out _ hb.out).mono ?_
  rintro e w1 ⟨rfl, hb1⟩
  have HB1 := hd hb1
  clear hb1
  go_wp2_with (fail)
  refine (h2.out _ HB1.out).mono ?_
  rintro e w2 ⟨rfl, hb2⟩
  have HB2 := hd hb2
  clear hb2
  go_wp2_with (fail)
  go_ret
  refine ⟨?_, HB2.out⟩
  have hlt : n % 10 < 10 := Nat.mod_lt _ (by decide)
  rw [dec_big h, dec_small hlt]
  rw [show ∀ l m : List UInt8, str l ++ str m = str (l ++ m) from fun l m => ByteArray.mk_append_mk l m]
  rfl
theorem digits_text : ∀ (n : Nat), n < 18446744073709551616 → ∀ w : World, Calls Tryz.prog 74 #[.int .u64 n] w fun e w' => e = .returned (.string (str (decDigits n))) ∧ Below w.heap.size w w' := by
  intro n
  induction n using Nat.strongRecOn with
  | _ n ih =>
    intro hn w
    by_cases h : n < 10
    · exact digits_small n h w
    · have hl : n % 10 < 10 := Nat.mod_lt _ (by decide)
      refine digits_big n h hn w (hd fun w1 hb => ?_) (hd fun w1 hb => ?_)
      · exact (ih (n / 10) (by omega) (by omega) w1).mono fun e w' ⟨h1, h2⟩ => ⟨h1, hb.trans (h2.mono hb.size)⟩
      · exact (digits_small (n % 10) hl w1).mono fun e w' ⟨h1, h2⟩ => ⟨h1, hb.trans (h2.mono hb.size)⟩
set_option maxHeartbeats 1600000 in
theorem num_ref (n : Nat) (hn : n < 9223372036854775808) (w : World) : Calls Tryz.prog 59 #[.int .i64 n] w fun e w' => e = .returned (.string (str (itoa (n : Int)))) ∧ Below w.heap.size w w' := by
  rw [itoa_nat]
  have hw : IntKind.u64.wrap (n : Int) = n := by
    rw [IntKind.wrap_u64]
    omega
  have HD := hd (digits_text n (by omega) w)
  have h0 : ¬ (n : Int) < 0 := by omega
  go_enter Tryz.func59, Tryz.ntmps59
  go_wp2_with (go_at_call 74; refine HD.out.mono ?_; rintro e w' ⟨rfl, hb⟩)
  go_ret
  exact ⟨rfl, hb⟩
set_option maxHeartbeats 1600000 in
theorem strand_ref (x : ByteArray) (hx : x.size ≤ 4294967000) (w : World) : Calls Tryz.prog 56 #[.string x] w fun e w' => e = .returned (.string (str (strandL (bsL x)))) ∧ Below w.heap.size w w' := by
  have hlen : (itoa (x.size : Int)).length ≤ 20 := itoa_len (by unfold inI64; omega)
  have HN := hd (num_ref x.size (by omega) w)
  obtain ⟨D, hD⟩ : ∃ D, itoa (x.size : Int) = D := ⟨_, rfl⟩
  rw [hD] at HN hlen
  have hs : strandL (bsL x) = D ++ 58 :: (bsL x ++ [44]) := by unfold strandL; rw [bs_size, hD]
  rw [hs]
  have hz : (str D).size ≤ 20 := by rw [str_size]; exact hlen
  have z1 : (str D ++ (⟨#[58]⟩ : ByteArray)).size = (str D).size + 1 := by rw [ByteArray.size_append]; rfl
  have z2 : (str D ++ (⟨#[58]⟩ : ByteArray) ++ x).size = (str D).size + 1 + x.size := by rw [ByteArray.size_append, z1]
  have hfin : str D ++ (⟨#[58]⟩ : ByteArray) ++ x ++ (⟨#[44]⟩ : ByteArray) = str (D ++ 58 :: (bsL x ++ [44])) := by
    apply bs_inj
    simp [bsL, str]
  have HF := hd hfin
  clear hfin hD hs
  go_enter Tryz.func56, Tryz.ntmps56
  go_wp2_with (go_at_call 59; refine HN.out.mono ?_; rintro e w' ⟨rfl, hb⟩)
  go_ret
  exact ⟨by rw [← HF.out]; rfl, hb⟩
end Go.Proofs.YtjmejamgbinigaaGreatDoor
namespace Go.Proofs.YtjmejamgbinigaaGreatDoor
set_option linter.unusedVariables false
set_option linter.unusedSimpArgs false
open Go.RowKit Go.Lib Go.Proofs.YtjmejamgbinigaaGreatDoorW.PrintWords Go.Proofs.YtjmejamgbinigaaGreatDoorW.PrintLast
theorem tie_app : ∀ (l m : List Txt), tieL (l ++ m) = tieL l ++ tieL m
  | [], m => rfl
  | x :: l, m => by
    show strandL x ++ tieL (l ++ m) = (strandL x ++ tieL l) ++ tieL m
    rw [tie_app l m, List.append_assoc]
theorem tie_le {l : List Txt} (k : Nat) : (tieL (l.take k)).length ≤ (tieL l).length := by
  have h := congrArg List.length (tie_app (l.take k) (l.drop k))
  rw [List.take_append_drop, List.length_append] at h
  omega
theorem take_snoc {α : Type} {l : List α} {k : Nat} (h : k < l.length) : l.take (k + 1) = l.take k ++ [l[k]] := by
  rw [List.take_add_one, List.getElem?_eq_getElem h]
  rfl
/-- What Tie has written when k of the texts are tied. -/
def tied (l : List ByteArray) (k : Nat) : Txt := tieL ((l.take k).map bsL)
theorem tied_succ {l : List ByteArray} {k : Nat} (h : k < l.length) : tied l (k + 1) = ((((tied l k ++ bsL (str (itoa (l[k].size : Int)))) ++ [58]) ++ bsL l[k]) ++ [44]) := by
  unfold tied
  rw [take_snoc h, List.map_append, tie_app]
  show _ ++ (strandL (bsL l[k]) ++ []) = _
  unfold strandL
  rw [List.append_nil, bs_size, bs_of]
  simp only [List.append_assoc, List.cons_append, List.nil_append]
theorem tied_le (l : List ByteArray) (k : Nat) : (tied l k).length ≤ (tieL (l.map bsL)).length := by
  unfold tied
  rw [List.map_take]
  exact tie_le k
set_option maxHeartbeats 1600000 in
theorem tie_walk (A : Option Addr) (l : List ByteArray) (cap : Nat) (w : World) (hA : StrsAt w A l) (hsz : (tieL (l.map bsL)).length ≤ 140737488351232) (hG : Gl w) :
    Calls Tryz.prog 51 #[.slice A l.length cap] w fun e w' => e = .returned (.string (str (tieL (l.map bsL)))) ∧ Below w.heap.size w w' := by
  have HA := hd hA
  have HG := hd hG
  have HS := hd hsz
  clear hA hG hsz
  have hlen : l.length ≤ 140737488351232 := by
    have h1 : ∀ m : List Txt, m.length ≤ (tieL m).length := by
      intro m
      induction m with
      | nil => simp
      | cons x r ih =>
        have := strand_length x
        show r.length + 1 ≤ (strandL x ++ tieL r).length
        rw [List.length_append]
        omega
    have := h1 (l.map bsL)
    rw [List.length_map] at this
    have := HS.out
    omega
  have HL := hd hlen
  clear hlen
  go_enter Tryz.func51, Tryz.ntmps51
  go_wp2_with (fail)
  have hB0 := hd (bld_new w)
  have hD0 := hd ((Below.refl w.heap.size w).alloc (Nat.le_refl _) (.cells #[.pointer none, .slice none 0 0] 109))
  generalize w.alloc (.cells #[.pointer none, .slice none 0 0] 109) = W at *
  go_loopw [8] (fun i wr => ∃ k : Nat, k ≤ l.length ∧ i = .int .i64 k ∧ Hd (Bld w.heap.size w.heap.size (tied l k) wr) ∧ Hd (Below w.heap.size w wr)) (fun i _ => l.length - (RowKit.intOf i).toNat)
  case atStart => exact ⟨0, by omega, rfl, hB0, hD0⟩
  case round =>
    obtain ⟨k, hk, rfl, HB, HD⟩ := hrel
    have hll := HL.out
    by_cases hlt : k < l.length
    · obtain ⟨p, off, rfl⟩ := HA.out.addr (by intro h; rw [h] at hlt; simp at hlt)
      have c0 := (HA.out.below HD.out).cell p off k l[k] rfl (List.getElem?_eq_getElem hlt)
      have hs1 := tied_le l (k + 1)
      rw [tied_succ hlt] at hs1
      have hs2 := HS.out
      simp only [List.length_append, List.length_cons, List.length_nil] at hs1
      have z1 := bs_size (str (itoa (l[k].size : Int)))
      have z2 := bs_size l[k]
      have hi : inI64 (l[k].size : Int) := by unfold inI64; omega
      have H1 := hd (fun w' (hb : Below w.heap.size w w') => num_text (l[k].size : Int) w' hi (gl_below HG.out hb))
      obtain ⟨t, ht⟩ : ∃ t, str (itoa (l[k].size : Int)) = t := ⟨_, rfl⟩
      have HT := hd ht
      rw [ht] at H1 z1 hs1
      obtain ⟨x, hx⟩ : ∃ x, l[k] = x := ⟨_, rfl⟩
      have HX := hd hx
      have hxs : (l[k].size : Int) = (x.size : Int) := by rw [hx]
      rw [hx] at c0 z2 hs1 H1
      have H2 := hd (fun w' (hb : Below w.heap.size w w') (h : Bld w.heap.size w.heap.size (tied l k) w') => wstr w.heap.size w.heap.size (tied l k) t w' h (by omega) hb.size)
      have H3 := hd (fun w' (hb : Below w.heap.size w w') (h : Bld w.heap.size w.heap.size (tied l k ++ bsL t) w') => wmark w.heap.size w.heap.size (tied l k ++ bsL t) 58 58 rfl w' h (by simp only [List.length_append]; omega) hb.size)
      have H4 := hd (fun w' (hb : Below w.heap.size w w') (h : Bld w.heap.size w.heap.size (tied l k ++ bsL t ++ [58]) w') => wstr w.heap.size w.heap.size (tied l k ++ bsL t ++ [58]) x w' h (by simp only [List.length_append, List.length_cons, List.length_nil]; omega) hb.size)
      have H5 := hd (fun w' (hb : Below w.heap.size w w') (h : Bld w.heap.size w.heap.size (tied l k ++ bsL t ++ [58] ++ bsL x) w') => wmark w.heap.size w.heap.size (tied l k ++ bsL t ++ [58] ++ bsL x) 44 44 rfl w' h (by simp only [List.length_append, List.length_cons, List.length_nil]; omega) hb.size)
      have hE := hd (tied_succ hlt)
      rw [ht, hx] at hE
      clear hs1 hs2 z1 z2 hi ht hx hxs hB0 hD0
      go_wp2_with (first | (go_at_call 53; refine (H1.out _ HD.out).mono ?_; rintro e w1 ⟨rfl, q⟩; have D1 := hd (HD.out.trans (Below.mono q HD.out.size)); have B1 := hd (HB.out.below q); clear q) | (go_at_call_of 64 (Value.string t); refine (H2.out _ D1.out B1.out).mono ?_; rintro e w2 ⟨rfl, q1, q2⟩; have D2 := hd (D1.out.trans q2); have B2 := hd q1; clear q1 q2) | (go_at_call_of 65 (Value.int .u8 58); refine (H3.out _ D2.out B2.out).mono ?_; rintro e w3 ⟨rfl, q1, q2⟩; have D3 := hd (D2.out.trans q2); have B3 := hd q1; clear q1 q2) | (go_at_call_of 64 (Value.string x); refine (H4.out _ D3.out B3.out).mono ?_; rintro e w4 ⟨rfl, q1, q2⟩; have D4 := hd (D3.out.trans q2); have B4 := hd q1; clear q1 q2) | (go_at_call_of 65 (Value.int .u8 44); refine (H5.out _ D4.out B4.out).mono ?_; rintro e w5 ⟨rfl, q1, q2⟩; have D5 := hd (D4.out.trans q2); have B5 := hd q1; clear q1 q2))
      go_roundw
      case rel => exact ⟨k + 1, by omega, by go_num, hd (by rw [hE.out]; exact B5.out), D5⟩
      case measure => simp [RowKit.intOf]; omega
    · have hk' : k = l.length := by omega
      subst hk'
      have hT := hd (wtext w.heap.size w.heap.size (tied l l.length) wr HB.out HD.out.size)
      have e : tied l l.length = tieL (l.map bsL) := by unfold tied; rw [List.take_length]
      rw [e] at hT
      clear e
      go_wp2_with (go_at_call 66; refine hT.out.mono ?_; rintro e w1 ⟨rfl, q⟩; have D1 := hd (HD.out.trans q); clear q)
      go_ret
      exact ⟨rfl, D1.out⟩
end Go.Proofs.YtjmejamgbinigaaGreatDoor
namespace Go.Proofs.YtjmejamgbinigaaGreatDoor
set_option linter.unusedVariables false
set_option linter.unusedSimpArgs false
open Go.RowKit Go.Lib
theorem not_i64 (n : Int) (h0 : -9223372036854775808 ≤ n) (h1 : n < 0) : Go.bits .xor .i64 (-1) n = -n - 1 := by
  show IntKind.i64.wrap ((BitVec.ofInt 64 (-1) ^^^ BitVec.ofInt 64 n).toNat : Int) = _
  rw [show BitVec.ofInt 64 (-1) = BitVec.allOnes 64 by decide, BitVec.allOnes_xor, BitVec.toNat_not, BitVec.toNat_ofInt, IntKind.wrap_i64]
  omega
set_option maxHeartbeats 1600000 in
theorem num_neg (n : Int) (h0 : -9223372036854775808 ≤ n) (h1 : n < 0) (w : World) : Calls Tryz.prog 59 #[.int .i64 n] w fun e w' => e = .returned (.string (str (itoa n))) ∧ Below w.heap.size w w' := by
  have HD := hd (digits_text n.natAbs (by omega) w)
  have hx : IntKind.u64.wrap (IntKind.u64.wrap (Go.bits .xor .i64 (-1) n) + 1) = (n.natAbs : Int) := by
    rw [not_i64 n h0 h1, IntKind.wrap_u64, IntKind.wrap_u64]
    omega
  have hi : itoa n = 45 :: decDigits n.natAbs := by unfold itoa; rw [if_pos h1]
  rw [hi]
  have hp : (10 : Nat) ^ (19 + 1) = 100000000000000000000 := by decide
  have hz : (str (decDigits n.natAbs)).size ≤ 20 := by rw [str_size]; exact dec_len 19 _ (by rw [hp]; omega)
  clear hp hi
  have hcat : (⟨#[45]⟩ : ByteArray) ++ str (decDigits n.natAbs) = str (45 :: decDigits n.natAbs) := by
    apply bs_inj
    simp [bsL, str]
  have HC := hd hcat
  clear hcat
  go_enter Tryz.func59, Tryz.ntmps59
  go_wp2_with (fail)
  refine HD.out.mono ?_
  rintro e w' ⟨rfl, hb⟩
  go_wp2_with (fail)
  go_ret
  exact ⟨by rw [← HC.out]; rfl, hb⟩
end Go.Proofs.YtjmejamgbinigaaGreatDoor
namespace Go.Proofs.YtjmejamgbinigaaGreatDoor
set_option linter.unusedVariables false
set_option linter.unusedSimpArgs false
open Go.RowKit Go.Lib
def digs : Txt → Nat → Option Nat
  | [], n => some n
  | c :: l, n => if c.toNat < 48 ∨ 57 < c.toNat ∨ 1152921504606846976 < n then none else digs l (10 * n + (c.toNat - 48))
def isNeg (s : Txt) : Bool := s.head? == some 45
def bodyT (s : Txt) : Txt := if isNeg s = true then s.tail else s
def sgn (s : Txt) (n : Nat) : Int := if isNeg s = true then wrap64 (-(n : Int)) else wrap64 (n : Int)
def rintF (s : Txt) : Int × Int :=
  if 20 < s.length then (0, 10)
  else match digs (bodyT s) 0 with
    | none => (0, 10)
    | some n => if itoa (sgn s n) = s then (sgn s n, 0) else (0, 10)
theorem digs_app : ∀ (l r : Txt) (n : Nat), digs (l ++ r) n = (digs l n).bind (digs r)
  | [], r, n => rfl
  | c :: l, r, n => by
    rw [List.cons_append, digs, digs]
    split
    · rfl
    · exact digs_app l r _
theorem digs_dec (u : Nat) (h : u ≤ 9223372036854775808) : digs (decDigits u) 0 = some u := by
  induction u using Nat.strongRecOn with
  | _ u ih =>
    by_cases hu : u < 10
    · rw [dec_small hu, digs, digit_nat hu, if_neg (by omega), digs]
      congr 1
      omega
    · have hd : u % 10 < 10 := Nat.mod_lt _ (by decide)
      rw [dec_big hu, digs_app, ih (u / 10) (by omega) (by omega)]
      simp only [Option.bind_some]
      rw [digs, digit_nat hd, if_neg (by omega), digs]
      congr 1
      omega
theorem wrap64_in (x : Int) : inI64 (wrap64 x) := by
  unfold inI64 wrap64
  omega
theorem dec_head (u : Nat) : (decDigits u).head? ≠ some 45 := by
  cases hd : decDigits u with
  | nil => simp
  | cons c r =>
    have := dec_digit u c (by rw [hd]; simp)
    intro q
    simp at q
    subst q
    have : (45 : UInt8).toNat = 45 := rfl
    omega
theorem rintF_eq (s : Txt) : rintF s = match intL s with | some v => (v, 0) | none => (0, 10) := by
  cases hi : intL s with
  | some v =>
    obtain ⟨hs, hin⟩ := intL_some hi
    have hlen := itoa_len hin
    obtain ⟨h0, h1⟩ := hin
    unfold rintF
    rw [if_neg (by rw [hs]; omega)]
    by_cases hv : v < 0
    · have he : s = 45 :: decDigits v.natAbs := by rw [hs]; unfold itoa; rw [if_pos hv]
      have hn : isNeg s = true := by unfold isNeg; rw [he]; rfl
      have hb : bodyT s = decDigits v.natAbs := by unfold bodyT; rw [if_pos hn, he]; rfl
      have hg : sgn s v.natAbs = v := by
        unfold sgn
        rw [if_pos hn]
        unfold wrap64
        omega
      rw [hb, digs_dec _ (by omega)]
      simp only
      rw [hg, if_pos hs.symm]
    · have he : s = decDigits v.toNat := by rw [hs]; unfold itoa; rw [if_neg hv]
      have hn : ¬ isNeg s = true := by
        unfold isNeg
        rw [he]
        have := dec_head v.toNat
        simpa using this
      have hb : bodyT s = decDigits v.toNat := by unfold bodyT; rw [if_neg hn, he]
      have hg : sgn s v.toNat = v := by
        unfold sgn
        rw [if_neg hn]
        unfold wrap64
        omega
      rw [hb, digs_dec _ (by omega)]
      simp only
      rw [hg, if_pos hs.symm]
  | none =>
    unfold rintF
    split
    · rfl
    · split
      · rfl
      · rename_i n hn
        by_cases he : itoa (sgn s n) = s
        · exfalso
          have hin : inI64 (sgn s n) := by unfold sgn; split <;> exact wrap64_in _
          have := intL_itoa hin
          rw [he, hi] at this
          cases this
        · rw [if_neg he]
end Go.Proofs.YtjmejamgbinigaaGreatDoor
namespace Go.Proofs.YtjmejamgbinigaaGreatDoor
set_option linter.unusedVariables false
set_option linter.unusedSimpArgs false
open Go.RowKit Go.Lib
theorem bs_extract' (s : ByteArray) (a b : Nat) : bsL (s.extract a b) = ((bsL s).drop a).take (b - a) := by
  unfold bsL
  rw [ByteArray.data_extract, Array.toList_extract]
theorem not_u64 (m : Nat) (h : m < 18446744073709551616) : Go.bits .xor .u64 IntKind.u64.max (m : Int) = 18446744073709551615 - (m : Int) := by
  show IntKind.u64.wrap ((BitVec.ofInt 64 IntKind.u64.max ^^^ BitVec.ofInt 64 (m : Int)).toNat : Int) = _
  rw [show BitVec.ofInt 64 IntKind.u64.max = BitVec.allOnes 64 by decide, BitVec.allOnes_xor, BitVec.toNat_not, BitVec.toNat_ofInt, IntKind.wrap_u64]
  omega
theorem num_all (x : Int) (h : inI64 x) (w : World) : Calls Tryz.prog 59 #[.int .i64 x] w fun e w' => e = .returned (.string (str (itoa x))) ∧ Below w.heap.size w w' := by
  obtain ⟨h0, h1⟩ := h
  by_cases hx : x < 0
  · exact num_neg x h0 hx w
  · have := num_ref x.toNat (by omega) w
    rwa [Int.toNat_of_nonneg (by omega)] at this
theorem rint_bad {s : Txt} (h : digs (bodyT s) 0 = none) : rintF s = (0, 10) := by
  unfold rintF
  rw [h]
  split <;> rfl
theorem rint_end {s : Txt} {m : Nat} (hl : s.length ≤ 20) (h : digs (bodyT s) 0 = some m) : rintF s = if itoa (sgn s m) = s then (sgn s m, 0) else (0, 10) := by
  unfold rintF
  rw [if_neg (by omega), h]
set_option maxHeartbeats 6400000 in
set_option maxRecDepth 100000 in
theorem rint_neg (s : ByteArray) (hs : s.size ≤ 20) (w : World) (hn : isNeg (bsL s) = true) :
    Calls Tryz.prog 72 #[.string s] w fun e w' => e = .returned (.tuple #[.int .i64 (rintF (bsL s)).1, .int .i64 (rintF (bsL s)).2]) ∧ Below w.heap.size w w' := by
  have zs := bs_size s
  have hpos : 0 < s.size := by
    apply Classical.byContradiction
    intro q
    have : bsL s = [] := List.eq_nil_of_length_eq_zero (by omega)
    rw [this] at hn
    cases hn
  have hd0 : (bsL s).head? = some s[0] := by
    have := bs_get s 0 hpos
    rw [List.drop_zero] at this
    rw [this]; rfl
  have h0 : s[0] = 45 := by
    unfold isNeg at hn
    rw [hd0] at hn
    simpa using hn
  obtain ⟨D, hD⟩ : ∃ D, s.extract 1 s.size = D := ⟨_, rfl⟩
  have hDs : D.size ≤ 20 := by rw [← hD, ByteArray.size_extract]; omega
  have hDb : bsL D = bodyT (bsL s) := by
    unfold bodyT
    rw [if_pos hn, ← hD]
    rw [bs_extract']
    rw [List.drop_one]
    exact List.take_of_length_le (by rw [List.length_tail, zs]; exact Nat.le_refl _)
  have HDb := hd hDb
  have HN := hd hn
  have Hzs := hd zs
  have HB := hd (Below.refl w.heap.size w)
  clear hDb hn zs hd0
  go_enter Tryz.func72, Tryz.ntmps72
  go_wp2_with (fail)
  go_loop [6, 7] (fun n i => ∃ (k m : Nat), k ≤ D.size ∧ m ≤ 11529215046068469769 ∧ n = .int .u64 m ∧ i = .int .i64 k ∧ Hd (digs ((bsL D).drop k) m = digs (bsL D) 0)) (fun _ i => D.size - (RowKit.intOf i).toNat)
  case atStart => exact ⟨0, 0, by omega, by omega, rfl, rfl, hd (by simp)⟩
  case round =>
    obtain ⟨k, m, hk, hm, rfl, rfl, HD⟩ := hrel
    by_cases hlt : k < D.size
    · have hdr := bs_get D k hlt
      obtain ⟨x, hx⟩ : ∃ x, D[k] = x := ⟨_, rfl⟩
      rw [hx] at hdr
      have HDr := hd hdr
      clear hdr
      by_cases hbad : x.toNat < 48 ∨ 57 < x.toNat ∨ 1152921504606846976 < m
      · have HBad := hd (rint_bad (s := bsL s) (by rw [← HDb.out, ← HD.out, HDr.out, digs, if_pos hbad]))
        rcases hbad with hb | hb | hb
        all_goals
          go_wp2_with (fail)
          all_goals
            go_ret2
            rw [HBad.out]
            exact ⟨rfl, HB.out⟩
      · have hb1 : ¬ (x.toNat : Int) < 48 := by omega
        have hb2 : ¬ (57 : Int) < (x.toNat : Int) := by omega
        have hb3 : ¬ (1152921504606846976 : Int) < (m : Int) := by omega
        have HN2 : Hd (digs ((bsL D).drop (k + 1)) (10 * m + (x.toNat - 48)) = digs (bsL D) 0) := hd (by rw [← HD.out, HDr.out, digs, if_neg hbad])
        have hm2 : 10 * m + (x.toNat - 48) ≤ 11529215046068469769 := by have := x.toNat_lt; omega
        have hwk : wrap64 ((k : Int) + 1) = (k : Int) + 1 := by unfold wrap64; omega
        obtain ⟨m2, hm3⟩ : ∃ m2 : Nat, m2 = 10 * m + (x.toNat - 48) := ⟨_, rfl⟩
        rw [← hm3] at hm2 HN2
        have hm4 : 10 * (m : Int) + ((x.toNat : Int) - 48) = (m2 : Int) := by omega
        clear hbad hm3
        go_wp2_with (fail)
        exact ⟨⟨k + 1, m2, by omega, hm2, by first | rfl | (congr 1; omega), by first | rfl | go_num, HN2⟩, by simp [RowKit.intOf]; omega⟩
    · obtain rfl : k = D.size := by omega
      have hdm : digs (bodyT (bsL s)) 0 = some m := by
        rw [← HDb.out, ← HD.out, List.drop_eq_nil_of_le (by rw [bs_size]; omega)]
        rfl
      have HE := hd (rint_end (s := bsL s) (by rw [bs_size]; omega) hdm)
      clear hdm
      have HX := hd (num_all (sgn (bsL s) m) (by unfold sgn; split <;> exact wrap64_in _) w)
      have hx : wrap64 (IntKind.u64.wrap (Go.bits .xor .u64 IntKind.u64.max (m : Int) + 1)) = sgn (bsL s) m := by
        unfold sgn
        rw [if_pos HN.out, not_u64 m (by omega), IntKind.wrap_u64]
        unfold wrap64
        omega
      by_cases he : itoa (sgn (bsL s) m) = bsL s
      · have hst : str (itoa (sgn (bsL s) m)) = s := by rw [he, of_bs]
        have HE2 := hd he
        obtain ⟨v, hv⟩ : ∃ v, sgn (bsL s) m = v := ⟨_, rfl⟩
        rw [hv] at hx HX hst HE HE2
        clear he hv
        rw [hst] at HX
        clear hst
        go_wp2_with (fail)
        refine HX.out.mono ?_
        rintro e w1 ⟨rfl, hb1⟩
        go_wp2_with (fail)
        go_ret2
        rw [HE.out, if_pos HE2.out]
        exact ⟨rfl, hb1⟩
      · have hne : (str (itoa (sgn (bsL s) m))).toList ≠ s.toList := by rw [bs_toList, bs_toList, bs_of]; exact he
        have hq1 : ((str (itoa (sgn (bsL s) m))).toList == s.toList) = false := beq_eq_false_iff_ne.2 hne
        have HE2 := hd he
        obtain ⟨v, hv⟩ : ∃ v, sgn (bsL s) m = v := ⟨_, rfl⟩
        rw [hv] at hx HX hq1 HE HE2
        clear he hv hne
        go_wp2_with (fail)
        refine HX.out.mono ?_
        rintro e w1 ⟨rfl, hb1⟩
        go_wp2_with (fail)
        go_ret2
        rw [HE.out, if_neg HE2.out]
        exact ⟨rfl, hb1⟩
set_option maxHeartbeats 6400000 in
set_option maxRecDepth 100000 in
theorem rint_pos (s : ByteArray) (hs : s.size ≤ 20) (w : World) (hn : isNeg (bsL s) = false) (hpos : 0 < s.size) (h0 : ¬ s[0] = 45) :
    Calls Tryz.prog 72 #[.string s] w fun e w' => e = .returned (.tuple #[.int .i64 (rintF (bsL s)).1, .int .i64 (rintF (bsL s)).2]) ∧ Below w.heap.size w w' := by
  have zs := bs_size s
  have h00 : ¬ ((s[0].toNat : Nat) : Int) = 45 := fun q => h0 (UInt8.toNat_inj.1 (by have : (45 : UInt8).toNat = 45 := rfl; omega))
  have hDb : bsL s = bodyT (bsL s) := by
    unfold bodyT
    rw [if_neg (by rw [hn]; decide)]
  have HDb := hd hDb
  have HN := hd hn
  have Hzs := hd zs
  have HB := hd (Below.refl w.heap.size w)
  clear hDb hn zs
  go_enter Tryz.func72, Tryz.ntmps72
  go_wp2_with (fail)
  go_loop [6, 7] (fun n i => ∃ (k m : Nat), k ≤ s.size ∧ m ≤ 11529215046068469769 ∧ n = .int .u64 m ∧ i = .int .i64 k ∧ Hd (digs ((bsL s).drop k) m = digs (bsL s) 0)) (fun _ i => s.size - (RowKit.intOf i).toNat)
  case atStart => exact ⟨0, 0, by omega, by omega, rfl, rfl, hd (by simp)⟩
  case round =>
    obtain ⟨k, m, hk, hm, rfl, rfl, HD⟩ := hrel
    by_cases hlt : k < s.size
    · have hdr := bs_get s k hlt
      obtain ⟨x, hx⟩ : ∃ x, s[k] = x := ⟨_, rfl⟩
      rw [hx] at hdr
      have HDr := hd hdr
      clear hdr
      by_cases hbad : x.toNat < 48 ∨ 57 < x.toNat ∨ 1152921504606846976 < m
      · have HBad := hd (rint_bad (s := bsL s) (by rw [← HDb.out, ← HD.out, HDr.out, digs, if_pos hbad]))
        rcases hbad with hb | hb | hb
        all_goals
          go_wp2_with (fail)
          all_goals
            go_ret2
            rw [HBad.out]
            exact ⟨rfl, HB.out⟩
      · have hb1 : ¬ (x.toNat : Int) < 48 := by omega
        have hb2 : ¬ (57 : Int) < (x.toNat : Int) := by omega
        have hb3 : ¬ (1152921504606846976 : Int) < (m : Int) := by omega
        have HN2 : Hd (digs ((bsL s).drop (k + 1)) (10 * m + (x.toNat - 48)) = digs (bsL s) 0) := hd (by rw [← HD.out, HDr.out, digs, if_neg hbad])
        have hm2 : 10 * m + (x.toNat - 48) ≤ 11529215046068469769 := by have := x.toNat_lt; omega
        have hwk : wrap64 ((k : Int) + 1) = (k : Int) + 1 := by unfold wrap64; omega
        obtain ⟨m2, hm3⟩ : ∃ m2 : Nat, m2 = 10 * m + (x.toNat - 48) := ⟨_, rfl⟩
        rw [← hm3] at hm2 HN2
        have hm4 : 10 * (m : Int) + ((x.toNat : Int) - 48) = (m2 : Int) := by omega
        clear hbad hm3
        go_wp2_with (fail)
        exact ⟨⟨k + 1, m2, by omega, hm2, by first | rfl | (congr 1; omega), by first | rfl | go_num, HN2⟩, by simp [RowKit.intOf]; omega⟩
    · obtain rfl : k = s.size := by omega
      have hdm : digs (bodyT (bsL s)) 0 = some m := by
        rw [← HDb.out, ← HD.out, List.drop_eq_nil_of_le (by rw [bs_size]; omega)]
        rfl
      have HE := hd (rint_end (s := bsL s) (by rw [bs_size]; omega) hdm)
      clear hdm
      have HX := hd (num_all (sgn (bsL s) m) (by unfold sgn; split <;> exact wrap64_in _) w)
      have hx : wrap64 (m : Int) = sgn (bsL s) m := by
        unfold sgn
        rw [if_neg (by rw [HN.out]; decide)]
      by_cases he : itoa (sgn (bsL s) m) = bsL s
      · have hst : str (itoa (sgn (bsL s) m)) = s := by rw [he, of_bs]
        have HE2 := hd he
        obtain ⟨v, hv⟩ : ∃ v, sgn (bsL s) m = v := ⟨_, rfl⟩
        rw [hv] at hx HX hst HE HE2
        clear he hv
        rw [hst] at HX
        clear hst
        go_wp2_with (fail)
        refine HX.out.mono ?_
        rintro e w1 ⟨rfl, hb1⟩
        go_wp2_with (fail)
        go_ret2
        rw [HE.out, if_pos HE2.out]
        exact ⟨rfl, hb1⟩
      · have hne : (str (itoa (sgn (bsL s) m))).toList ≠ s.toList := by rw [bs_toList, bs_toList, bs_of]; exact he
        have hq1 : ((str (itoa (sgn (bsL s) m))).toList == s.toList) = false := beq_eq_false_iff_ne.2 hne
        have HE2 := hd he
        obtain ⟨v, hv⟩ : ∃ v, sgn (bsL s) m = v := ⟨_, rfl⟩
        rw [hv] at hx HX hq1 HE HE2
        clear he hv hne
        go_wp2_with (fail)
        refine HX.out.mono ?_
        rintro e w1 ⟨rfl, hb1⟩
        go_wp2_with (fail)
        go_ret2
        rw [HE.out, if_neg HE2.out]
        exact ⟨rfl, hb1⟩
set_option maxHeartbeats 6400000 in
set_option maxRecDepth 100000 in
theorem rint_nil (s : ByteArray) (hs : s.size ≤ 20) (w : World) (hn : isNeg (bsL s) = false) (hz : s.size = 0) :
    Calls Tryz.prog 72 #[.string s] w fun e w' => e = .returned (.tuple #[.int .i64 (rintF (bsL s)).1, .int .i64 (rintF (bsL s)).2]) ∧ Below w.heap.size w w' := by
  have zs := bs_size s
  have hDb : bsL s = bodyT (bsL s) := by
    unfold bodyT
    rw [if_neg (by rw [hn]; decide)]
  have HDb := hd hDb
  have HN := hd hn
  have Hzs := hd zs
  have HB := hd (Below.refl w.heap.size w)
  clear hDb hn zs
  go_enter Tryz.func72, Tryz.ntmps72
  go_wp2_with (fail)
  go_loop [6, 7] (fun n i => ∃ (k m : Nat), k ≤ s.size ∧ m ≤ 11529215046068469769 ∧ n = .int .u64 m ∧ i = .int .i64 k ∧ Hd (digs ((bsL s).drop k) m = digs (bsL s) 0)) (fun _ i => s.size - (RowKit.intOf i).toNat)
  case atStart => exact ⟨0, 0, by omega, by omega, rfl, rfl, hd (by simp)⟩
  case round =>
    obtain ⟨k, m, hk, hm, rfl, rfl, HD⟩ := hrel
    by_cases hlt : k < s.size
    · omega
    · obtain rfl : k = s.size := by omega
      have hdm : digs (bodyT (bsL s)) 0 = some m := by
        rw [← HDb.out, ← HD.out, List.drop_eq_nil_of_le (by rw [bs_size]; omega)]
        rfl
      have HE := hd (rint_end (s := bsL s) (by rw [bs_size]; omega) hdm)
      clear hdm
      have HX := hd (num_all (sgn (bsL s) m) (by unfold sgn; split <;> exact wrap64_in _) w)
      have hx : wrap64 (m : Int) = sgn (bsL s) m := by
        unfold sgn
        rw [if_neg (by rw [HN.out]; decide)]
      by_cases he : itoa (sgn (bsL s) m) = bsL s
      · have hst : str (itoa (sgn (bsL s) m)) = s := by rw [he, of_bs]
        have HE2 := hd he
        obtain ⟨v, hv⟩ : ∃ v, sgn (bsL s) m = v := ⟨_, rfl⟩
        rw [hv] at hx HX hst HE HE2
        clear he hv
        rw [hst] at HX
        clear hst
        go_wp2_with (fail)
        refine HX.out.mono ?_
        rintro e w1 ⟨rfl, hb1⟩
        go_wp2_with (fail)
        go_ret2
        rw [HE.out, if_pos HE2.out]
        exact ⟨rfl, hb1⟩
      · have hne : (str (itoa (sgn (bsL s) m))).toList ≠ s.toList := by rw [bs_toList, bs_toList, bs_of]; exact he
        have hq1 : ((str (itoa (sgn (bsL s) m))).toList == s.toList) = false := beq_eq_false_iff_ne.2 hne
        have HE2 := hd he
        obtain ⟨v, hv⟩ : ∃ v, sgn (bsL s) m = v := ⟨_, rfl⟩
        rw [hv] at hx HX hq1 HE HE2
        clear he hv hne
        go_wp2_with (fail)
        refine HX.out.mono ?_
        rintro e w1 ⟨rfl, hb1⟩
        go_wp2_with (fail)
        go_ret2
        rw [HE.out, if_neg HE2.out]
        exact ⟨rfl, hb1⟩
theorem rint_any (s : ByteArray) (hs0 : s.size ≤ 281474976710656) (w : World) :
    Calls Tryz.prog 72 #[.string s] w fun e w' => e = .returned (.tuple #[.int .i64 (rintF (bsL s)).1, .int .i64 (rintF (bsL s)).2]) ∧ Below w.heap.size w w' := by
  by_cases hs : s.size ≤ 20
  · cases hn : isNeg (bsL s) with
    | true => exact rint_neg s hs w hn
    | false =>
      rcases Nat.eq_zero_or_pos s.size with hz | hpos
      · exact rint_nil s hs w hn hz
      · refine rint_pos s hs w hn hpos (fun q => ?_)
        have := bs_get s 0 hpos
        rw [List.drop_zero] at this
        unfold isNeg at hn
        rw [this, q] at hn
        cases hn
  · have hR : rintF (bsL s) = (0, 10) := by unfold rintF; rw [if_pos (by rw [bs_size]; omega)]
    rw [hR]
    have hb := hd (Below.refl w.heap.size w)
    have h20 : (20 : Int) < s.size := by omega
    go_enter Tryz.func72, Tryz.ntmps72
    go_wp2_with (fail)
    go_ret2
    exact ⟨rfl, hb.out⟩
end Go.Proofs.YtjmejamgbinigaaGreatDoor
