/-
  The walk of ReelArmed.
-/
import Derived.Test.YtjmddbhbibmjdaaLV
namespace Go.Proofs.Ytjmddbhbibmjdaa
set_option linter.unusedVariables false
set_option linter.unusedSimpArgs false
open Go.RowKit

/-- Behind i writes of one byte each, tape by tape, the power about to fail behind n. -/
def ar (n i : Nat) : RS := { s0 := [], r0 := List.replicate ((min i 20 + 1) / 2) 97, s1 := [], r1 := List.replicate (min i 20 / 2) 97, room := 20, left := (n : Int) - i, dead := false, ops := ((min i 20 : Nat) : Int) }
def arDead (n : Nat) : RS := { ar n n with left := 0, dead := true }
theorem ar_begin (n i : Nat) (h : i < n) (t : Int) (ht : t = 0 ∨ t = 1) : (ar n i).begin_ t = ({ ar n i with left := (n : Int) - i - 1 }, 0) := by
  have h1 : ¬ (t < 0 ∨ 2 ≤ t) := by omega
  have h2 : ¬ ((ar n i).dead = true ∨ (ar n i).left = 0) := by simp [ar]; omega
  have h3 : 0 < (ar n i).left := by simp [ar]; omega
  unfold RS.begin_ RS.start
  rw [if_neg h1, if_neg h2, if_pos h3]
  rfl
theorem rep_snoc (k : Nat) (x : UInt8) : List.replicate k x ++ [x] = List.replicate (k + 1) x := by rw [List.replicate_succ']
theorem wrap_small (k : Nat) (h : k ≤ 100) : wrap64 ((k : Int) + 1) = ((k + 1 : Nat) : Int) := by
  rw [IntWalk.wrap64_in _ (by omega)]; omega
theorem ar_ok (n i : Nat) (h : i < n) (h20 : i < 20) : (ar n i).write ((i : Int) % 2) [97] = (ar n (i + 1), 0) := by
  have ht : (i : Int) % 2 = 0 ∨ (i : Int) % 2 = 1 := by omega
  have hb := ar_begin n i h _ ht
  unfold RS.write RS.op
  rw [hb]
  simp only [ne_eq, not_true_eq_false, if_false]
  unfold RS.write1
  rw [if_neg (by simp [RS.free, ar]; omega)]
  have e1 : min i 20 = i := by omega
  have e2 : min (i + 1) 20 = i + 1 := by omega
  have e3 : wrap64 (((min i 20 : Nat) : Int) + 1) = ((min (i + 1) 20 : Nat) : Int) := by rw [e1, e2]; exact wrap_small i (by omega)
  rcases ht with ht | ht
  · rw [ht]
    have e4 : (i + 1) / 2 + 1 = (i + 1 + 1) / 2 := by omega
    have e5 : i / 2 = (i + 1) / 2 := by omega
    simp only [RS.put, RS.tick, RS.safe, RS.rest, ar, if_true, e1, e2, e3, rep_snoc, Prod.mk.injEq, RS.mk.injEq, and_true, true_and]
    refine ⟨by rw [e4], by rw [e5], by omega, ?_⟩
    rw [wrap_small i (by omega)]
  · rw [ht]
    have e4 : (i + 1) / 2 = (i + 1 + 1) / 2 := by omega
    have e5 : i / 2 + 1 = (i + 1) / 2 := by omega
    simp only [RS.put, RS.tick, RS.safe, RS.rest, ar, e1, e2, e3, rep_snoc, Prod.mk.injEq, RS.mk.injEq, and_true, true_and, show ¬ ((1 : Int) = 0) from by decide, if_false]
    refine ⟨by rw [e4], by rw [e5], by omega, ?_⟩
    rw [wrap_small i (by omega)]
theorem ar_full (n i : Nat) (h : i < n) (h20 : 20 ≤ i) : (ar n i).write ((i : Int) % 2) [97] = (ar n (i + 1), 5) := by
  have ht : (i : Int) % 2 = 0 ∨ (i : Int) % 2 = 1 := by omega
  have hb := ar_begin n i h _ ht
  unfold RS.write RS.op
  rw [hb]
  simp only [ne_eq, not_true_eq_false, if_false]
  unfold RS.write1
  rw [if_pos (by simp [RS.free, ar]; omega)]
  simp only [ar, Prod.mk.injEq, RS.mk.injEq, and_true, true_and]
  refine ⟨?_, ?_, by omega, ?_⟩ <;> rw [show min i 20 = 20 from by omega, show min (i + 1) 20 = 20 from by omega]
theorem ar_seven (n i : Nat) : (ar n i).write 7 [120] = (ar n i, 2) := rfl
theorem ar_end (n : Nat) : (ar n n).write 0 [98] = (arDead n, 30) := by
  have h2 : (ar n n).dead = true ∨ (ar n n).left = 0 := by right; simp [ar]
  have hb : (ar n n).begin_ 0 = (arDead n, 30) := by
    unfold RS.begin_ RS.start
    rw [if_neg (by omega), if_pos h2]
    simp [arDead, ar]
  unfold RS.write RS.op
  rw [hb]
  rfl
theorem ar_dead (n : Nat) : (arDead n).write 0 [98] = (arDead n, 30) := rfl
theorem kept_all (l : List UInt8) (k : Int) (h : (l.length : Int) ≤ k) : RS.kept l k 0 = l := by
  have h1 : RS.keepn l k = l.length := by unfold RS.keepn; omega
  rw [RS.kept_eq, h1, List.take_length]
  split
  · rename_i h0; exact (List.eq_nil_of_length_eq_zero h0).symm
  · rename_i h0
    apply List.ext_getElem
    · simp
    · intro i h2 h3
      rw [List.getElem_set]
      split
      · rename_i h4; subst h4; simp [List.getD, List.getElem?_eq_getElem h3]
      · rfl
def arOver (n : Nat) : RS := { s0 := List.replicate ((min n 20 + 1) / 2) 97, r0 := [], s1 := List.replicate (min n 20 / 2) 97, r1 := [], room := 20, left := -1, dead := false, ops := ((min n 20 : Nat) : Int) }
theorem ar_crash (n : Nat) : (arDead n).crash 100 100 0 = arOver n := by
  have e1 : RS.kept (List.replicate ((min n 20 + 1) / 2) 97) 100 0 = List.replicate ((min n 20 + 1) / 2) 97 := kept_all _ _ (by simp; omega)
  have e2 : RS.kept (List.replicate (min n 20 / 2) 97) 100 0 = List.replicate (min n 20 / 2) 97 := kept_all _ _ (by simp; omega)
  simp [RS.crash, arDead, ar, arOver, e1, e2]
theorem ar_free (n : Nat) : (arOver n).free = 20 - ((min n 20 : Nat) : Int) := by
  simp [RS.free, arOver]
  omega

set_option maxHeartbeats 3200000 in
theorem armed_walk (n : Int) (hn : (Lit.int .i64 n).wf = true) (more : Int) (hm : (Lit.int .i64 more).wf = true) (w : World) :
    Calls Try.prog 4 #[.int .i64 n, .int .i64 more] w fun e w' => e = .returned (.bool true) ∧ Below w.heap.size w w' := by
  have hb := Below.refl w.heap.size w
  by_cases h1 : n < 0
  · go_enter Try.func4, Try.ntmps4
    go_wp2_with (go_at_call 9; refine (live_call w _ hb).mono ?_; rintro e w1 ⟨rfl, hl⟩)
    go_ret
    exact ⟨rfl, hl⟩
  by_cases h2 : 60 < n
  · go_enter Try.func4, Try.ntmps4
    go_wp2_with (go_at_call 9; refine (live_call w _ hb).mono ?_; rintro e w1 ⟨rfl, hl⟩)
    go_ret
    exact ⟨rfl, hl⟩
  by_cases h3 : more < 1
  · go_enter Try.func4, Try.ntmps4
    go_wp2_with (go_at_call 9; refine (live_call w _ hb).mono ?_; rintro e w1 ⟨rfl, hl⟩)
    go_ret
    exact ⟨rfl, hl⟩
  by_cases h4 : 60 < more
  · go_enter Try.func4, Try.ntmps4
    go_wp2_with (go_at_call 9; refine (live_call w _ hb).mono ?_; rintro e w1 ⟨rfl, hl⟩)
    go_ret
    exact ⟨rfl, hl⟩
  obtain ⟨N, rfl⟩ : ∃ N : Nat, n = N := ⟨n.toNat, by omega⟩
  obtain ⟨M, rfl⟩ : ∃ M : Nat, more = M := ⟨more.toNat, by omega⟩
  have hN : N ≤ 60 := by omega
  have hM0 : 1 ≤ M := by omega
  have hM : M ≤ 60 := by omega
  have q1 : ¬ (60 : Int) < N := by omega
  have q2 : ¬ (M : Int) < 1 := by omega
  have q3 : ¬ (60 : Int) < M := by omega
  clear h1 h2 h3 h4 hn hm
  go_enter Try.func4, Try.ntmps4
  go_wp2_with (first | (go_at_call 10; refine (Mine.new 20 w _ hb (by decide) (by decide)).mono ?_; rintro e w1 ⟨b, rfl, h0⟩) | (go_at_call 11; refine (num_any _ _).mono ?_; rintro e w' ⟨rfl, rfl⟩))
  refine (h0.arm N (ar N 0) (by simp [RS.arm, RS.new, ar]) (by omega) (by omega)).mono ?_
  rintro e w1 ⟨rfl, h1⟩
  clear h0
  go_wp2_with (fail)
  go_loopw [7, 8] (fun d i wr => ∃ k dd : Nat, k ≤ N ∧ dd = min k 20 ∧ i = .int .i64 k ∧ d = .int .i64 dd ∧ Mine w wr b (ar N k)) (fun _ i _ => N - (intOf i).toNat)
  case atStart => exact ⟨0, 0, by omega, rfl, rfl, rfl, h1⟩
  case round =>
    obtain ⟨k, dd, hk, hdd, rfl, rfl, h2⟩ := hrel
    by_cases hlt : k < N
    · by_cases h20 : k < 20
      · obtain rfl : dd = k := by omega
        have HH := hd (h2.write ((dd : Int) % 2) ⟨#[97]⟩ _ 0 (ar_ok N dd hlt h20) (by decide))
        clear hdd h2
        go_wp2_with (fail)
        refine HH.out.mono ?_
        rintro e w2 ⟨rfl, h5⟩
        clear HH
        go_wp2_with (go_at_call 11; refine (num_any _ _).mono ?_; rintro e w' ⟨rfl, rfl⟩)
        refine (h5.write 7 ⟨#[120]⟩ _ 2 (ar_seven N (dd + 1)) (by decide)).mono ?_
        rintro e w3 ⟨rfl, h6⟩
        clear h5
        go_wp2_with (go_at_call 11; refine (num_any _ _).mono ?_; rintro e w' ⟨rfl, rfl⟩)
        go_roundw
        case rel => exact ⟨dd + 1, dd + 1, by omega, by omega, by go_num, by go_num, h6⟩
        case measure => simp [intOf]; omega
      · obtain rfl : dd = 20 := by omega
        have HH := hd (h2.write ((k : Int) % 2) ⟨#[97]⟩ _ 5 (ar_full N k hlt (by omega)) (by decide))
        clear hdd h2
        go_wp2_with (fail)
        refine HH.out.mono ?_
        rintro e w2 ⟨rfl, h5⟩
        clear HH
        go_wp2_with (go_at_call 11; refine (num_any _ _).mono ?_; rintro e w' ⟨rfl, rfl⟩)
        refine (h5.write 7 ⟨#[120]⟩ _ 2 (ar_seven N (k + 1)) (by decide)).mono ?_
        rintro e w3 ⟨rfl, h6⟩
        clear h5
        go_wp2_with (go_at_call 11; refine (num_any _ _).mono ?_; rintro e w' ⟨rfl, rfl⟩)
        go_roundw
        case rel => exact ⟨k + 1, 20, by omega, by omega, by go_num, rfl, h6⟩
        case measure => simp [intOf]; omega
    · obtain rfl : k = N := by omega
      have HD := hd hdd
      clear hdd
      have hd20 : dd ≤ 20 := by have := HD.out; omega
      go_wp2_with (fail)
      go_loopw [10] (fun i wr2 => ∃ j : Nat, j ≤ M ∧ i = .int .i64 j ∧ ((j = 0 ∧ Mine w wr2 b (ar k k)) ∨ (0 < j ∧ Mine w wr2 b (arDead k)))) (fun i _ => M - (intOf i).toNat)
      case atStart => exact ⟨0, by omega, rfl, .inl ⟨rfl, h2⟩⟩
      case round =>
        obtain ⟨j, hj, rfl, h5⟩ := hrel
        by_cases hlt2 : j < M
        · have H6 : ∃ s, Mine w wr b s ∧ s.write 0 [98] = (arDead k, 30) := by
            rcases h5 with ⟨_, h5⟩ | ⟨_, h5⟩
            · exact ⟨_, h5, ar_end k⟩
            · exact ⟨_, h5, ar_dead k⟩
          obtain ⟨s, hs, he⟩ := H6
          have HH := hd (hs.write 0 ⟨#[98]⟩ _ 30 he (by decide))
          clear hs he h5 h2
          go_wp2_with (fail)
          refine HH.out.mono ?_
          rintro e w2 ⟨rfl, h6⟩
          clear HH
          go_wp2_with (go_at_call 11; refine (num_any _ _).mono ?_; rintro e w' ⟨rfl, rfl⟩)
          refine (h6.dead true rfl).mono ?_
          rintro e w3 ⟨rfl, rfl⟩
          go_wp2_with (go_at_call 11; refine (num_any _ _).mono ?_; rintro e w' ⟨rfl, rfl⟩)
          go_roundw
          case rel => exact ⟨j + 1, by omega, by go_num, .inr ⟨by omega, h6⟩⟩
          case measure => simp [intOf]; omega
        · obtain rfl : j = M := by omega
          have h6 : Mine w wr b (arDead k) := by
            rcases h5 with ⟨_, h5⟩ | ⟨_, h5⟩
            · omega
            · exact h5
          clear h5 h2
          go_wp2_with (fail)
          refine (h6.read 0 [] 30 rfl).mono ?_
          rintro e w3 ⟨rfl, h7⟩
          clear h6
          go_wp2_with (go_at_call 11; refine (num_any _ _).mono ?_; rintro e w' ⟨rfl, rfl⟩)
          refine (h7.crash 100 100 0 _ rfl _ (ar_crash k)).mono ?_
          rintro e w3 ⟨rfl, h8⟩
          clear h7
          go_wp2_with (go_at_call 11; refine (num_any _ _).mono ?_; rintro e w' ⟨rfl, rfl⟩)
          refine (h8.read 0 _ 0 rfl).mono ?_
          rintro e w3 ⟨rfl, h9⟩
          clear h8
          go_wp2_with (go_at_call 11; refine (num_any _ _).mono ?_; rintro e w' ⟨rfl, rfl⟩)
          refine (h9.dead false rfl).mono ?_
          rintro e w3 ⟨rfl, rfl⟩
          go_wp2_with (go_at_call 11; refine (num_any _ _).mono ?_; rintro e w' ⟨rfl, rfl⟩)
          refine (h9.ops dd (by rw [HD.out]; rfl)).mono ?_
          rintro e w3 ⟨rfl, rfl⟩
          go_wp2_with (go_at_call 11; refine (num_any _ _).mono ?_; rintro e w' ⟨rfl, rfl⟩)
          refine (h9.free (20 - dd) (by rw [ar_free, HD.out])).mono ?_
          rintro e w3 ⟨rfl, h10⟩
          go_wp2_with (go_at_call 11; refine (num_any _ _).mono ?_; rintro e w' ⟨rfl, rfl⟩)
          refine (live_call w _ h10.below).mono ?_
          rintro e w3 ⟨rfl, hl⟩
          go_wp2
          go_ret
          exact ⟨rfl, hl⟩
end Go.Proofs.Ytjmddbhbibmjdaa
