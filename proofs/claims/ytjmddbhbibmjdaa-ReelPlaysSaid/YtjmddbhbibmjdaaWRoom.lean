/-
  The walk of ReelRoom.
-/
import Derived.Test.YtjmddbhbibmjdaaDoes3
namespace Go.Proofs.Ytjmddbhbibmjdaa
set_option linter.unusedVariables false
set_option linter.unusedSimpArgs false
open Go.RowKit

def RS.t0 (s : RS) : List UInt8 := s.s0 ++ s.r0
def RS.t1 (s : RS) : List UInt8 := s.s1 ++ s.r1

theorem put_room (s : RS) (t : Int) (a b : List UInt8) : (s.put t a b).room = s.room ∧ (s.put t a b).dead = s.dead := by
  unfold RS.put; split <;> exact ⟨rfl, rfl⟩
theorem begin_room (s : RS) (t : Int) : (s.begin_ t).1.room = s.room := (s.begin_tapes t).2.2.2.2.1
theorem op_room (s : RS) (t : Int) (f : RS → RS × Int) (hf : ∀ s, (f s).1.room = s.room) : (s.op t f).1.room = s.room := by
  unfold RS.op
  split
  · exact begin_room s t
  · rw [hf, begin_room]
theorem write_room (s : RS) (t : Int) (q : List UInt8) : (s.write t q).1.room = s.room := op_room s t _ fun s => by
  unfold RS.write1; split
  · rfl
  · exact (put_room _ _ _ _).1
theorem does_room (s : RS) (a : Act) : (s.does a).1.room = s.room := by
  unfold RS.does
  split
  · exact write_room _ _ _
  split
  · exact op_room _ _ _ fun s => (put_room _ _ _ _).1
  split
  · exact op_room _ _ _ fun s => (put_room _ _ _ _).1
  split
  · unfold RS.trim
    split
    · rfl
    · refine op_room _ _ _ fun s => ?_
      unfold RS.trim1; split
      · rfl
      · exact (put_room _ _ _ _).1
  split
  · rfl
  split
  · rfl
  · rfl
/-- What a call that failed, and left the power on, leaves. -/
def Kept (s s' : RS) : Prop := s.dead = false ∧ s'.t0 = s.t0 ∧ s'.t1 = s.t1
theorem begin_kept (s : RS) (t : Int) (hd0 : (s.begin_ t).1.dead = false) : Kept s (s.begin_ t).1 := by
  obtain ⟨h0, h1, h2, h3, -, -⟩ := s.begin_tapes t
  refine ⟨?_, by simp only [RS.t0, h0, h1], by simp only [RS.t1, h2, h3]⟩
  unfold RS.begin_ at hd0
  split at hd0
  · exact hd0
  · unfold RS.start at hd0
    split at hd0
    · cases hd0
    · split at hd0 <;> exact hd0
theorem op_kept (s : RS) (t : Int) (f : RS → RS × Int) (hf : ∀ s, (f s).2 ≠ 0 → (f s).1 = s) (he : (s.op t f).2 ≠ 0) (hd0 : (s.op t f).1.dead = false) : Kept s (s.op t f).1 := by
  unfold RS.op at *
  split at he <;> rename_i h
  · rw [if_pos h] at hd0 ⊢
    exact begin_kept s t hd0
  · rw [if_neg h] at hd0 ⊢
    rw [hf _ he] at hd0 ⊢
    exact begin_kept s t hd0
theorem does_kept (s : RS) (a : Act) (he : (s.does a).2 ≠ 0) (hd0 : (s.does a).1.dead = false) : Kept s (s.does a).1 := by
  by_cases k0 : a.kind = 0
  · have e : s.does a = s.write a.t a.s.data.toList := by unfold RS.does; rw [if_pos k0]
    rw [e] at he hd0 ⊢
    refine op_kept s _ _ (fun s => ?_) he hd0
    unfold RS.write1
    split
    · intro _; rfl
    · intro h; exact absurd rfl h
  by_cases k1 : a.kind = 1
  · have e : s.does a = s.sync a.t := by unfold RS.does; rw [if_neg k0, if_pos k1]
    rw [e] at he hd0 ⊢
    exact op_kept s _ _ (fun s (h : (0 : Int) ≠ 0) => absurd rfl h) he hd0
  by_cases k2 : a.kind = 2
  · have e : s.does a = s.wipe a.t := by unfold RS.does; rw [if_neg k0, if_neg k1, if_pos k2]
    rw [e] at he hd0 ⊢
    exact op_kept s _ _ (fun s (h : (0 : Int) ≠ 0) => absurd rfl h) he hd0
  by_cases k3 : a.kind = 3
  · have e : s.does a = s.trim a.t a.n := by unfold RS.does; rw [if_neg k0, if_neg k1, if_neg k2, if_pos k3]
    rw [e] at he hd0 ⊢
    unfold RS.trim at he hd0 ⊢
    by_cases hn : a.n < 0
    · rw [if_pos hn] at hd0 ⊢
      exact ⟨hd0, rfl, rfl⟩
    · rw [if_neg hn] at he hd0 ⊢
      refine op_kept s _ _ (fun s => ?_) he hd0
      unfold RS.trim1
      split
      · intro _; rfl
      · intro h; exact absurd rfl h
  · exfalso
    apply he
    unfold RS.does
    rw [if_neg k0, if_neg k1, if_neg k2, if_neg k3]
    split
    · rfl
    · split <;> rfl
theorem free_room (s : RS) : s.free + s.t0.length + s.t1.length = s.room := by
  simp only [RS.free, RS.t0, RS.t1, List.length_append]; omega

set_option maxHeartbeats 3200000 in
set_option maxRecDepth 100000 in
theorem room_core (room : Int) (A : Option Addr) (l : List Act) (cap : Nat) (w : World) (hA : ActsAt w A l) (hlen : l.length ≤ 140737488351232) :
    Calls Try.prog 8 #[.int .i64 room, .slice A l.length cap] w fun e w' => e = .returned (.bool true) ∧ Below w.heap.size w w' := by
  have hb := Below.refl w.heap.size w
  have HA := hd hA
  have HS := hd (small_any A l cap w hA hlen)
  clear hA
  by_cases hr : room < 0 ∨ 4194304 < room
  · rcases hr with hr | hr
    all_goals
      go_enter Try.func8, Try.ntmps8
      go_wp2_with (first | (go_at_call 20; refine HS.out.mono ?_; rintro e w1 ⟨bb, rfl, hp, rfl⟩; clear hp) | (go_at_call 9; refine (live_call w _ hb).mono ?_; rintro e w1 ⟨rfl, hl⟩))
      all_goals
        go_ret
        exact ⟨rfl, hl⟩
  have r0 : 0 ≤ room := by omega
  have r1 : room ≤ 4194304 := by omega
  clear hr
  go_enter Try.func8, Try.ntmps8
  go_wp2_with (fail)
  refine HS.out.mono ?_
  rintro e w1 ⟨bb, rfl, hp, rfl⟩
  cases bb with
  | false =>
    clear hp
    go_wp2_with (go_at_call 9; refine (live_call w _ hb).mono ?_; rintro e w1 ⟨rfl, hl⟩)
    go_ret
    exact ⟨rfl, hl⟩
  | true =>
    obtain ⟨h60, hsz⟩ := hp rfl
    have HZ := hd hsz
    clear hp hsz
    go_wp2_with (first | (go_at_call 10; refine (Mine.new room w _ hb r0 r1).mono ?_; rintro e w1 ⟨rb, rfl, h0⟩) | (go_at_call 11; refine (num_any _ _).mono ?_; rintro e w' ⟨rfl, rfl⟩))
    go_loopw [7, 8, 9] (fun x y i wr => ∃ (k : Nat) (la lb : List UInt8) (s : RS), k ≤ l.length ∧ i = .int .i64 k ∧ x = .string (str la) ∧ y = .string (str lb) ∧ Mine w wr rb s ∧ s.room = room ∧ (s.dead = false → la = s.t0 ∧ lb = s.t1)) (fun _ _ i _ => l.length - (intOf i).toNat)
    case atStart => exact ⟨0, [], [], _, by omega, rfl, rfl, rfl, h0, rfl, fun _ => ⟨rfl, rfl⟩⟩
    case round =>
      obtain ⟨k, la, lb, s, hk, rfl, rfl, rfl, hM, hroom, htape⟩ := hrel
      by_cases hlt : k < l.length
      · obtain ⟨p, off, rfl⟩ := HA.out.addr (by intro h; rw [h] at hlt; simp at hlt)
        obtain ⟨a, ha⟩ : ∃ a, l[k]? = some a := ⟨_, List.getElem?_eq_getElem hlt⟩
        have HC := (HA.out.below hM.below).cell p off k
        have c0 := HC 0 a _ rfl ha rfl
        have c1 := HC 1 a _ rfl ha rfl
        have c2 := HC 2 a _ rfl ha rfl
        have c3 := HC 3 a _ rfl ha rfl
        have c4 := HC 4 a _ rfl ha rfl
        have c5 := HC 5 a _ rfl ha rfl
        have c6 := HC 6 a _ rfl ha rfl
        simp only [← Nat.add_assoc, Nat.add_zero] at c0 c1 c2 c3 c4 c5 c6
        have HOk := hd (HA.out.ok a (List.mem_of_getElem? ha))
        have HSz := hd (HZ.out a (List.mem_of_getElem? ha))
        have HM := hd hM
        have HT := hd htape
        have HRm := hd hroom
        clear HC ha hM htape hroom h0
        go_wp2_with (fail)
        obtain ⟨hbw, fp, hR, hf⟩ := HM.out
        refine (does_any rb a s fp _ hR HOk.out HSz.out).mono ?_
        rintro e w1 ⟨rfl, hp⟩
        have hM := Mine.next hbw hf hp
        have HK := hd (does_kept s a)
        have hrm : (s.does a).1.room = room := by rw [does_room, HRm.out]
        have HR2 := hd hrm
        clear hp hR hf hbw fp HM hrm HRm
        generalize hs' : (s.does a).1 = s' at *
        generalize hf' : (s.does a).2 = f at *
        clear hs' hf' c0 c1 c2 c3 c4 c5 c6 HOk HSz
        cases hdd : s'.dead with
        | true =>
          have HD := hd hdd
          clear hdd
          go_wp2_with (first | (go_at_call 11; refine (num_any _ _).mono ?_; rintro e w' ⟨rfl, rfl⟩) | (go_at_call 17; refine (hM.dead true HD.out).mono ?_; rintro e w2 ⟨rfl, rfl⟩))
          go_roundw
          case rel => exact ⟨k + 1, la, lb, s', by omega, by go_num, rfl, rfl, hM, HR2.out, fun h => by rw [HD.out] at h; cases h⟩
          case measure => simp [intOf]; omega
        | false =>
          have HD := hd hdd
          have rd0 : Hd (s'.read 0 = (s'.t0, 0)) := hd (by unfold RS.read; rw [if_neg (by omega), if_neg (by simp [hdd])]; rfl)
          have rd1 : Hd (s'.read 1 = (s'.t1, 0)) := hd (by unfold RS.read; rw [if_neg (by omega), if_neg (by simp [hdd])]; rfl)
          have hfr := hM.ok.free
          have hsum : s'.free + ((str s'.t0).size : Int) + ((str s'.t1).size : Int) = room := by rw [str_size, str_size, free_room, HR2.out]
          have hz0 : (str s'.t0).size ≤ 4194304 := by omega
          have hz1 : (str s'.t1).size ≤ 4194304 := by omega
          clear hdd
          by_cases hf0 : f = 0
          · have hff : (f != 0) = false := by simp [hf0]
            clear hf0
            go_wp2_with (first | (go_at_call 11; refine (num_any _ _).mono ?_; rintro e w' ⟨rfl, rfl⟩) | (go_at_call 17; refine (hM.dead false HD.out).mono ?_; rintro e w2 ⟨rfl, rfl⟩))
            refine (hM.read 0 _ 0 rd0.out).mono ?_
            rintro e w2 ⟨rfl, hM2⟩
            clear hM
            go_wp2_with (go_at_call 11; refine (num_any _ _).mono ?_; rintro e w' ⟨rfl, rfl⟩)
            refine (hM2.read 1 _ 0 rd1.out).mono ?_
            rintro e w3 ⟨rfl, hM3⟩
            clear hM2
            go_wp2_with (go_at_call 11; refine (num_any _ _).mono ?_; rintro e w' ⟨rfl, rfl⟩)
            refine (hM3.free _ rfl).mono ?_
            rintro e w4 ⟨rfl, hM4⟩
            clear hM3
            go_wp2_with (go_at_call 11; refine (num_any _ _).mono ?_; rintro e w' ⟨rfl, rfl⟩)
            go_roundw
            case rel => exact ⟨k + 1, s'.t0, s'.t1, s', by omega, by go_num, rfl, rfl, hM4, HR2.out, fun _ => ⟨rfl, rfl⟩⟩
            case measure => simp [intOf]; omega
          · obtain ⟨q0, q1, q2⟩ := HK.out hf0 HD.out
            obtain ⟨q3, q4⟩ := HT.out q0
            obtain rfl : la = s'.t0 := by rw [q1, q3]
            obtain rfl : lb = s'.t1 := by rw [q2, q4]
            have hff : (f != 0) = true := by simp [hf0]
            clear hf0 q0 q1 q2 q3 q4 HT HK
            go_wp2_with (first | (go_at_call 11; refine (num_any _ _).mono ?_; rintro e w' ⟨rfl, rfl⟩) | (go_at_call 17; refine (hM.dead false HD.out).mono ?_; rintro e w2 ⟨rfl, rfl⟩))
            refine (hM.read 0 _ 0 rd0.out).mono ?_
            rintro e w2 ⟨rfl, hM2⟩
            clear hM
            go_wp2_with (go_at_call 11; refine (num_any _ _).mono ?_; rintro e w' ⟨rfl, rfl⟩)
            refine (hM2.read 1 _ 0 rd1.out).mono ?_
            rintro e w3 ⟨rfl, hM3⟩
            clear hM2
            go_wp2_with (go_at_call 11; refine (num_any _ _).mono ?_; rintro e w' ⟨rfl, rfl⟩)
            refine (hM3.free _ rfl).mono ?_
            rintro e w4 ⟨rfl, hM4⟩
            clear hM3
            go_wp2_with (go_at_call 11; refine (num_any _ _).mono ?_; rintro e w' ⟨rfl, rfl⟩)
            go_roundw
            case rel => exact ⟨k + 1, s'.t0, s'.t1, s', by omega, by go_num, rfl, rfl, hM4, HR2.out, fun _ => ⟨rfl, rfl⟩⟩
            case measure => simp [intOf]; omega
      · obtain rfl : k = l.length := by omega
        clear h0 hroom htape
        go_wp2_with (fail)
        refine (live_call w _ hM.below).mono ?_
        rintro e w1 ⟨rfl, hl⟩
        go_wp2
        go_ret
        exact ⟨rfl, hl⟩
theorem room_walk {H : Type} {enc : TypeId × Value → H} (w : World) (room : Int) (hw : (Lit.int .i64 room).wf = true) (v : Value) (hv : ∃ A n c, v = .slice A n c) {d : DataW H} {p : List MemPlace}
    (h : DataW.Trod enc Try.prog w 0 (fun _ => true) true 41 v d p) (hl : Light Try.prog 41 d) :
    Calls Try.prog 8 #[.int .i64 room, v] w fun e w' => e = .returned (.bool true) ∧ Below w.heap.size w w' := by
  obtain ⟨A, l, c, rfl, hlen, hA⟩ := open_acts hv h hl
  exact room_core room A l c w hA hlen
end Go.Proofs.Ytjmddbhbibmjdaa
