/-
  The reference's New, Read, Write, Sync, Wipe.
-/
import Derived.Test.YtjmddbhbibmjdaaRef1
namespace Go.Proofs.Ytjmddbhbibmjdaa
set_option linter.unusedVariables false
set_option linter.unusedSimpArgs false
open Go.RowKit

def RNewPost (w : World) (room : Int) (e : Ending) (w' : World) : Prop := ∃ b gs gf, e = .returned (.pointer (some ⟨b, 0, none⟩)) ∧ FRaw w' b gs gf (RS.new room).toF ∧ Chg (fun _ => False) w w' ∧ ∀ k ∈ FFoot b gs gf, w.heap.size ≤ k
set_option maxHeartbeats 800000 in
theorem rnew_any (room : Int) (w : World) : Calls Try.prog 21 #[.int .i64 room] w (RNewPost w room) := by
  go_enter Try.func21, Try.ntmps21
  go_wp2
  go_ret
  refine ⟨w.heap.size + 1 + 1, w.heap.size, w.heap.size + 1, rfl, ⟨?_, ?_, ?_, by omega, by omega, by omega⟩, (((Chg.refl _ w).alloc _).alloc _).alloc _, ?_⟩
  · have := Blk.new ((w.alloc (.cells #[.string ⟨#[]⟩, .string ⟨#[]⟩] 9)).alloc (.cells #[.int .i64 0, .int .i64 0] 3)) [.slice (some ⟨w.heap.size, 0, none⟩) 2 2, .slice (some ⟨w.heap.size + 1, 0, none⟩) 2 2, .int .i64 room, .int .i64 (-1), .bool false, .int .i64 0] 52
    simp only [World.size_alloc] at this
    exact this
  · exact ((Blk.new w [.string ⟨#[]⟩, .string ⟨#[]⟩] 9).alloc _).alloc _
  · have := Blk.new (w.alloc (.cells #[.string ⟨#[]⟩, .string ⟨#[]⟩] 9)) [.int .i64 0, .int .i64 0] 3
    have h2 := this.alloc (.cells #[.slice (some ⟨w.heap.size, 0, none⟩) 2 2, .slice (some ⟨w.heap.size + 1, 0, none⟩) 2 2, .int .i64 room, .int .i64 (-1), .bool false, .int .i64 0] 52)
    simp only [World.size_alloc] at h2
    exact h2
  · intro k hk
    simp [FFoot] at hk
    omega

set_option maxHeartbeats 800000 in
theorem rread_any (b gs gf : Nat) (t : Int) (s : RS) (w : World) (hR : FRaw w b gs gf s.toF) :
    Calls Try.prog 25 #[.pointer (some ⟨b, 0, none⟩), .int .i64 t] w fun e w' => e = .returned (.tuple #[.string (str (s.read t).1), .int .i64 (s.read t).2]) ∧ w = w' := by
  obtain ⟨c0, -, -, -, c4, -, cs0, cs1, -⟩ := hR.cells
  simp only [RS.toF] at c4 cs0 cs1
  clear hR
  by_cases ht : t < 0 ∨ 2 ≤ t
  · have E : Hd (s.read t = ([], 2)) := hd (if_pos ht)
    have t0 : (t != 0) = true := by simp; omega
    have t1 : (t != 1) = true := by simp; omega
    rw [E.out]
    clear ht
    go_enter Try.func25, Try.ntmps25
    go_wp2
    go_ret2
    exact ⟨rfl, rfl⟩
  cases hdd : s.dead with
  | true =>
    have e : s.read t = ([], 30) := by unfold RS.read; rw [if_neg ht, if_pos hdd]
    rw [e]
    rw [hdd] at c4
    clear e hdd
    rcases (show t = 0 ∨ t = 1 from by omega) with rfl | rfl
    all_goals
      clear ht
      go_enter Try.func25, Try.ntmps25
      go_wp2
      go_ret2
      exact ⟨rfl, rfl⟩
  | false =>
    have e : s.read t = (s.safe t ++ s.rest t, 0) := by unfold RS.read; rw [if_neg ht, if_neg (by simp [hdd])]
    rw [e]
    rw [hdd] at c4
    clear e hdd
    rcases (show t = 0 ∨ t = 1 from by omega) with rfl | rfl
    all_goals
      clear ht
      go_enter Try.func25, Try.ntmps25
      go_wp2
      go_ret2
      exact ⟨rfl, rfl⟩

theorem toF_put0 (s : RS) (a b : List UInt8) : (s.put 0 a b).toF = { s.toF with S0 := a ++ b, n0 := a.length } := rfl
theorem toF_put1 (s : RS) (a b : List UInt8) : (s.put 1 a b).toF = { s.toF with S1 := a ++ b, n1 := a.length } := rfl

set_option maxHeartbeats 800000 in
theorem rwrite0 (b gs gf : Nat) (s s1 : RS) (w : World) (q : ByteArray) (hR : FRaw w b gs gf s.toF) (hok : s.Ok) (hq : (q.size : Int) ≤ 4194304) (he : s.begin_ 0 = (s1, 0)) :
    Calls Try.prog 30 #[.pointer (some ⟨b, 0, none⟩), .int .i64 0, .string q] w fun e w' => e = .returned (.int .i64 (s1.write1 0 q.data.toList).2) ∧ FPost w b gs gf (s1.write1 0 q.data.toList).1.toF w' := by
  have hB := rbegin_any b gs gf 0 s w hR hok
  have hok1 := hok.begin_ 0
  rw [he] at hB hok1
  have HB := hd hB
  have HO := hd hok1
  clear hB hR hok he hok1
  by_cases hf : s1.free < q.data.toList.length
  · have HW : Hd (s1.write1 0 q.data.toList = (s1, 5)) := hd (if_pos hf)
    have hf' : s1.free < (q.size : Int) := by simpa using hf
    rw [HW.out]
    clear hf
    go_enter Try.func30, Try.ntmps30
    go_wp2_with (go_at_call 35; refine HB.out.mono ?_; rintro e w1 ⟨rfl, hp⟩)
    go_wp2_with (go_at_call 24; refine (rfree_any b gs gf s1 _ hp.raw HO.out).mono ?_; rintro e w2 ⟨rfl, n, rfl⟩)
    go_ret
    exact ⟨rfl, hp.drewN n⟩
  · have HW : Hd (s1.write1 0 q.data.toList = (s1.tick.put 0 (s1.safe 0) (s1.rest 0 ++ q.data.toList), 0)) := hd (if_neg hf)
    have hf' : ¬ s1.free < (q.size : Int) := by simpa using hf
    rw [HW.out]
    clear hf
    go_enter Try.func30, Try.ntmps30
    go_wp2_with (go_at_call 35; refine HB.out.mono ?_; rintro e w1 ⟨rfl, hp⟩)
    have HP := hd hp
    obtain ⟨c0, c1, c2, c3, c4, c5, cs0, cs1, cf0, cf1⟩ := hp.raw.cells
    have f5 := hp.raw.blk.frozen 5
    have fs0 := hp.raw.strs.frozen 0
    have fs1 := hp.raw.strs.frozen 1
    have d1 := hp.raw.d1
    have z0 : (str s1.t0).size ≤ 4194304 := by rw [str_size]; have := HO.out.small; have h2 := HO.out.used; have h3 := HO.out.room1; simp only [RS.used] at h2; simp only [RS.t0, List.length_append]; omega
    have z1 : (str s1.t1).size ≤ 4194304 := by rw [str_size]; have := HO.out.small; have h2 := HO.out.used; have h3 := HO.out.room1; simp only [RS.used] at h2; simp only [RS.t1, List.length_append]; omega
    simp only [RS.toF] at c2 c3 c4 c5 cs0 cs1 cf0 cf1
    have HE : Hd (str s1.t0 ++ q = str ((s1.tick.put 0 (s1.safe 0) (s1.rest 0 ++ q.data.toList)).toF.S0)) := hd (by
      rw [toF_put0]
      show _ = str (s1.safe 0 ++ (s1.rest 0 ++ q.data.toList))
      rw [← List.append_assoc, ← str_cat, str_toList]
      rfl)
    have HR := hd (rfree_any b gs gf s1 w1 hp.raw HO.out)
    clear hp
    go_wp2_with (go_at_call 24; refine HR.out.mono ?_; rintro e w2 ⟨rfl, n, rfl⟩)
    go_region
    rw [HE.out]
    generalize hx : (s1.tick.put 0 (s1.safe 0) (s1.rest 0 ++ q.data.toList)).toF = x at *
    have HX := hd ((((HP.out.drewN (n + 1)).setS (x' := { x with ops := s1.ops }) 0 (.string (str x.S0)) (by rw [← hx]; rfl) (by rw [← hx]; rfl) (by rw [← hx]; rfl)).setB (x' := x) 5 (.int .i64 (wrap64 (s1.ops + 1))) (by rw [← hx]; rfl) rfl rfl))
    have HXE := hd hx
    clear hx HP HE HR
    go_wp2
    go_ret
    exact ⟨rfl, by rw [HXE.out]; exact HX.out⟩
set_option maxHeartbeats 800000 in
theorem rwrite1 (b gs gf : Nat) (s s1 : RS) (w : World) (q : ByteArray) (hR : FRaw w b gs gf s.toF) (hok : s.Ok) (hq : (q.size : Int) ≤ 4194304) (he : s.begin_ 1 = (s1, 0)) :
    Calls Try.prog 30 #[.pointer (some ⟨b, 0, none⟩), .int .i64 1, .string q] w fun e w' => e = .returned (.int .i64 (s1.write1 1 q.data.toList).2) ∧ FPost w b gs gf (s1.write1 1 q.data.toList).1.toF w' := by
  have hB := rbegin_any b gs gf 1 s w hR hok
  have hok1 := hok.begin_ 1
  rw [he] at hB hok1
  have HB := hd hB
  have HO := hd hok1
  clear hB hR hok he hok1
  by_cases hf : s1.free < q.data.toList.length
  · have HW : Hd (s1.write1 1 q.data.toList = (s1, 5)) := hd (if_pos hf)
    have hf' : s1.free < (q.size : Int) := by simpa using hf
    rw [HW.out]
    clear hf
    go_enter Try.func30, Try.ntmps30
    go_wp2_with (go_at_call 35; refine HB.out.mono ?_; rintro e w1 ⟨rfl, hp⟩)
    go_wp2_with (go_at_call 24; refine (rfree_any b gs gf s1 _ hp.raw HO.out).mono ?_; rintro e w2 ⟨rfl, n, rfl⟩)
    go_ret
    exact ⟨rfl, hp.drewN n⟩
  · have HW : Hd (s1.write1 1 q.data.toList = (s1.tick.put 1 (s1.safe 1) (s1.rest 1 ++ q.data.toList), 0)) := hd (if_neg hf)
    have hf' : ¬ s1.free < (q.size : Int) := by simpa using hf
    rw [HW.out]
    clear hf
    go_enter Try.func30, Try.ntmps30
    go_wp2_with (go_at_call 35; refine HB.out.mono ?_; rintro e w1 ⟨rfl, hp⟩)
    have HP := hd hp
    obtain ⟨c0, c1, c2, c3, c4, c5, cs0, cs1, cf0, cf1⟩ := hp.raw.cells
    have f5 := hp.raw.blk.frozen 5
    have fs0 := hp.raw.strs.frozen 0
    have fs1 := hp.raw.strs.frozen 1
    have d1 := hp.raw.d1
    have z0 : (str s1.t0).size ≤ 4194304 := by rw [str_size]; have := HO.out.small; have h2 := HO.out.used; have h3 := HO.out.room1; simp only [RS.used] at h2; simp only [RS.t0, List.length_append]; omega
    have z1 : (str s1.t1).size ≤ 4194304 := by rw [str_size]; have := HO.out.small; have h2 := HO.out.used; have h3 := HO.out.room1; simp only [RS.used] at h2; simp only [RS.t1, List.length_append]; omega
    simp only [RS.toF] at c2 c3 c4 c5 cs0 cs1 cf0 cf1
    have HE : Hd (str s1.t1 ++ q = str ((s1.tick.put 1 (s1.safe 1) (s1.rest 1 ++ q.data.toList)).toF.S1)) := hd (by
      rw [toF_put1]
      show _ = str (s1.safe 1 ++ (s1.rest 1 ++ q.data.toList))
      rw [← List.append_assoc, ← str_cat, str_toList]
      rfl)
    have HR := hd (rfree_any b gs gf s1 w1 hp.raw HO.out)
    clear hp
    go_wp2_with (go_at_call 24; refine HR.out.mono ?_; rintro e w2 ⟨rfl, n, rfl⟩)
    go_region
    rw [HE.out]
    generalize hx : (s1.tick.put 1 (s1.safe 1) (s1.rest 1 ++ q.data.toList)).toF = x at *
    have HX := hd ((((HP.out.drewN (n + 1)).setS (x' := { x with ops := s1.ops }) 1 (.string (str x.S1)) (by rw [← hx]; rfl) (by rw [← hx]; rfl) (by rw [← hx]; rfl)).setB (x' := x) 5 (.int .i64 (wrap64 (s1.ops + 1))) (by rw [← hx]; rfl) rfl rfl))
    have HXE := hd hx
    clear hx HP HE HR
    go_wp2
    go_ret
    exact ⟨rfl, by rw [HXE.out]; exact HX.out⟩
end Go.Proofs.Ytjmddbhbibmjdaa
