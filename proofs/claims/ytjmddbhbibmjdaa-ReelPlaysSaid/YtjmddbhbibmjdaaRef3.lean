/-
  The reference's Sync, Wipe, Trim.
-/
import Derived.Test.YtjmddbhbibmjdaaRef2
namespace Go.Proofs.Ytjmddbhbibmjdaa
set_option linter.unusedVariables false
set_option linter.unusedSimpArgs false
open Go.RowKit

theorem RS.Ok.tot {s : RS} (h : s.Ok) : (str s.t0).size ≤ 4194304 ∧ (str s.t1).size ≤ 4194304 ∧ s.t0.length ≤ 4194304 ∧ s.t1.length ≤ 4194304 := by
  obtain ⟨h1, h2, h3, h4, h5⟩ := h
  rw [str_size, str_size]
  simp only [RS.used] at h3
  simp only [RS.t0, RS.t1, List.length_append]
  omega

theorem str_cut (l : List UInt8) (n : Nat) : (str l).extract 0 n = str (l.take n) := by
  have h : ((str l).extract 0 n).data.toList = l.take n := by simp [str]
  rw [← h, str_toList]
theorem sync_toF0 (s1 : RS) : (s1.sync1 0).1.toF = { s1.toF with n0 := s1.t0.length, ops := wrap64 (s1.ops + 1) } := by
  show (s1.tick.put 0 _ _).toF = _
  rw [toF_put0, List.append_nil]
  rfl
set_option maxHeartbeats 800000 in
theorem rsync0 (b gs gf : Nat) (s s1 : RS) (w : World) (hR : FRaw w b gs gf s.toF) (hok : s.Ok) (he : s.begin_ 0 = (s1, 0)) :
    Calls Try.prog 31 #[.pointer (some ⟨b, 0, none⟩), .int .i64 0] w fun e w' => e = .returned (.int .i64 0) ∧ FPost w b gs gf (s1.sync1 0).1.toF w' := by
  have hB := rbegin_any b gs gf 0 s w hR hok
  have hok1 := hok.begin_ 0
  rw [he] at hB hok1
  have HB := hd hB
  have HO := hd hok1
  clear hB hR hok he hok1
  go_enter Try.func31, Try.ntmps31
  go_wp2_with (go_at_call 35; refine HB.out.mono ?_; rintro e w1 ⟨rfl, hp⟩)
  have HP := hd hp
  obtain ⟨c0, c1, c2, c3, c4, c5, cs0, cs1, cf0, cf1⟩ := hp.raw.cells
  have f5 := hp.raw.blk.frozen 5
  have fs := hp.raw.nums.frozen 0
  have d1 := hp.raw.d2
  have HZ := hd (str_size s1.t0)
  simp only [RS.toF] at c2 c3 c4 c5 cs0 cs1 cf0 cf1
  clear hp
  go_region
  rw [HZ.out]
  have HX := hd ((HP.out.drew.setF (x' := { s1.toF with n0 := s1.t0.length }) 0 (.int .i64 (s1.t0.length : Int)) rfl rfl rfl).setB (x' := { s1.toF with n0 := s1.t0.length, ops := wrap64 (s1.ops + 1) }) 5 (.int .i64 (wrap64 (s1.ops + 1))) rfl rfl rfl)
  clear HP HZ
  go_wp2
  go_ret
  exact ⟨rfl, by rw [sync_toF0]; exact HX.out⟩

set_option maxHeartbeats 800000 in
theorem rwipe0 (b gs gf : Nat) (s s1 : RS) (w : World) (hR : FRaw w b gs gf s.toF) (hok : s.Ok) (he : s.begin_ 0 = (s1, 0)) :
    Calls Try.prog 32 #[.pointer (some ⟨b, 0, none⟩), .int .i64 0] w fun e w' => e = .returned (.int .i64 0) ∧ FPost w b gs gf (s1.wipe1 0).1.toF w' := by
  have hB := rbegin_any b gs gf 0 s w hR hok
  rw [he] at hB
  have HB := hd hB
  clear hB hR hok he
  go_enter Try.func32, Try.ntmps32
  go_wp2_with (go_at_call 35; refine HB.out.mono ?_; rintro e w1 ⟨rfl, hp⟩)
  have HP := hd hp
  obtain ⟨c0, c1, c2, c3, c4, c5, cs0, cs1, cf0, cf1⟩ := hp.raw.cells
  have f5 := hp.raw.blk.frozen 5
  have ff := hp.raw.nums.frozen 0
  have fs := hp.raw.strs.frozen 0
  have d1 := hp.raw.d1
  have d2 := hp.raw.d2
  have d3 := hp.raw.d3
  simp only [RS.toF] at c2 c3 c4 c5 cs0 cs1 cf0 cf1
  clear hp
  go_region
  all_goals
    have HX := hd (((HP.out.drew.setS (x' := { s1.toF with S0 := [] }) 0 (.string ⟨#[]⟩) rfl rfl rfl).setF (x' := { s1.toF with S0 := [], n0 := 0 }) 0 (.int .i64 0) rfl rfl rfl).setB (x' := (s1.wipe1 0).1.toF) 5 (.int .i64 (wrap64 (s1.ops + 1))) rfl rfl rfl)
    clear HP
    try rw [setCell_swap _ ⟨gf, 0, none⟩ ⟨gs, 0, none⟩ _ _ (.inl (fun q => d3 q.symm))]
    go_wp2
    go_ret
    exact ⟨rfl, HX.out⟩

theorem trim_toF0 (s1 : RS) (n : Int) (h1 : n ≤ (s1.safe 0).length + (s1.rest 0).length) : (s1.trim1 0 n).1.toF = { s1.toF with S0 := s1.t0.take n.toNat, n0 := (min (s1.safe 0).length n.toNat : Nat), ops := wrap64 (s1.ops + 1) } := by
  rw [trim1_of h1]
  show (s1.tick.put 0 _ _).toF = _
  rw [toF_put0]
  simp only [RS.toF, RS.tick, RS.t0, RS.t1, RS.safe, RS.rest, List.take_append, List.length_take, if_true, show ¬ ((1 : Int) = 0) from by decide, if_false, FS.mk.injEq, and_true, true_and, Nat.min_comm]
set_option maxHeartbeats 1600000 in
theorem rtrim0 (b gs gf : Nat) (n : Int) (s s1 : RS) (w : World) (hR : FRaw w b gs gf s.toF) (hok : s.Ok) (he : s.begin_ 0 = (s1, 0)) (h0 : 0 ≤ n) :
    Calls Try.prog 33 #[.pointer (some ⟨b, 0, none⟩), .int .i64 0, .int .i64 n] w fun e w' => e = .returned (.int .i64 (s1.trim1 0 n).2) ∧ FPost w b gs gf (s1.trim1 0 n).1.toF w' := by
  have hB := rbegin_any b gs gf 0 s w hR hok
  have hok1 := hok.begin_ 0
  rw [he] at hB hok1
  have HB := hd hB
  have HO := hd hok1
  have hlen : (s1.t0.length : Int) = (s1.safe 0).length + (s1.rest 0).length := by simp [RS.t0, RS.t1, RS.safe, RS.rest]
  have hz : (str s1.t0).size = s1.t0.length := str_size _
  clear hB hR hok he hok1
  by_cases h1 : n ≤ (s1.safe 0).length + (s1.rest 0).length
  · have HE := hd (trim_toF0 s1 n h1)
    have HR : Hd ((s1.trim1 0 n).2 = 0) := hd (by rw [trim1_of h1])
    rw [HR.out]
    have h2 : n ≤ ((str s1.t0).size : Int) := by omega
    have HL := hd h1
    clear h1 hlen hz HR
    go_enter Try.func33, Try.ntmps33
    go_wp2_with (go_at_call 35; refine HB.out.mono ?_; rintro e w1 ⟨rfl, hp⟩; have HP := hd hp; obtain ⟨c0, c1, c2, c3, c4, c5, cs0, cs1, cf0, cf1⟩ := hp.raw.cells; have f5 := hp.raw.blk.frozen 5; have ff := hp.raw.nums.frozen 0; have fs := hp.raw.strs.frozen 0; have d1 := hp.raw.d1; have d2 := hp.raw.d2; have d3 := hp.raw.d3; simp only [RS.toF] at c2 c3 c4 c5 cs0 cs1 cf0 cf1; clear hp)
    have hcut : (str s1.t0).extract 0 n.toNat = str (s1.t0.take n.toNat) := str_cut _ _
    by_cases hlt : n < ((s1.safe 0).length : Int)
    · have HN : Hd ((min (s1.safe 0).length n.toNat : Nat) = n.toNat) := hd (by omega)
      have hlt' : n < (s1.s0.length : Int) := hlt
      have HN2 : Hd ((n.toNat : Int) = n) := hd (by omega)
      clear hlt
      go_region
      go_wp2
      go_region
      have HX := hd ((((HP.out.drew.drew.setS (x' := { s1.toF with S0 := s1.t0.take n.toNat }) 0 (.string (str (s1.t0.take n.toNat))) rfl rfl rfl).setF (x' := { s1.toF with S0 := s1.t0.take n.toNat, n0 := n }) 0 (.int .i64 n) rfl rfl rfl)).setB (x' := { s1.toF with S0 := s1.t0.take n.toNat, n0 := n, ops := wrap64 (s1.ops + 1) }) 5 (.int .i64 (wrap64 (s1.ops + 1))) rfl rfl rfl)
      clear HP hcut
      go_wp2
      go_ret
      exact ⟨rfl, by rw [HE.out, HN.out, HN2.out]; exact HX.out⟩
    · have HN : Hd ((min (s1.safe 0).length n.toNat : Nat) = s1.s0.length) := hd (by show (min s1.s0.length n.toNat : Nat) = s1.s0.length; have : ¬ n < (s1.s0.length : Int) := hlt; omega)
      have hlt' : ¬ n < (s1.s0.length : Int) := hlt
      clear hlt
      go_region
      go_wp2
      go_region
      have HX := hd ((((HP.out.drew.drew.setS (x' := { s1.toF with S0 := s1.t0.take n.toNat }) 0 (.string (str (s1.t0.take n.toNat))) rfl rfl rfl).setF (x' := { s1.toF with S0 := s1.t0.take n.toNat }) 0 (.int .i64 s1.s0.length) rfl rfl rfl)).setB (x' := { s1.toF with S0 := s1.t0.take n.toNat, ops := wrap64 (s1.ops + 1) }) 5 (.int .i64 (wrap64 (s1.ops + 1))) rfl rfl rfl)
      clear HP hcut
      go_wp2
      go_ret
      exact ⟨rfl, by rw [HE.out, HN.out]; exact HX.out⟩
  · have HE : Hd (s1.trim1 0 n = (s1, 2)) := hd (if_pos (by omega))
    rw [HE.out]
    have h2 : ((str s1.t0).size : Int) < n := by omega
    clear h1 hlen hz
    go_enter Try.func33, Try.ntmps33
    go_wp2_with (go_at_call 35; refine HB.out.mono ?_; rintro e w1 ⟨rfl, hp⟩; have HP := hd hp; obtain ⟨c0, c1, c2, c3, c4, c5, cs0, cs1, cf0, cf1⟩ := hp.raw.cells; simp only [RS.toF] at c2 c3 c4 c5 cs0 cs1 cf0 cf1; clear hp)
    go_ret
    exact ⟨rfl, HP.out⟩
theorem sync_toF1 (s1 : RS) : (s1.sync1 1).1.toF = { s1.toF with n1 := s1.t1.length, ops := wrap64 (s1.ops + 1) } := by
  show (s1.tick.put 1 _ _).toF = _
  rw [toF_put1, List.append_nil]
  rfl
set_option maxHeartbeats 800000 in
theorem rsync1 (b gs gf : Nat) (s s1 : RS) (w : World) (hR : FRaw w b gs gf s.toF) (hok : s.Ok) (he : s.begin_ 1 = (s1, 0)) :
    Calls Try.prog 31 #[.pointer (some ⟨b, 0, none⟩), .int .i64 1] w fun e w' => e = .returned (.int .i64 0) ∧ FPost w b gs gf (s1.sync1 1).1.toF w' := by
  have hB := rbegin_any b gs gf 1 s w hR hok
  have hok1 := hok.begin_ 1
  rw [he] at hB hok1
  have HB := hd hB
  have HO := hd hok1
  clear hB hR hok he hok1
  go_enter Try.func31, Try.ntmps31
  go_wp2_with (go_at_call 35; refine HB.out.mono ?_; rintro e w1 ⟨rfl, hp⟩)
  have HP := hd hp
  obtain ⟨c0, c1, c2, c3, c4, c5, cs0, cs1, cf0, cf1⟩ := hp.raw.cells
  have f5 := hp.raw.blk.frozen 5
  have fs := hp.raw.nums.frozen 1
  have d1 := hp.raw.d2
  have HZ := hd (str_size s1.t1)
  simp only [RS.toF] at c2 c3 c4 c5 cs0 cs1 cf0 cf1
  clear hp
  go_region
  rw [HZ.out]
  have HX := hd ((HP.out.drew.setF (x' := { s1.toF with n1 := s1.t1.length }) 1 (.int .i64 (s1.t1.length : Int)) rfl rfl rfl).setB (x' := { s1.toF with n1 := s1.t1.length, ops := wrap64 (s1.ops + 1) }) 5 (.int .i64 (wrap64 (s1.ops + 1))) rfl rfl rfl)
  clear HP HZ
  go_wp2
  go_ret
  exact ⟨rfl, by rw [sync_toF1]; exact HX.out⟩

set_option maxHeartbeats 800000 in
theorem rwipe1 (b gs gf : Nat) (s s1 : RS) (w : World) (hR : FRaw w b gs gf s.toF) (hok : s.Ok) (he : s.begin_ 1 = (s1, 0)) :
    Calls Try.prog 32 #[.pointer (some ⟨b, 0, none⟩), .int .i64 1] w fun e w' => e = .returned (.int .i64 0) ∧ FPost w b gs gf (s1.wipe1 1).1.toF w' := by
  have hB := rbegin_any b gs gf 1 s w hR hok
  rw [he] at hB
  have HB := hd hB
  clear hB hR hok he
  go_enter Try.func32, Try.ntmps32
  go_wp2_with (go_at_call 35; refine HB.out.mono ?_; rintro e w1 ⟨rfl, hp⟩)
  have HP := hd hp
  obtain ⟨c0, c1, c2, c3, c4, c5, cs0, cs1, cf0, cf1⟩ := hp.raw.cells
  have f5 := hp.raw.blk.frozen 5
  have ff := hp.raw.nums.frozen 1
  have fs := hp.raw.strs.frozen 1
  have d1 := hp.raw.d1
  have d2 := hp.raw.d2
  have d3 := hp.raw.d3
  simp only [RS.toF] at c2 c3 c4 c5 cs0 cs1 cf0 cf1
  clear hp
  go_region
  all_goals
    have HX := hd (((HP.out.drew.setS (x' := { s1.toF with S1 := [] }) 1 (.string ⟨#[]⟩) rfl rfl rfl).setF (x' := { s1.toF with S1 := [], n1 := 0 }) 1 (.int .i64 0) rfl rfl rfl).setB (x' := (s1.wipe1 1).1.toF) 5 (.int .i64 (wrap64 (s1.ops + 1))) rfl rfl rfl)
    clear HP
    try rw [setCell_swap _ ⟨gf, 1, none⟩ ⟨gs, 1, none⟩ _ _ (.inl (fun q => d3 q.symm))]
    go_wp2
    go_ret
    exact ⟨rfl, HX.out⟩

theorem trim_toF1 (s1 : RS) (n : Int) (h1 : n ≤ (s1.safe 1).length + (s1.rest 1).length) : (s1.trim1 1 n).1.toF = { s1.toF with S1 := s1.t1.take n.toNat, n1 := (min (s1.safe 1).length n.toNat : Nat), ops := wrap64 (s1.ops + 1) } := by
  rw [trim1_of h1]
  show (s1.tick.put 1 _ _).toF = _
  rw [toF_put1]
  simp only [RS.toF, RS.tick, RS.t0, RS.t1, RS.safe, RS.rest, List.take_append, List.length_take, if_true, show ¬ ((1 : Int) = 0) from by decide, if_false, FS.mk.injEq, and_true, true_and, Nat.min_comm]
set_option maxHeartbeats 1600000 in
theorem rtrim1 (b gs gf : Nat) (n : Int) (s s1 : RS) (w : World) (hR : FRaw w b gs gf s.toF) (hok : s.Ok) (he : s.begin_ 1 = (s1, 0)) (h0 : 0 ≤ n) :
    Calls Try.prog 33 #[.pointer (some ⟨b, 0, none⟩), .int .i64 1, .int .i64 n] w fun e w' => e = .returned (.int .i64 (s1.trim1 1 n).2) ∧ FPost w b gs gf (s1.trim1 1 n).1.toF w' := by
  have hB := rbegin_any b gs gf 1 s w hR hok
  have hok1 := hok.begin_ 1
  rw [he] at hB hok1
  have HB := hd hB
  have HO := hd hok1
  have hlen : (s1.t1.length : Int) = (s1.safe 1).length + (s1.rest 1).length := by simp [RS.t0, RS.t1, RS.safe, RS.rest]
  have hz : (str s1.t1).size = s1.t1.length := str_size _
  clear hB hR hok he hok1
  by_cases h1 : n ≤ (s1.safe 1).length + (s1.rest 1).length
  · have HE := hd (trim_toF1 s1 n h1)
    have HR : Hd ((s1.trim1 1 n).2 = 0) := hd (by rw [trim1_of h1])
    rw [HR.out]
    have h2 : n ≤ ((str s1.t1).size : Int) := by omega
    have HL := hd h1
    clear h1 hlen hz HR
    go_enter Try.func33, Try.ntmps33
    go_wp2_with (go_at_call 35; refine HB.out.mono ?_; rintro e w1 ⟨rfl, hp⟩; have HP := hd hp; obtain ⟨c0, c1, c2, c3, c4, c5, cs0, cs1, cf0, cf1⟩ := hp.raw.cells; have f5 := hp.raw.blk.frozen 5; have ff := hp.raw.nums.frozen 1; have fs := hp.raw.strs.frozen 1; have d1 := hp.raw.d1; have d2 := hp.raw.d2; have d3 := hp.raw.d3; simp only [RS.toF] at c2 c3 c4 c5 cs0 cs1 cf0 cf1; clear hp)
    have hcut : (str s1.t1).extract 0 n.toNat = str (s1.t1.take n.toNat) := str_cut _ _
    by_cases hlt : n < ((s1.safe 1).length : Int)
    · have HN : Hd ((min (s1.safe 1).length n.toNat : Nat) = n.toNat) := hd (by omega)
      have hlt' : n < (s1.s1.length : Int) := hlt
      have HN2 : Hd ((n.toNat : Int) = n) := hd (by omega)
      clear hlt
      go_region
      go_wp2
      go_region
      have HX := hd ((((HP.out.drew.drew.setS (x' := { s1.toF with S1 := s1.t1.take n.toNat }) 1 (.string (str (s1.t1.take n.toNat))) rfl rfl rfl).setF (x' := { s1.toF with S1 := s1.t1.take n.toNat, n1 := n }) 1 (.int .i64 n) rfl rfl rfl)).setB (x' := { s1.toF with S1 := s1.t1.take n.toNat, n1 := n, ops := wrap64 (s1.ops + 1) }) 5 (.int .i64 (wrap64 (s1.ops + 1))) rfl rfl rfl)
      clear HP hcut
      go_wp2
      go_ret
      exact ⟨rfl, by rw [HE.out, HN.out, HN2.out]; exact HX.out⟩
    · have HN : Hd ((min (s1.safe 1).length n.toNat : Nat) = s1.s1.length) := hd (by show (min s1.s1.length n.toNat : Nat) = s1.s1.length; have : ¬ n < (s1.s1.length : Int) := hlt; omega)
      have hlt' : ¬ n < (s1.s1.length : Int) := hlt
      clear hlt
      go_region
      go_wp2
      go_region
      have HX := hd ((((HP.out.drew.drew.setS (x' := { s1.toF with S1 := s1.t1.take n.toNat }) 1 (.string (str (s1.t1.take n.toNat))) rfl rfl rfl).setF (x' := { s1.toF with S1 := s1.t1.take n.toNat }) 1 (.int .i64 s1.s1.length) rfl rfl rfl)).setB (x' := { s1.toF with S1 := s1.t1.take n.toNat, ops := wrap64 (s1.ops + 1) }) 5 (.int .i64 (wrap64 (s1.ops + 1))) rfl rfl rfl)
      clear HP hcut
      go_wp2
      go_ret
      exact ⟨rfl, by rw [HE.out, HN.out]; exact HX.out⟩
  · have HE : Hd (s1.trim1 1 n = (s1, 2)) := hd (if_pos (by omega))
    rw [HE.out]
    have h2 : ((str s1.t1).size : Int) < n := by omega
    clear h1 hlen hz
    go_enter Try.func33, Try.ntmps33
    go_wp2_with (go_at_call 35; refine HB.out.mono ?_; rintro e w1 ⟨rfl, hp⟩; have HP := hd hp; obtain ⟨c0, c1, c2, c3, c4, c5, cs0, cs1, cf0, cf1⟩ := hp.raw.cells; simp only [RS.toF] at c2 c3 c4 c5 cs0 cs1 cf0 cf1; clear hp)
    go_ret
    exact ⟨rfl, HP.out⟩
end Go.Proofs.Ytjmddbhbibmjdaa
