/-
  The reference's Write, Sync, Wipe, Trim of any tape; the law's 'model'.
-/
import Derived.Test.YtjmddbhbibmjdaaRef4
namespace Go.Proofs.Ytjmddbhbibmjdaa
set_option linter.unusedVariables false
set_option linter.unusedSimpArgs false
open Go.RowKit

set_option maxHeartbeats 800000 in
theorem rwrite_any (b gs gf : Nat) (t : Int) (s : RS) (w : World) (q : ByteArray) (hR : FRaw w b gs gf s.toF) (hok : s.Ok) (hq : (q.size : Int) ≤ 4194304) :
    Calls Try.prog 30 #[.pointer (some ⟨b, 0, none⟩), .int .i64 t, .string q] w fun e w' => e = .returned (.int .i64 (s.write t q.data.toList).2) ∧ FPost w b gs gf (s.write t q.data.toList).1.toF w' := by
  by_cases he : (s.begin_ t).2 = 0
  · have hw : s.write t q.data.toList = (s.begin_ t).1.write1 t q.data.toList := if_neg (by simp [he])
    rw [hw]
    have e2 : s.begin_ t = ((s.begin_ t).1, 0) := by rw [← he]
    rcases RS.begin_in he with rfl | rfl
    · exact rwrite0 b gs gf s _ w q hR hok hq e2
    · exact rwrite1 b gs gf s _ w q hR hok hq e2
  · have hB := hd (rbegin_any b gs gf t s w hR hok)
    have hw : s.write t q.data.toList = s.begin_ t := if_pos he
    rw [hw]
    generalize s.begin_ t = s1e at *
    obtain ⟨s1, e1⟩ := s1e
    have he' : (e1 != 0) = true := by simpa using he
    clear he hw hR hok
    go_enter Try.func30, Try.ntmps30
    go_wp2_with (go_at_call 35; refine hB.out.mono ?_; rintro e w1 ⟨rfl, hp⟩)
    go_ret
    exact ⟨rfl, hp⟩

set_option maxHeartbeats 800000 in
theorem rsync_any (b gs gf : Nat) (t : Int) (s : RS) (w : World) (hR : FRaw w b gs gf s.toF) (hok : s.Ok) :
    Calls Try.prog 31 #[.pointer (some ⟨b, 0, none⟩), .int .i64 t] w fun e w' => e = .returned (.int .i64 (s.sync t).2) ∧ FPost w b gs gf (s.sync t).1.toF w' := by
  by_cases he : (s.begin_ t).2 = 0
  · have hw : s.sync t = (s.begin_ t).1.sync1 t := if_neg (by simp [he])
    rw [hw]
    have e2 : s.begin_ t = ((s.begin_ t).1, 0) := by rw [← he]
    rcases RS.begin_in he with rfl | rfl
    · exact rsync0 b gs gf s _ w hR hok e2
    · exact rsync1 b gs gf s _ w hR hok e2
  · have hB := hd (rbegin_any b gs gf t s w hR hok)
    have hw : s.sync t = s.begin_ t := if_pos he
    rw [hw]
    generalize s.begin_ t = s1e at *
    obtain ⟨s1, e1⟩ := s1e
    have he' : (e1 == 0) = false := by simpa using he
    clear he hw hR hok
    go_enter Try.func31, Try.ntmps31
    go_wp2_with (go_at_call 35; refine hB.out.mono ?_; rintro e w1 ⟨rfl, hp⟩)
    go_ret
    exact ⟨rfl, hp⟩
set_option maxHeartbeats 800000 in
theorem rwipe_any (b gs gf : Nat) (t : Int) (s : RS) (w : World) (hR : FRaw w b gs gf s.toF) (hok : s.Ok) :
    Calls Try.prog 32 #[.pointer (some ⟨b, 0, none⟩), .int .i64 t] w fun e w' => e = .returned (.int .i64 (s.wipe t).2) ∧ FPost w b gs gf (s.wipe t).1.toF w' := by
  by_cases he : (s.begin_ t).2 = 0
  · have hw : s.wipe t = (s.begin_ t).1.wipe1 t := if_neg (by simp [he])
    rw [hw]
    have e2 : s.begin_ t = ((s.begin_ t).1, 0) := by rw [← he]
    rcases RS.begin_in he with rfl | rfl
    · exact rwipe0 b gs gf s _ w hR hok e2
    · exact rwipe1 b gs gf s _ w hR hok e2
  · have hB := hd (rbegin_any b gs gf t s w hR hok)
    have hw : s.wipe t = s.begin_ t := if_pos he
    rw [hw]
    generalize s.begin_ t = s1e at *
    obtain ⟨s1, e1⟩ := s1e
    have he' : (e1 == 0) = false := by simpa using he
    clear he hw hR hok
    go_enter Try.func32, Try.ntmps32
    go_wp2_with (go_at_call 35; refine hB.out.mono ?_; rintro e w1 ⟨rfl, hp⟩)
    go_ret
    exact ⟨rfl, hp⟩

set_option maxHeartbeats 800000 in
theorem rtrim_any (b gs gf : Nat) (t n : Int) (s : RS) (w : World) (hR : FRaw w b gs gf s.toF) (hok : s.Ok) :
    Calls Try.prog 33 #[.pointer (some ⟨b, 0, none⟩), .int .i64 t, .int .i64 n] w fun e w' => e = .returned (.int .i64 (s.trim t n).2) ∧ FPost w b gs gf (s.trim t n).1.toF w' := by
  by_cases hn : n < 0
  · have hw : s.trim t n = (s, 2) := if_pos hn
    rw [hw]
    have HP := hd hR.post
    clear hw hR hok
    go_enter Try.func33, Try.ntmps33
    go_wp2
    go_ret
    exact ⟨rfl, HP.out⟩
  have hw1 : s.trim t n = s.op t (·.trim1 t n) := if_neg hn
  have hn' : 0 ≤ n := by omega
  by_cases he : (s.begin_ t).2 = 0
  · have hw : s.trim t n = (s.begin_ t).1.trim1 t n := hw1.trans (if_neg (by simp [he]))
    rw [hw]
    have e2 : s.begin_ t = ((s.begin_ t).1, 0) := by rw [← he]
    rcases RS.begin_in he with rfl | rfl
    · exact rtrim0 b gs gf n s _ w hR hok e2 hn'
    · exact rtrim1 b gs gf n s _ w hR hok e2 hn'
  · have hB := hd (rbegin_any b gs gf t s w hR hok)
    have hw : s.trim t n = s.begin_ t := hw1.trans (if_pos he)
    rw [hw]
    generalize s.begin_ t = s1e at *
    obtain ⟨s1, e1⟩ := s1e
    have he' : (e1 != 0) = true := by simpa using he
    clear he hw hR hw1 hn hok
    go_enter Try.func33, Try.ntmps33
    go_wp2_with (go_at_call 35; refine hB.out.mono ?_; rintro e w1 ⟨rfl, hp⟩)
    go_ret
    exact ⟨rfl, hp⟩

theorem FPost.of_alloc {w w' : World} {b gs gf : Nat} {x : FS} {o : Obj} (h : FPost (w.alloc o) b gs gf x w') : FPost w b gs gf x w' :=
  ⟨h.raw, ((Chg.refl (· ∈ FFoot b gs gf) w).alloc o).trans h.chg (fun _ q => .inl q)⟩

set_option maxHeartbeats 1600000 in
theorem model_any (b gs gf : Nat) (a : Act) (s : RS) (w : World) (hR : FRaw w b gs gf s.toF) (hok : s.Ok) (hs : a.s.size ≤ 20000) :
    Calls Try.prog 23 #[.pointer (some ⟨b, 0, none⟩), .agg #[.int .i64 a.kind, .int .i64 a.t, .string a.s, .int .i64 a.n, .int .i64 a.k0, .int .i64 a.k1, .int .u8 a.turn.toNat]] w fun e w' => e = .returned (.int .i64 (s.does a).2) ∧ FPost w b gs gf (s.does a).1.toF w' := by
  have HN : Hd (∀ (o : Obj), FRaw (w.alloc o) b gs gf s.toF) := hd fun o => hR.alloc o
  have HO := hd hok
  obtain ⟨kind, t, q, n, c0, c1, turn⟩ := a
  have hq : (q.size : Int) ≤ 4194304 := by have h : q.size ≤ 20000 := hs; omega
  clear hs hok
  dsimp only
  by_cases k0 : kind = 0
  · have HD : Hd (s.does ⟨kind, t, q, n, c0, c1, turn⟩ = s.write t q.data.toList) := hd (by unfold RS.does; dsimp only; rw [if_pos k0])
    have h0 : (kind == 0) = true := by simp [k0]
    clear hR k0
    go_enter Try.func23, Try.ntmps23
    go_wp2_with (go_at_call 30; refine (rwrite_any b gs gf t s _ q (HN.out _) HO.out hq).mono ?_; rintro e w1 ⟨rfl, hp⟩)
    go_ret
    rw [HD.out]
    exact ⟨rfl, hp.of_alloc⟩
  by_cases k1 : kind = 1
  · have HD : Hd (s.does ⟨kind, t, q, n, c0, c1, turn⟩ = s.sync t) := hd (by unfold RS.does; dsimp only; rw [if_neg (by omega), if_pos k1])
    have h0 : (kind == 0) = false := by simp; omega
    have h1 : (kind == 1) = true := by simp [k1]
    clear hR k0 k1
    go_enter Try.func23, Try.ntmps23
    go_wp2_with (go_at_call 31; refine (rsync_any b gs gf t s _ (HN.out _) HO.out).mono ?_; rintro e w1 ⟨rfl, hp⟩)
    go_ret
    rw [HD.out]
    exact ⟨rfl, hp.of_alloc⟩
  by_cases k2 : kind = 2
  · have HD : Hd (s.does ⟨kind, t, q, n, c0, c1, turn⟩ = s.wipe t) := hd (by unfold RS.does; dsimp only; rw [if_neg (by omega), if_neg (by omega), if_pos k2])
    have h0 : (kind == 0) = false := by simp; omega
    have h1 : (kind == 1) = false := by simp; omega
    have h2 : (kind == 2) = true := by simp [k2]
    clear hR k0 k1 k2
    go_enter Try.func23, Try.ntmps23
    go_wp2_with (go_at_call 32; refine (rwipe_any b gs gf t s _ (HN.out _) HO.out).mono ?_; rintro e w1 ⟨rfl, hp⟩)
    go_ret
    rw [HD.out]
    exact ⟨rfl, hp.of_alloc⟩
  by_cases k3 : kind = 3
  · have HD : Hd (s.does ⟨kind, t, q, n, c0, c1, turn⟩ = s.trim t n) := hd (by unfold RS.does; dsimp only; rw [if_neg (by omega), if_neg (by omega), if_neg (by omega), if_pos k3])
    have h0 : (kind == 0) = false := by simp; omega
    have h1 : (kind == 1) = false := by simp; omega
    have h2 : (kind == 2) = false := by simp; omega
    have h3 : (kind == 3) = true := by simp [k3]
    clear hR k0 k1 k2 k3
    go_enter Try.func23, Try.ntmps23
    go_wp2_with (go_at_call 33; refine (rtrim_any b gs gf t n s _ (HN.out _) HO.out).mono ?_; rintro e w1 ⟨rfl, hp⟩)
    go_ret
    rw [HD.out]
    exact ⟨rfl, hp.of_alloc⟩
  by_cases k4 : kind = 4
  · have HD : Hd (s.does ⟨kind, t, q, n, c0, c1, turn⟩ = (s.arm n, 0)) := hd (by unfold RS.does; dsimp only; rw [if_neg (by omega), if_neg (by omega), if_neg (by omega), if_neg (by omega), if_pos k4])
    have h0 : (kind == 0) = false := by simp; omega
    have h1 : (kind == 1) = false := by simp; omega
    have h2 : (kind == 2) = false := by simp; omega
    have h3 : (kind == 3) = false := by simp; omega
    have h4 : (kind == 4) = true := by simp [k4]
    have HP : Hd (∀ o : Obj, FPost w b gs gf (s.arm n).toF ((w.alloc o).setCell ⟨b, 3, none⟩ (.int .i64 n))) := hd fun o => ((hR.post.alloc o).setB 3 _ rfl rfl rfl)
    have fz : ∀ o : Obj, (w.alloc o).frozen? ⟨b, 3, none⟩ = false := fun o => (HN.out o).blk.frozen 3
    have cz : ∀ o : Obj, (w.alloc o).cell? ⟨b, 3, none⟩ = some (.int .i64 s.left) := fun o => (HN.out o).blk.cell 3
    clear hR k0 k1 k2 k3 k4
    go_enter Try.func23, Try.ntmps23
    go_wp2
    go_ret
    rw [HD.out]
    exact ⟨rfl, HP.out _⟩
  by_cases k5 : kind = 5
  · have HD : Hd (s.does ⟨kind, t, q, n, c0, c1, turn⟩ = (s.crash c0 c1 turn, 0)) := hd (by unfold RS.does; dsimp only; rw [if_neg (by omega), if_neg (by omega), if_neg (by omega), if_neg (by omega), if_neg (by omega), if_pos k5])
    have h0 : (kind == 0) = false := by simp; omega
    have h1 : (kind == 1) = false := by simp; omega
    have h2 : (kind == 2) = false := by simp; omega
    have h3 : (kind == 3) = false := by simp; omega
    have h4 : (kind == 4) = false := by simp; omega
    have h5 : (kind == 5) = true := by simp [k5]
    clear hR k0 k1 k2 k3 k4 k5
    go_enter Try.func23, Try.ntmps23
    go_wp2_with (go_at_call 34; refine (rcrash_any b gs gf c0 c1 turn s _ (HN.out _) HO.out).mono ?_; rintro e w1 ⟨rfl, hp⟩)
    go_ret
    rw [HD.out]
    exact ⟨rfl, hp.of_alloc⟩
  · have HD : Hd (s.does ⟨kind, t, q, n, c0, c1, turn⟩ = (s, 0)) := hd (by unfold RS.does; dsimp only; rw [if_neg (by omega), if_neg (by omega), if_neg (by omega), if_neg (by omega), if_neg (by omega), if_neg (by omega)])
    have h0 : (kind == 0) = false := by simp; omega
    have h1 : (kind == 1) = false := by simp; omega
    have h2 : (kind == 2) = false := by simp; omega
    have h3 : (kind == 3) = false := by simp; omega
    have h4 : (kind == 4) = false := by simp; omega
    have h5 : (kind == 5) = false := by simp; omega
    clear k0 k1 k2 k3 k4 k5
    have HP : Hd (∀ o : Obj, FPost w b gs gf s.toF (w.alloc o)) := hd fun o => hR.post.alloc o
    clear hR
    go_enter Try.func23, Try.ntmps23
    go_wp2
    go_ret
    rw [HD.out]
    exact ⟨rfl, HP.out _⟩
end Go.Proofs.Ytjmddbhbibmjdaa
